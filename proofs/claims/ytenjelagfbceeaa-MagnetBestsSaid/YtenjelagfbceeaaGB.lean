/- What functions of the program compute, and that they do. -/
import Derived.Test.YtenjelagfbceeaaTs14
import Derived.Test.YtenjelagfbceeaaProg
import Derived.KernelRfl
import Derived.Test.YtenjelagfbceeaaGiven
import Derived.Test.YtenjelagfbceeaaI82s
set_option linter.unusedVariables false
set_option linter.unusedSimpArgs false
set_option maxRecDepth 100000
set_option maxHeartbeats 4000000
namespace Go.Proofs.Ytenjelagfbceeaa
open Go Go.Cl

-- agonic/magnet.between
noncomputable def c68 : Code := Try.f68.code
def F68 (p0 : Int) (p1 : Int) (p2 : Int) : Option Bool :=
  (
    if decide (p0 ≤ p1) then
      some (decide (p1 ≤ p2))
    else
      some (false)
  : Option Bool) >>= fun m2 =>
  some m2
def V68 (b : Nat) (r : Bool) : Value := .bool r
def N68 (b : Nat) (r : Bool) : List Blk := []
theorem B68 (p0 : Int) (p1 : Int) (p2 : Int) (r : Bool) (hF : F68 p0 p1 p2 = some r) : TS Try.prog 0 0 c68 (st 15 [(0, iv p0), (1, iv p1), (2, iv p2)]) [] (NX Try.prog 0 0 [] (FinP Try.prog Try.f68 0 (V68 0 r) (N68 0 r))) := by
  unfold F68 at hF
  refine TS.sq (TS.rg (TI.ra 1 [0, 1, 2] (st 15 [(0, iv p0), (1, iv p1), (2, iv p2)]) (TI.dn (NX.sq (TS.sq ?_)))))
  have hX := of_do hF
  clear hF
  obtain ⟨m2, hm3, hF⟩ := hX
  have hK : NX Try.prog 0 0 [.sq c68.s2.s2] (FinP Try.prog Try.f68 0 (V68 0 r) (N68 0 r)) .normal (st 15 [(6, .bool m2)]) [] := by
    refine NX.sq (TS.rt ?_)
    have hF := Option.some.inj hF
    subst hF
    exact ⟨.inr rfl, rfl, .bool m2, by kernel_rfl, WkV.flat0 (by kernel_rfl) (Nat.le_of_ble_eq_true rfl)⟩
  rcases Bool.eq_false_or_eq_true (decide (p0 ≤ p1)) with hc1 | hc1
  · replace hm3 := of_pos hm3 hc1
    have hm3 := Option.some.inj hm3
    subst hm3
    exact TS.rg (TI.ra 2 [1, 2, 7, 8] (st 15 [(1, iv p1), (2, iv p2), (7, iv p0), (8, iv p1)]) (TI.o { val := .bool true } (q_conv (e := decide (p0 ≤ p1)) (b := true) (by kernel_rfl) hc1) [1, 2, 9] [] (st 15 [(1, iv p1), (2, iv p2), (9, .bool true)]) [] (TI.ra 6 [6] (st 15 [(6, .bool (decide (p1 ≤ p2)))]) (TI.dn hK))))
  · replace hm3 := of_neg hm3 hc1
    have hm3 := Option.some.inj hm3
    subst hm3
    exact TS.rg (TI.ra 2 [1, 2, 7, 8] (st 15 [(1, iv p1), (2, iv p2), (7, iv p0), (8, iv p1)]) (TI.o { val := .bool false } (q_conv (e := decide (p0 ≤ p1)) (b := false) (by kernel_rfl) hc1) [1, 2, 9] [] (st 15 [(1, iv p1), (2, iv p2), (9, .bool false)]) [] (TI.ra 6 [6] (st 15 [(6, .bool false)]) (TI.dn hK))))
theorem C68 (p0 : Int) (p1 : Int) (p2 : Int) (r : Bool) (hF : F68 p0 p1 p2 = some r) : PureSim Try.prog 68 [iv p0, iv p1, iv p2] [] (V68 0 r) (N68 0 r) :=
  PureSim.of_Fin Try.func68 (c := c68) (by kernel_rfl) (by kernel_rfl) 0 rfl [0, 1, 2] [] (by kernel_rfl) (B68 p0 p1 p2 r hF)

-- (agonic/magnet.Vector).within
noncomputable def c58 : Code := Try.f58.code
def F58 (p0 : Int) (p1 : Int) (p2 : Int) : Option Bool :=
  F68 (w64 (0 - p2)) p0 p2 >>= fun r1 =>
  (
    if r1 then
      F68 (w64 (0 - p2)) p1 p2 >>= fun r3 =>
      some (r3)
    else
      some (false)
  : Option Bool) >>= fun m5 =>
  some m5
def V58 (b : Nat) (r : Bool) : Value := .bool r
def N58 (b : Nat) (r : Bool) : List Blk := []
theorem B58 (p0 : Int) (p1 : Int) (p2 : Int) (r : Bool) (hF : F58 p0 p1 p2 = some r) : TS Try.prog 0 0 c58 (st 19 [(0, ag [iv p0, iv p1]), (1, iv p2)]) [] (NX Try.prog 0 0 [] (FinP Try.prog Try.f58 0 (V58 0 r) (N58 0 r))) := by
  unfold F58 at hF
  refine TS.sq (TS.rg (TI.rn 2 [1, 2] [0] (st 19 [(1, iv p2), (2, pt 0 0)]) [cl 23 [iv p0, iv p1]] (TI.dn (NX.sq (TS.sq ?_)))))
  have hX := of_do hF
  clear hF
  obtain ⟨r1, h2, hF⟩ := hX
  have hX := of_do hF
  clear hF
  obtain ⟨m5, hm6, hF⟩ := hX
  have hK : NX Try.prog 0 0 [.sq c58.s2.s2] (FinP Try.prog Try.f58 0 (V58 0 r) (N58 0 r)) .normal (st 19 [(4, .bool m5)]) [.dead] := by
    refine NX.sq (TS.rt ?_)
    have hF := Option.some.inj hF
    subst hF
    exact ⟨.inr rfl, rfl, .bool m5, by kernel_rfl, WkV.flat0 (by kernel_rfl) (Nat.le_of_ble_eq_true rfl)⟩
  cases r1 with
  | true =>
    replace hm6 := of_pos hm6 rfl
    have hX := of_do hm6
    clear hm6
    obtain ⟨r3, h4, hm6⟩ := hX
    have hm6 := Option.some.inj hm6
    subst hm6
    exact TS.rg (TI.ra 5 [1, 2, 6, 8, 9] (st 19 [(1, iv p2), (2, pt 0 0), (6, iv (w64 (0 - p2))), (8, iv p0), (9, iv p2)]) (TI.cf (C68 _ _ _ _ h2) (TI.rn 6 [11, 13, 15, 16] [] (st 19 [(11, .bool true), (13, iv (w64 (0 - p2))), (15, iv p1), (16, iv p2)]) [.dead] (TI.cf (C68 _ _ _ _ h4) (TI.ra 2 [4] (st 19 [(4, .bool r3)]) (TI.dn hK))))))
  | false =>
    replace hm6 := of_neg hm6 rfl
    have hm6 := Option.some.inj hm6
    subst hm6
    exact TS.rg (TI.ra 5 [1, 2, 6, 8, 9] (st 19 [(1, iv p2), (2, pt 0 0), (6, iv (w64 (0 - p2))), (8, iv p0), (9, iv p2)]) (TI.cf (C68 _ _ _ _ h2) (TI.rn 9 [4] [] (st 19 [(4, .bool false)]) [.dead] (TI.dn hK))))
theorem C58 (p0 : Int) (p1 : Int) (p2 : Int) (r : Bool) (hF : F58 p0 p1 p2 = some r) : PureSim Try.prog 58 [ag [iv p0, iv p1], iv p2] [] (V58 0 r) (N58 0 r) :=
  PureSim.of_Fin Try.func58 (c := c58) (by kernel_rfl) (by kernel_rfl) 0 rfl [0, 1] [] (by kernel_rfl) (B58 p0 p1 p2 r hF)

-- (agonic/magnet.Vector).cross
noncomputable def c59 : Code := Try.f59.code
def F59 (p0 : Int) (p1 : Int) (p2 : Int) (p3 : Int) : Option Int :=
  some (w64 ((w64 (p0 * p3)) - (w64 (p1 * p2))))
def V59 (b : Nat) (r : Int) : Value := iv r
def N59 (b : Nat) (r : Int) : List Blk := []
theorem B59 (p0 : Int) (p1 : Int) (p2 : Int) (p3 : Int) (r : Int) (hF : F59 p0 p1 p2 p3 = some r) : TS Try.prog 0 0 c59 (st 16 [(0, ag [iv p0, iv p1]), (1, ag [iv p2, iv p3])]) [] (NX Try.prog 0 0 [] (FinP Try.prog Try.f59 0 (V59 0 r) (N59 0 r))) := by
  unfold F59 at hF
  refine TS.sq (TS.rg (TI.rn 3 [2, 3] [0, 1] (st 16 [(2, pt 0 0), (3, pt 1 0)]) [cl 23 [iv p0, iv p1], cl 23 [iv p2, iv p3]] (TI.dn (NX.sq (TS.sq (TS.rg (TI.rn 12 [4] [] (st 16 [(4, iv (w64 ((w64 (p0 * p3)) - (w64 (p1 * p2)))))]) [.dead, .dead] (TI.dn ?_))))))))
  refine NX.sq (TS.rt ?_)
  have hF := Option.some.inj hF
  subst hF
  exact ⟨.inr rfl, rfl, iv (w64 ((w64 (p0 * p3)) - (w64 (p1 * p2)))), by kernel_rfl, WkV.flat0 (by kernel_rfl) (Nat.le_of_ble_eq_true rfl)⟩
theorem C59 (p0 : Int) (p1 : Int) (p2 : Int) (p3 : Int) (r : Int) (hF : F59 p0 p1 p2 p3 = some r) : PureSim Try.prog 59 [ag [iv p0, iv p1], ag [iv p2, iv p3]] [] (V59 0 r) (N59 0 r) :=
  PureSim.of_Fin Try.func59 (c := c59) (by kernel_rfl) (by kernel_rfl) 0 rfl [0, 1] [] (by kernel_rfl) (B59 p0 p1 p2 p3 r hF)

-- agonic/magnet.Check
noncomputable def c20 : Code := Try.f20.code
def F20 (p0 : Int) (p1 : Int) (p2 : Int) (p3 : Int) : Option Int :=
  F58 p0 p1 1000 >>= fun r1 =>
  (
    if r1 then
      F58 p2 p3 1000 >>= fun r3 =>
      if r3 then
        some (false)
      else
        some (true)
    else
      some (true)
  : Option Bool) >>= fun m5 =>
  if m5 then
    some 1
  else
    F59 p0 p1 p2 p3 >>= fun r6 =>
    if r6 == 0 then
      some 15
    else
      some 0
def V20 (b : Nat) (r : Int) : Value := iv r
def N20 (b : Nat) (r : Int) : List Blk := []
theorem B20 (p0 : Int) (p1 : Int) (p2 : Int) (p3 : Int) (r : Int) (hF : F20 p0 p1 p2 p3 = some r) : TS Try.prog 0 0 c20 (st 21 [(0, ag [iv p0, iv p1, iv p2, iv p3])]) [] (NX Try.prog 0 0 [] (FinP Try.prog Try.f20 0 (V20 0 r) (N20 0 r))) := by
  unfold F20 at hF
  refine TS.sq (TS.rg (TI.rn 2 [1] [0] (st 21 [(1, pt 0 0)]) [cl 25 [iv p0, iv p1, iv p2, iv p3]] (TI.dn (NX.sq (TS.sq (TS.bk 0 (TS.sq ?_)))))))
  have hX := of_do hF
  clear hF
  obtain ⟨r1, h2, hF⟩ := hX
  have hX := of_do hF
  clear hF
  obtain ⟨m5, hm9, hF⟩ := hX
  have hK : NX Try.prog 0 0 [.sq c20.s2.s1.bd.s2, .bk 0, .sq c20.s2.s2] (FinP Try.prog Try.f20 0 (V20 0 r) (N20 0 r)) .normal (st 21 [(1, pt 0 0), (3, .bool m5)]) [cl 25 [iv p0, iv p1, iv p2, iv p3]] := by
    refine NX.sq ?_
    cases m5 with
    | true =>
      replace hF := of_pos hF rfl
      refine TS.cdT (.tmp 3) (TS.sq (TS.rg (TI.rn 1 [2] [] (st 21 [(2, iv 1)]) [.dead] (TI.dn (NX.sq (TS.rt (NX.bkR (NX.sqR ?_))))))))
      have hF := Option.some.inj hF
      subst hF
      exact ⟨.inr rfl, rfl, iv 1, by kernel_rfl, WkV.flat0 (by kernel_rfl) (Nat.le_of_ble_eq_true rfl)⟩
    | false =>
      replace hF := of_neg hF rfl
      refine TS.cdF (.tmp 3) (TS.sq ?_)
      have hX := of_do hF
      clear hF
      obtain ⟨r6, h7, hF⟩ := hX
      refine TS.rg (TI.rn 4 [16, 18] [] (st 21 [(16, ag [iv p0, iv p1]), (18, ag [iv p2, iv p3])]) [.dead] (TI.cf (C59 _ _ _ _ _ h7) (TI.ra 2 [14] (st 21 [(14, .bool (r6 == 0))]) (TI.dn (NX.sq ?_)))))
      refine TS.cd (.tmp 14) (r6 == 0) (fun hc8 => ?_) (fun hc8 => ?_)
      · replace hF := of_pos hF hc8
        refine TS.sq (TS.rg (TI.ra 1 [2] (st 21 [(2, iv 15)]) (TI.dn (NX.sq (TS.rt (NX.bkR (NX.sqR ?_)))))))
        have hF := Option.some.inj hF
        subst hF
        exact ⟨.inr rfl, rfl, iv 15, by kernel_rfl, WkV.flat0 (by kernel_rfl) (Nat.le_of_ble_eq_true rfl)⟩
      · replace hF := of_neg hF hc8
        refine TS.sk (NX.bk (NX.sq (TS.sq (TS.rg (TI.ra 1 [2] (st 21 [(2, iv 0)]) (TI.dn (NX.sq (TS.rt ?_))))))))
        have hF := Option.some.inj hF
        subst hF
        exact ⟨.inr rfl, rfl, iv 0, by kernel_rfl, WkV.flat0 (by kernel_rfl) (Nat.le_of_ble_eq_true rfl)⟩
  cases r1 with
  | true =>
    replace hm9 := of_pos hm9 rfl
    have hX := of_do hm9
    clear hm9
    obtain ⟨r3, h4, hm9⟩ := hX
    cases r3 with
    | true =>
      replace hm9 := of_pos hm9 rfl
      have hm9 := Option.some.inj hm9
      subst hm9
      exact TS.rg (TI.ra 2 [1, 5] (st 21 [(1, pt 0 0), (5, ag [iv p0, iv p1])]) (TI.cf (C58 _ _ _ _ h2) (TI.ra 4 [1, 8, 10] (st 21 [(1, pt 0 0), (8, .bool false), (10, ag [iv p2, iv p3])]) (TI.cf (C58 _ _ _ _ h4) (TI.ra 3 [1, 3] (st 21 [(1, pt 0 0), (3, .bool false)]) (TI.dn hK))))))
    | false =>
      replace hm9 := of_neg hm9 rfl
      have hm9 := Option.some.inj hm9
      subst hm9
      exact TS.rg (TI.ra 2 [1, 5] (st 21 [(1, pt 0 0), (5, ag [iv p0, iv p1])]) (TI.cf (C58 _ _ _ _ h2) (TI.ra 4 [1, 8, 10] (st 21 [(1, pt 0 0), (8, .bool false), (10, ag [iv p2, iv p3])]) (TI.cf (C58 _ _ _ _ h4) (TI.ra 3 [1, 3] (st 21 [(1, pt 0 0), (3, .bool true)]) (TI.dn hK))))))
  | false =>
    replace hm9 := of_neg hm9 rfl
    have hm9 := Option.some.inj hm9
    subst hm9
    exact TS.rg (TI.ra 2 [1, 5] (st 21 [(1, pt 0 0), (5, ag [iv p0, iv p1])]) (TI.cf (C58 _ _ _ _ h2) (TI.ra 8 [1, 3] (st 21 [(1, pt 0 0), (3, .bool true)]) (TI.dn hK))))
theorem C20 (p0 : Int) (p1 : Int) (p2 : Int) (p3 : Int) (r : Int) (hF : F20 p0 p1 p2 p3 = some r) : PureSim Try.prog 20 [ag [iv p0, iv p1, iv p2, iv p3]] [] (V20 0 r) (N20 0 r) :=
  PureSim.of_Fin Try.func20 (c := c20) (by kernel_rfl) (by kernel_rfl) 0 rfl [0] [] (by kernel_rfl) (B20 p0 p1 p2 p3 r hF)

-- (agonic/magnet.Choice).small
noncomputable def c77 : Code := Try.f77.code
def F77 (p0 : Int) (p1 : Int) : Option Bool :=
  F68 (-100000000) p0 100000000 >>= fun r1 =>
  (
    if r1 then
      F68 (-100000000) p1 100000000 >>= fun r3 =>
      some (r3)
    else
      some (false)
  : Option Bool) >>= fun m5 =>
  some m5
def V77 (b : Nat) (r : Bool) : Value := .bool r
def N77 (b : Nat) (r : Bool) : List Blk := []
theorem B77 (p0 : Int) (p1 : Int) (r : Bool) (hF : F77 p0 p1 = some r) : TS Try.prog 0 0 c77 (st 11 [(0, ag [iv p0, iv p1])]) [] (NX Try.prog 0 0 [] (FinP Try.prog Try.f77 0 (V77 0 r) (N77 0 r))) := by
  unfold F77 at hF
  refine TS.sq (TS.rg (TI.rn 2 [1] [0] (st 11 [(1, pt 0 0)]) [cl 27 [iv p0, iv p1]] (TI.dn (NX.sq (TS.sq ?_)))))
  have hX := of_do hF
  clear hF
  obtain ⟨r1, h2, hF⟩ := hX
  have hX := of_do hF
  clear hF
  obtain ⟨m5, hm6, hF⟩ := hX
  have hK : NX Try.prog 0 0 [.sq c77.s2.s2] (FinP Try.prog Try.f77 0 (V77 0 r) (N77 0 r)) .normal (st 11 [(2, .bool m5)]) [.dead] := by
    refine NX.sq (TS.rt ?_)
    have hF := Option.some.inj hF
    subst hF
    exact ⟨.inr rfl, rfl, .bool m5, by kernel_rfl, WkV.flat0 (by kernel_rfl) (Nat.le_of_ble_eq_true rfl)⟩
  cases r1 with
  | true =>
    replace hm6 := of_pos hm6 rfl
    have hX := of_do hm6
    clear hm6
    obtain ⟨r3, h4, hm6⟩ := hX
    have hm6 := Option.some.inj hm6
    subst hm6
    exact TS.rg (TI.ra 2 [1, 4] (st 11 [(1, pt 0 0), (4, iv p0)]) (TI.cf (C68 _ _ _ _ h2) (TI.rn 3 [6, 8] [] (st 11 [(6, .bool true), (8, iv p1)]) [.dead] (TI.cf (C68 _ _ _ _ h4) (TI.ra 2 [2] (st 11 [(2, .bool r3)]) (TI.dn hK))))))
  | false =>
    replace hm6 := of_neg hm6 rfl
    have hm6 := Option.some.inj hm6
    subst hm6
    exact TS.rg (TI.ra 2 [1, 4] (st 11 [(1, pt 0 0), (4, iv p0)]) (TI.cf (C68 _ _ _ _ h2) (TI.rn 6 [2] [] (st 11 [(2, .bool false)]) [.dead] (TI.dn hK))))
theorem C77 (p0 : Int) (p1 : Int) (r : Bool) (hF : F77 p0 p1 = some r) : PureSim Try.prog 77 [ag [iv p0, iv p1]] [] (V77 0 r) (N77 0 r) :=
  PureSim.of_Fin Try.func77 (c := c77) (by kernel_rfl) (by kernel_rfl) 0 rfl [0] [] (by kernel_rfl) (B77 p0 p1 r hF)

-- (agonic/magnet.Kit).check$1
noncomputable def c76 : Code := Try.f76.code
def F76 (p0 : Int) (p1 : Int) : Option Bool :=
  F77 p0 p1 >>= fun r1 =>
  (
    if r1 then
      some (false)
    else
      some (true)
  : Option Bool) >>= fun m3 =>
  some m3
def V76 (b : Nat) (r : Bool) : Value := .bool r
def N76 (b : Nat) (r : Bool) : List Blk := []
theorem B76 (p0 : Int) (p1 : Int) (r : Bool) (hF : F76 p0 p1 = some r) : TS Try.prog 0 0 c76 (st 6 [(0, ag [iv p0, iv p1])]) [] (NX Try.prog 0 0 [] (FinP Try.prog Try.f76 0 (V76 0 r) (N76 0 r))) := by
  unfold F76 at hF
  refine TS.sq (TS.rg (TI.rn 2 [1] [0] (st 6 [(1, pt 0 0)]) [cl 27 [iv p0, iv p1]] (TI.dn (NX.sq (TS.sq ?_)))))
  have hX := of_do hF
  clear hF
  obtain ⟨r1, h2, hF⟩ := hX
  have hX := of_do hF
  clear hF
  obtain ⟨m3, hm4, hF⟩ := hX
  have hK : NX Try.prog 0 0 [.sq c76.s2.s2] (FinP Try.prog Try.f76 0 (V76 0 r) (N76 0 r)) .normal (st 6 [(2, .bool m3)]) [.dead] := by
    refine NX.sq (TS.rt ?_)
    have hF := Option.some.inj hF
    subst hF
    exact ⟨.inr rfl, rfl, .bool m3, by kernel_rfl, WkV.flat0 (by kernel_rfl) (Nat.le_of_ble_eq_true rfl)⟩
  cases r1 with
  | true =>
    replace hm4 := of_pos hm4 rfl
    have hm4 := Option.some.inj hm4
    subst hm4
    exact TS.rg (TI.rn 1 [3] [] (st 6 [(3, ag [iv p0, iv p1])]) [.dead] (TI.cf (C77 _ _ _ h2) (TI.ra 2 [2] (st 6 [(2, .bool false)]) (TI.dn hK))))
  | false =>
    replace hm4 := of_neg hm4 rfl
    have hm4 := Option.some.inj hm4
    subst hm4
    exact TS.rg (TI.rn 1 [3] [] (st 6 [(3, ag [iv p0, iv p1])]) [.dead] (TI.cf (C77 _ _ _ h2) (TI.ra 2 [2] (st 6 [(2, .bool true)]) (TI.dn hK))))
theorem C76 (p0 : Int) (p1 : Int) (r : Bool) (hF : F76 p0 p1 = some r) : PureSim Try.prog 76 [ag [iv p0, iv p1]] [] (V76 0 r) (N76 0 r) :=
  PureSim.of_Fin Try.func76 (c := c76) (by kernel_rfl) (by kernel_rfl) 0 rfl [0] [] (by kernel_rfl) (B76 p0 p1 r hF)

-- slices.IndexFunc[[]agonic/magnet.Choice,agonic/magnet.Choice]
noncomputable def c84 : Code := Try.f84.code
def S84_0 (p0 : (List (Int × Int))) (v7 : Int) : CAct := (st 19 [(0, .slice (some ⟨0, 0, none⟩) (List.length p0) ANY), (1, .func (.func 76) ⟨[]⟩ ⟨[]⟩), (7, iv (List.length p0 : Int)), (8, iv (w64 (v7 + 1)))])
def S84_1 (p0 : (List (Int × Int))) (v7 : Int) : CAct := (st 19 [(0, .slice (some ⟨0, 0, none⟩) (List.length p0) ANY), (1, .func (.func 76) ⟨[]⟩ ⟨[]⟩), (7, iv (List.length p0 : Int)), (8, iv v7)])
def S84_2 (p0 : (List (Int × Int))) : CAct := (st 19 [(0, .slice (some ⟨0, 0, none⟩) (List.length p0) ANY), (1, .func (.func 76) ⟨[]⟩ ⟨[]⟩), (7, iv (List.length p0 : Int)), (8, iv 0)])
def F84l0 (p0 : (List (Int × Int))) (v7 : Int) : Option (Int ⊕ Unit) :=
    if decide (v7 < (List.length p0 : Int)) then
      if (0 : Int) ≤ v7 ∧ v7 < (List.length p0 : Int) then
        some (List.getD p0 (Int.toNat v7) (0, 0)) >>= fun o17 =>
        F76 o17.1 o17.2 >>= fun r19 =>
        if r19 then
          some (.inl v7)
        else
          F84l0 p0 (w64 (v7 + 1))
      else none
    else
      some (.inr ())
  partial_fixpoint
def F84 (p0 : (List (Int × Int))) : Option Int :=
  F84l0 p0 0 >>= fun r21 =>
  match r21 with
  | .inl o23 =>
    some o23
  | .inr o24 =>
    some (-1)
def V84 (b : Nat) (r : Int) : Value := iv r
def N84 (b : Nat) (r : Int) : List Blk := []
def P84l0 (p0 : (List (Int × Int))) (r : (Int ⊕ Unit)) : Post := fun e a h => (match r with | .inl q0 => e = .ret ∧ Wk Try.prog 1 1 a h (st 19 [(4, iv q0)]) [accB 27 (List.length p0) (List.flatMap e27 p0)] | .inr q0 => e = .exit 0 ∧ Wk Try.prog 1 1 a h (st 19 []) [accB 27 (List.length p0) (List.flatMap e27 p0)])
theorem L84l0 (p0 : (List (Int × Int))) (v7 : Int) (r : (Int ⊕ Unit)) (hF : F84l0 p0 v7 = some r) : TL Try.prog 1 1 c84.s2.s1.s2.bd.bd (S84_1 p0 v7) [accB 27 (List.length p0) (List.flatMap e27 p0)] (P84l0 p0 r) := by
  refine F84l0.partial_correctness p0 (motive := fun v7 r => TL Try.prog 1 1 c84.s2.s1.s2.bd.bd (S84_1 p0 v7) [accB 27 (List.length p0) (List.flatMap e27 p0)] (P84l0 p0 r)) ?_ v7 r hF
  clear hF r v7
  intro again ih v7 r hF
  refine TL.round (TS.sq (TS.rg (TI.ra 1 [0, 1, 7, 8, 9] (st 19 [(0, .slice (some ⟨0, 0, none⟩) (List.length p0) ANY), (1, .func (.func 76) ⟨[]⟩ ⟨[]⟩), (7, iv (List.length p0 : Int)), (8, iv v7), (9, .bool (decide (v7 < (List.length p0 : Int))))]) (TI.dn (NX.sq (TS.sq ?_))))))
  refine TS.cd (.tmp 9) (decide (v7 < (List.length p0 : Int))) (fun hc15 => ?_) (fun hc15 => ?_)
  · replace hF := of_pos hF hc15
    refine TS.sk (NX.sq (TS.sq (TS.bk 1 (TS.sq (TS.rg (TI.ra 2 [0, 1, 5, 7, 8] (st 19 [(0, .slice (some ⟨0, 0, none⟩) (List.length p0) ANY), (1, .func (.func 76) ⟨[]⟩ ⟨[]⟩), (5, iv v7), (7, iv (List.length p0 : Int)), (8, iv v7)]) (TI.dn (NX.sq ?_))))))))
    refine TS.sq ?_
    have hX := of_guard hF
    clear hF
    obtain ⟨hg16, hF⟩ := hX
    have hX := of_do hF
    clear hF
    obtain ⟨o17, h18, hF⟩ := hX
    replace h18 := Option.some.inj h18
    have hX := of_do hF
    clear hF
    obtain ⟨r19, h20, hF⟩ := hX
    refine TS.rg (TI.ra 3 [0, 1, 5, 7, 8, 11, 12, 13] (st 19 [(0, .slice (some ⟨0, 0, none⟩) (List.length p0) ANY), (1, .func (.func 76) ⟨[]⟩ ⟨[]⟩), (5, iv v7), (7, iv (List.length p0 : Int)), (8, iv v7), (11, .func (.func 76) ⟨[]⟩ ⟨[]⟩), (12, .slice (some ⟨0, 0, none⟩) (List.length p0) ANY), (13, iv v7)]) (TI.o { val := .pointer (some ⟨0, 0 + (Int.toNat v7) * 2, none⟩) } (q_ixS 0 0 ((Int.toNat v7) * 2) (by kernel_rfl) hg16) [0, 1, 5, 7, 8, 11, 14] [0] (st 19 [(0, .slice (some ⟨0, 0, none⟩) (List.length p0) ANY), (1, .func (.func 76) ⟨[]⟩ ⟨[]⟩), (5, iv v7), (7, iv (List.length p0 : Int)), (8, iv v7), (11, .func (.func 76) ⟨[]⟩ ⟨[]⟩), (14, .pointer (some ⟨0, 0 + (Int.toNat v7) * 2, none⟩))]) [accB 27 (List.length p0) (List.flatMap e27 p0)] ?_))
    refine TI.o { val := ag [iv o17.1, iv o17.2] } (q_eqv (q_ldA (P := Try.prog) (hp := [accB 27 (List.length p0) (List.flatMap e27 p0)]) (t := 27) (b := 0) (off := 0 + (Int.toNat v7) * 2) (l := p0) (enc := e27) (s := 2) (T := 27) (i := Int.toNat v7) (by kernel_rfl) (accB_at (h := [accB 27 (List.length p0) (List.flatMap e27 p0)]) (n := List.length p0) (i := Int.toNat v7) (by kernel_rfl) (by first | omega | (simp only [List.length_set, List.length_replicate, List.length_cons, List.length_nil, List.length_append]; omega))) (by kernel_rfl) (by kernel_rfl) (fun _ => rfl) (by omega) (by first | omega | (simp only [List.length_set, List.length_replicate, List.length_cons, List.length_nil, List.length_append]; omega)) (0, 0)) (congrArg (fun (z : (Int × Int)) => ({ val := ag [iv z.1, iv z.2] } : QRes)) h18)) [0, 1, 5, 7, 8, 11, 15] [0] (st 19 [(0, .slice (some ⟨0, 0, none⟩) (List.length p0) ANY), (1, .func (.func 76) ⟨[]⟩ ⟨[]⟩), (5, iv v7), (7, iv (List.length p0 : Int)), (8, iv v7), (11, .func (.func 76) ⟨[]⟩ ⟨[]⟩), (15, ag [iv o17.1, iv o17.2])]) [accB 27 (List.length p0) (List.flatMap e27 p0)] (TI.cm (PureSim.ak (C76 _ _ _ h20)) [0, 1, 5, 7, 8, 16] [0] (st 19 [(0, .slice (some ⟨0, 0, none⟩) (List.length p0) ANY), (1, .func (.func 76) ⟨[]⟩ ⟨[]⟩), (5, iv v7), (7, iv (List.length p0 : Int)), (8, iv v7), (16, .bool r19)]) [accB 27 (List.length p0) (List.flatMap e27 p0)] (TI.dn (NX.sq ?_)))
    cases r19 with
    | true =>
      replace hF := of_pos hF rfl
      refine TS.cdT (.tmp 16) (TS.sq (TS.rg (TI.ra 2 [4] (st 19 [(4, iv v7)]) (TI.dn (NX.sq (TS.rt (NX.bkR (NX.sqR ?_))))))))
      have hF := Option.some.inj hF
      subst hF
      exact Rd.out (e := .ret) (by intro h; cases h) (And.intro rfl (Wk.anew (base := 1) (L := 1) (f := []) (by decide) (by decide) (Nat.le_of_ble_eq_true rfl) rfl (.cons (At.acc (by kernel_rfl) rfl (fun _ => rfl)) (.nil _)) (LRn.stx [4] [iv v7] [iv v7] (.cons (.flat (by kernel_rfl)) .nil) (by kernel_rfl) (by kernel_rfl) rfl) rfl rfl))
    | false =>
      replace hF := of_neg hF rfl
      refine TS.cdF (.tmp 16) (TS.sk (NX.bk (NX.sq (TS.rg (TI.ra 2 [0, 1, 7, 8] (S84_0 p0 v7) (TI.dn ?_))))))
      exact Rd.again (a2 := (S84_0 p0 v7)) (h2 := [accB 27 (List.length p0) (List.flatMap e27 p0)]) (Wk.anew (base := 1) (L := 1) (f := []) (by decide) (by decide) (Nat.le_of_ble_eq_true rfl) rfl (.cons (At.acc (by kernel_rfl) rfl (fun _ => rfl)) (.nil _)) (LRn.stx [0, 1, 7, 8] [.slice (some ⟨0, 0, none⟩) (List.length p0) ANY, .func (.func 76) ⟨[]⟩ ⟨[]⟩, iv (List.length p0 : Int), iv (w64 (v7 + 1))] [.slice (some ⟨0, 0, none⟩) (List.length p0) ANY, .func (.func 76) ⟨[]⟩ ⟨[]⟩, iv (List.length p0 : Int), iv (w64 (v7 + 1))] (.cons (Rn.slice0 _ _ _ _ (Nat.le_of_ble_eq_true rfl) rfl) (.cons (Rn.func' .nil .nil) (.cons (.flat (by kernel_rfl)) (.cons (.flat (by kernel_rfl)) .nil)))) (by kernel_rfl) (by kernel_rfl) rfl) rfl rfl) (ih (w64 (v7 + 1)) _ hF)
  · replace hF := of_neg hF hc15
    refine TS.ex 0 (NX.sqX ?_)
    have hF := Option.some.inj hF
    subst hF
    exact Rd.out (e := .exit 0) (by intro h; cases h) (And.intro rfl (Wk.anew (base := 1) (L := 1) (f := []) (by decide) (by decide) (Nat.le_of_ble_eq_true rfl) rfl (.cons (At.acc (by kernel_rfl) rfl (fun _ => rfl)) (.nil _)) (LRn.stx [] [] [] .nil (by kernel_rfl) (by kernel_rfl) rfl) rfl rfl))
theorem B84 (p0 : (List (Int × Int))) (r : Int) (hF : F84 p0 = some r) : TS Try.prog 1 1 c84 (st 19 [(0, .slice (some ⟨0, 0, none⟩) (List.length p0) ANY), (1, .func (.func 76) ⟨[]⟩ ⟨[]⟩)]) [accB 27 (List.length p0) (List.flatMap e27 p0)] (NX Try.prog 1 1 [] (FinP Try.prog Try.f84 1 (V84 1 r) (N84 1 r))) := by
  unfold F84 at hF
  refine TS.sq (TS.rg (TI.ra 1 [0, 1] (st 19 [(0, .slice (some ⟨0, 0, none⟩) (List.length p0) ANY), (1, .func (.func 76) ⟨[]⟩ ⟨[]⟩)]) (TI.dn (NX.sq (TS.sq (TS.sq (TS.rg (TI.ra 3 [0, 1, 7, 8] (S84_2 p0) ?_))))))))
  refine TI.dn (NX.sq (TS.bk 0 ?_))
  have hX := of_do hF
  clear hF
  obtain ⟨r21, h22, hF⟩ := hX
  refine TS.lp (TL.weak (a2 := (S84_2 p0)) (h2 := [accB 27 (List.length p0) (List.flatMap e27 p0)]) (Wk.anew (base := 1) (L := 1) (f := []) (by decide) (by decide) (Nat.le_of_ble_eq_true rfl) rfl (.cons (At.acc (by kernel_rfl) rfl (fun _ => rfl)) (.nil _)) (LRn.stx [0, 1, 7, 8] [.slice (some ⟨0, 0, none⟩) (List.length p0) ANY, .func (.func 76) ⟨[]⟩ ⟨[]⟩, iv (List.length p0 : Int), iv 0] [.slice (some ⟨0, 0, none⟩) (List.length p0) ANY, .func (.func 76) ⟨[]⟩ ⟨[]⟩, iv (List.length p0 : Int), iv 0] (.cons (Rn.slice0 _ _ _ _ (Nat.le_of_ble_eq_true rfl) rfl) (.cons (Rn.func' .nil .nil) (.cons (.flat (by kernel_rfl)) (.cons (.flat (by kernel_rfl)) .nil)))) (by kernel_rfl) (by kernel_rfl) rfl) rfl rfl) (TL.post (L84l0 p0 0 r21 h22) ?_))
  rintro e a1 h1 hp
  rcases r21 with o23 | o24
  · skip
    obtain ⟨rfl, hw⟩ := hp
    refine ⟨(st 19 [(4, iv o23)]), [accB 27 (List.length p0) (List.flatMap e27 p0)], (NX.bkR (NX.sqR ?_)), hw⟩
    have hF := Option.some.inj hF
    subst hF
    exact ⟨.inr rfl, rfl, iv o23, by kernel_rfl, WkV.flat0 (by kernel_rfl) (Nat.le_of_ble_eq_true rfl)⟩
  · skip
    obtain ⟨rfl, hw⟩ := hp
    refine ⟨(st 19 []), [accB 27 (List.length p0) (List.flatMap e27 p0)], (NX.bkX (NX.sq (TS.sq (TS.rg (TI.ra 1 [4] (st 19 [(4, iv (-1))]) (TI.dn (NX.sq (TS.rt ?_)))))))), hw⟩
    have hF := Option.some.inj hF
    subst hF
    exact ⟨.inr rfl, rfl, iv (-1), by kernel_rfl, WkV.flat0 (by kernel_rfl) (Nat.le_of_ble_eq_true rfl)⟩
theorem C84 (p0 : (List (Int × Int))) (r : Int) (hF : F84 p0 = some r) : PureSim Try.prog 84 [.slice (some ⟨0, 0, none⟩) (List.length p0) ANY, .func (.func 76) ⟨[]⟩ ⟨[]⟩] [accB 27 (List.length p0) (List.flatMap e27 p0)] (V84 1 r) (N84 1 r) :=
  PureSim.of_Fin Try.func84 (c := c84) (by kernel_rfl) (by kernel_rfl) 1 rfl [0, 1] [0] (by kernel_rfl) (B84 p0 r hF)

-- slices.ContainsFunc[[]agonic/magnet.Choice,agonic/magnet.Choice]
noncomputable def c75 : Code := Try.f75.code
def F75 (p0 : (List (Int × Int))) : Option Bool :=
  F84 p0 >>= fun r1 =>
  some (decide (r1 ≥ 0))
def V75 (b : Nat) (r : Bool) : Value := .bool r
def N75 (b : Nat) (r : Bool) : List Blk := []
theorem B75 (p0 : (List (Int × Int))) (r : Bool) (hF : F75 p0 = some r) : TS Try.prog 1 1 c75 (st 9 [(0, .slice (some ⟨0, 0, none⟩) (List.length p0) ANY), (1, .func (.func 76) ⟨[]⟩ ⟨[]⟩)]) [accB 27 (List.length p0) (List.flatMap e27 p0)] (NX Try.prog 1 1 [] (FinP Try.prog Try.f75 1 (V75 1 r) (N75 1 r))) := by
  unfold F75 at hF
  refine TS.sq (TS.rg (TI.ra 1 [0, 1] (st 9 [(0, .slice (some ⟨0, 0, none⟩) (List.length p0) ANY), (1, .func (.func 76) ⟨[]⟩ ⟨[]⟩)]) (TI.dn (NX.sq (TS.sq ?_)))))
  have hX := of_do hF
  clear hF
  obtain ⟨r1, h2, hF⟩ := hX
  refine TS.rg (TI.ra 2 [5, 6] (st 9 [(5, .slice (some ⟨0, 0, none⟩) (List.length p0) ANY), (6, .func (.func 76) ⟨[]⟩ ⟨[]⟩)]) (TI.cp 84 [.slice (some ⟨0, 0, none⟩) (List.length p0) ANY, .func (.func 76) ⟨[]⟩ ⟨[]⟩] (iv r1) [] (PureSim.ren (hc := [accB 27 (List.length p0) (List.flatMap e27 p0)]) (fun i => List.getD [(0, 0)] i (0, 0)) (C84 _ _ h2) (.cons (At.acc (by kernel_rfl) rfl (fun _ => rfl)) (.nil _)) (.cons (Rn.any _ _ _ _ _ _ (Nat.le_of_ble_eq_true rfl) rfl rfl (by decide)) (.cons (Rn.func' .nil .nil) .nil)) (.flat (by kernel_rfl)) newflat_nil) (TI.ra 2 [4] (st 9 [(4, .bool (decide (r1 ≥ 0)))]) (TI.dn (NX.sq (TS.rt ?_))))))
  have hF := Option.some.inj hF
  subst hF
  exact ⟨.inr rfl, rfl, .bool (decide (r1 ≥ 0)), by kernel_rfl, WkV.flat0 (by kernel_rfl) (Nat.le_of_ble_eq_true rfl)⟩
theorem C75 (p0 : (List (Int × Int))) (r : Bool) (hF : F75 p0 = some r) : PureSim Try.prog 75 [.slice (some ⟨0, 0, none⟩) (List.length p0) ANY, .func (.func 76) ⟨[]⟩ ⟨[]⟩] [accB 27 (List.length p0) (List.flatMap e27 p0)] (V75 1 r) (N75 1 r) :=
  PureSim.of_Fin Try.func75 (c := c75) (by kernel_rfl) (by kernel_rfl) 1 rfl [0, 1] [0] (by kernel_rfl) (B75 p0 r hF)

-- (agonic/magnet.Kit).check
noncomputable def c52 : Code := Try.f52.code
def H52_0 (p6 : (List (Int × Int))) : List Blk := [accB 27 (List.length p6) (List.flatMap e27 p6), .dead, .dead]
def F52 (p0 : Int) (p1 : Int) (p2 : Int) (p3 : Int) (p4 : Int) (p5 : Int) (p6 : (List (Int × Int))) : Option Int :=
  F20 p0 p1 p2 p3 >>= fun r1 =>
  if r1 != 0 then
    some r1
  else
    F58 p4 p5 10000 >>= fun r4 =>
    (
      if r4 then
        F75 p6 >>= fun r6 =>
        some (r6)
      else
        some (true)
    : Option Bool) >>= fun m8 =>
    if m8 then
      some 1
    else
      some 0
def V52 (b : Nat) (r : Int) : Value := iv r
def N52 (b : Nat) (r : Int) : List Blk := []
theorem B52 (p0 : Int) (p1 : Int) (p2 : Int) (p3 : Int) (p4 : Int) (p5 : Int) (p6 : (List (Int × Int))) (r : Int) (hF : F52 p0 p1 p2 p3 p4 p5 p6 = some r) : TS Try.prog 1 1 c52 (st 20 [(0, ag [iv p0, iv p1, iv p2, iv p3]), (1, ag [iv p4, iv p5]), (2, .slice (some ⟨0, 0, none⟩) (List.length p6) ANY)]) [accB 27 (List.length p6) (List.flatMap e27 p6)] (NX Try.prog 1 1 [] (FinP Try.prog Try.f52 1 (V52 1 r) (N52 1 r))) := by
  unfold F52 at hF
  refine TS.sq (TS.rg (TI.rn 3 [2, 3, 4] [0, 1, 2] (st 20 [(2, .slice (some ⟨0, 0, none⟩) (List.length p6) ANY), (3, pt 1 0), (4, pt 2 0)]) [accB 27 (List.length p6) (List.flatMap e27 p6), cl 25 [iv p0, iv p1, iv p2, iv p3], cl 23 [iv p4, iv p5]] (TI.dn (NX.sq (TS.sq (TS.sq ?_))))))
  have hX := of_do hF
  clear hF
  obtain ⟨r1, h2, hF⟩ := hX
  refine TS.rg (TI.rn 1 [2, 4, 8] [0, 2] (st 20 [(2, .slice (some ⟨0, 0, none⟩) (List.length p6) ANY), (4, pt 2 0), (8, ag [iv p0, iv p1, iv p2, iv p3])]) [accB 27 (List.length p6) (List.flatMap e27 p6), .dead, cl 23 [iv p4, iv p5]] (TI.cf (C20 _ _ _ _ _ h2) (TI.ra 1 [2, 4, 7] (st 20 [(2, .slice (some ⟨0, 0, none⟩) (List.length p6) ANY), (4, pt 2 0), (7, iv r1)]) (TI.dn (NX.sq (TS.sq (TS.rg (TI.ra 2 [2, 4, 7, 11] (st 20 [(2, .slice (some ⟨0, 0, none⟩) (List.length p6) ANY), (4, pt 2 0), (7, iv r1), (11, .bool (r1 != 0))]) ?_))))))))
  refine TI.dn (NX.sq ?_)
  refine TS.cd (.tmp 11) (r1 != 0) (fun hc3 => ?_) (fun hc3 => ?_)
  · replace hF := of_pos hF hc3
    refine TS.sq (TS.rg (TI.rn 2 [6] [0] (st 20 [(6, iv r1)]) (H52_0 p6) (TI.dn (NX.sq (TS.rt (NX.sqR ?_))))))
    have hF := Option.some.inj hF
    subst hF
    exact ⟨.inr rfl, rfl, iv r1, by kernel_rfl, WkV.flat0 (by kernel_rfl) (Nat.le_of_ble_eq_true rfl)⟩
  · replace hF := of_neg hF hc3
    refine TS.sk (NX.sq (TS.sq (TS.sq ?_)))
    have hX := of_do hF
    clear hF
    obtain ⟨r4, h5, hF⟩ := hX
    have hX := of_do hF
    clear hF
    obtain ⟨m8, hm9, hF⟩ := hX
    have hK : NX Try.prog 1 1 [.sq c52.s2.s2.s1.s2, .sq c52.s2.s2.s2] (FinP Try.prog Try.f52 1 (V52 1 r) (N52 1 r)) .normal (st 20 [(19, .bool m8)]) (H52_0 p6) := by
      refine NX.sq ?_
      cases m8 with
      | true =>
        replace hF := of_pos hF rfl
        refine TS.cdT (.tmp 19) (TS.sq (TS.rg (TI.ra 1 [6] (st 20 [(6, iv 1)]) (TI.dn (NX.sq (TS.rt (NX.sqR ?_)))))))
        have hF := Option.some.inj hF
        subst hF
        exact ⟨.inr rfl, rfl, iv 1, by kernel_rfl, WkV.flat0 (by kernel_rfl) (Nat.le_of_ble_eq_true rfl)⟩
      | false =>
        replace hF := of_neg hF rfl
        refine TS.cdF (.tmp 19) (TS.sk (NX.sq (TS.sq (TS.rg (TI.ra 1 [6] (st 20 [(6, iv 0)]) (TI.dn (NX.sq (TS.rt ?_))))))))
        have hF := Option.some.inj hF
        subst hF
        exact ⟨.inr rfl, rfl, iv 0, by kernel_rfl, WkV.flat0 (by kernel_rfl) (Nat.le_of_ble_eq_true rfl)⟩
    cases r4 with
    | true =>
      replace hm9 := of_pos hm9 rfl
      have hX := of_do hm9
      clear hm9
      obtain ⟨r6, h7, hm9⟩ := hX
      have hm9 := Option.some.inj hm9
      subst hm9
      exact TS.rg (TI.rn 1 [2, 13] [0] (st 20 [(2, .slice (some ⟨0, 0, none⟩) (List.length p6) ANY), (13, ag [iv p4, iv p5])]) (H52_0 p6) (TI.cf (C58 _ _ _ _ h5) (TI.ra 3 [16, 17] (st 20 [(16, .bool false), (17, .slice (some ⟨0, 0, none⟩) (List.length p6) ANY)]) (TI.cp 75 [.slice (some ⟨0, 0, none⟩) (List.length p6) ANY, .func (.func 76) ⟨[]⟩ ⟨[]⟩] (.bool r6) [] (PureSim.ren (hc := [accB 27 (List.length p6) (List.flatMap e27 p6)]) (fun i => List.getD [(0, 0)] i (0, 0)) (C75 _ _ h7) (.cons (At.acc (by kernel_rfl) rfl (fun _ => rfl)) (.nil _)) (.cons (Rn.any _ _ _ _ _ _ (Nat.le_of_ble_eq_true rfl) rfl rfl (by decide)) (.cons (Rn.func' .nil .nil) .nil)) (.flat (by kernel_rfl)) newflat_nil) (TI.ra 1 [19] (st 20 [(19, .bool r6)]) (TI.dn hK))))))
    | false =>
      replace hm9 := of_neg hm9 rfl
      have hm9 := Option.some.inj hm9
      subst hm9
      exact TS.rg (TI.rn 1 [2, 13] [0] (st 20 [(2, .slice (some ⟨0, 0, none⟩) (List.length p6) ANY), (13, ag [iv p4, iv p5])]) (H52_0 p6) (TI.cf (C58 _ _ _ _ h5) (TI.ra 5 [19] (st 20 [(19, .bool true)]) (TI.dn hK))))
theorem C52 (p0 : Int) (p1 : Int) (p2 : Int) (p3 : Int) (p4 : Int) (p5 : Int) (p6 : (List (Int × Int))) (r : Int) (hF : F52 p0 p1 p2 p3 p4 p5 p6 = some r) : PureSim Try.prog 52 [ag [iv p0, iv p1, iv p2, iv p3], ag [iv p4, iv p5], .slice (some ⟨0, 0, none⟩) (List.length p6) ANY] [accB 27 (List.length p6) (List.flatMap e27 p6)] (V52 1 r) (N52 1 r) :=
  PureSim.of_Fin Try.func52 (c := c52) (by kernel_rfl) (by kernel_rfl) 1 rfl [0, 1, 2] [0] (by kernel_rfl) (B52 p0 p1 p2 p3 p4 p5 p6 r hF)

-- (agonic/magnet.Vector).dot
noncomputable def c72 : Code := Try.f72.code
def F72 (p0 : Int) (p1 : Int) (p2 : Int) (p3 : Int) : Option Int :=
  some (w64 ((w64 (p0 * p2)) + (w64 (p1 * p3))))
def V72 (b : Nat) (r : Int) : Value := iv r
def N72 (b : Nat) (r : Int) : List Blk := []
theorem B72 (p0 : Int) (p1 : Int) (p2 : Int) (p3 : Int) (r : Int) (hF : F72 p0 p1 p2 p3 = some r) : TS Try.prog 0 0 c72 (st 16 [(0, ag [iv p0, iv p1]), (1, ag [iv p2, iv p3])]) [] (NX Try.prog 0 0 [] (FinP Try.prog Try.f72 0 (V72 0 r) (N72 0 r))) := by
  unfold F72 at hF
  refine TS.sq (TS.rg (TI.rn 3 [2, 3] [0, 1] (st 16 [(2, pt 0 0), (3, pt 1 0)]) [cl 23 [iv p0, iv p1], cl 23 [iv p2, iv p3]] (TI.dn (NX.sq (TS.sq (TS.rg (TI.rn 12 [4] [] (st 16 [(4, iv (w64 ((w64 (p0 * p2)) + (w64 (p1 * p3)))))]) [.dead, .dead] (TI.dn ?_))))))))
  refine NX.sq (TS.rt ?_)
  have hF := Option.some.inj hF
  subst hF
  exact ⟨.inr rfl, rfl, iv (w64 ((w64 (p0 * p2)) + (w64 (p1 * p3)))), by kernel_rfl, WkV.flat0 (by kernel_rfl) (Nat.le_of_ble_eq_true rfl)⟩
theorem C72 (p0 : Int) (p1 : Int) (p2 : Int) (p3 : Int) (r : Int) (hF : F72 p0 p1 p2 p3 = some r) : PureSim Try.prog 72 [ag [iv p0, iv p1], ag [iv p2, iv p3]] [] (V72 0 r) (N72 0 r) :=
  PureSim.of_Fin Try.func72 (c := c72) (by kernel_rfl) (by kernel_rfl) 0 rfl [0, 1] [] (by kernel_rfl) (B72 p0 p1 p2 p3 r hF)

-- (agonic/magnet.Vector).square
noncomputable def c63 : Code := Try.f63.code
def F63 (p0 : Int) (p1 : Int) : Option Int :=
  F72 p0 p1 p0 p1 >>= fun r1 =>
  some r1
def V63 (b : Nat) (r : Int) : Value := iv r
def N63 (b : Nat) (r : Int) : List Blk := []
theorem B63 (p0 : Int) (p1 : Int) (r : Int) (hF : F63 p0 p1 = some r) : TS Try.prog 0 0 c63 (st 6 [(0, ag [iv p0, iv p1])]) [] (NX Try.prog 0 0 [] (FinP Try.prog Try.f63 0 (V63 0 r) (N63 0 r))) := by
  unfold F63 at hF
  refine TS.sq (TS.rg (TI.rn 2 [1] [0] (st 6 [(1, pt 0 0)]) [cl 23 [iv p0, iv p1]] (TI.dn (NX.sq (TS.sq ?_)))))
  have hX := of_do hF
  clear hF
  obtain ⟨r1, h2, hF⟩ := hX
  refine TS.rg (TI.rn 2 [3, 4] [] (st 6 [(3, ag [iv p0, iv p1]), (4, ag [iv p0, iv p1])]) [.dead] (TI.cf (C72 _ _ _ _ _ h2) (TI.ra 1 [2] (st 6 [(2, iv r1)]) (TI.dn (NX.sq (TS.rt ?_))))))
  have hF := Option.some.inj hF
  subst hF
  exact ⟨.inr rfl, rfl, iv r1, by kernel_rfl, WkV.flat0 (by kernel_rfl) (Nat.le_of_ble_eq_true rfl)⟩
theorem C63 (p0 : Int) (p1 : Int) (r : Int) (hF : F63 p0 p1 = some r) : PureSim Try.prog 63 [ag [iv p0, iv p1]] [] (V63 0 r) (N63 0 r) :=
  PureSim.of_Fin Try.func63 (c := c63) (by kernel_rfl) (by kernel_rfl) 0 rfl [0] [] (by kernel_rfl) (B63 p0 p1 r hF)

-- agonic/magnet.floor
noncomputable def c69 : Code := Try.f69.code
def F69 (p0 : Int) (p1 : Int) : Option Int :=
  (
    if decide (p1 < 0) then
      some (w64 (0 - p0), w64 (0 - p1))
    else
      some (p0, p1)
  : Option (Int × Int)) >>= fun m6 =>
  if m6.2 = 0 then none else
  some (w64 (m6.1 - (Int.tmod (w64 ((Int.tmod m6.1 m6.2) + m6.2)) m6.2))) >>= fun o9 =>
  some (w64 (Int.tdiv o9 m6.2))
def V69 (b : Nat) (r : Int) : Value := iv r
def N69 (b : Nat) (r : Int) : List Blk := []
theorem B69 (p0 : Int) (p1 : Int) (r : Int) (hF : F69 p0 p1 = some r) : TS Try.prog 0 0 c69 (st 22 [(0, iv p0), (1, iv p1)]) [] (NX Try.prog 0 0 [] (FinP Try.prog Try.f69 0 (V69 0 r) (N69 0 r))) := by
  unfold F69 at hF
  refine TS.sq (TS.rg (TI.ra 1 [0, 1] (st 22 [(0, iv p0), (1, iv p1)]) (TI.dn (NX.sq (TS.sq (TS.sq (TS.rg (TI.ra 2 [0, 1, 6] (st 22 [(0, iv p0), (1, iv p1), (6, .bool (decide (p1 < 0)))]) ?_))))))))
  refine TI.dn (NX.sq ?_)
  have hX := of_do hF
  clear hF
  obtain ⟨m6, hm7, hF⟩ := hX
  have hK : NX Try.prog 0 0 [.sq c69.s2.s2] (FinP Try.prog Try.f69 0 (V69 0 r) (N69 0 r)) .normal (st 22 [(0, iv m6.1), (1, iv m6.2)]) [] := by
    refine NX.sq (TS.sq ?_)
    have hX := of_guardn hF
    clear hF
    obtain ⟨hg8, hF⟩ := hX
    have hX := of_do hF
    clear hF
    obtain ⟨o9, h10, hF⟩ := hX
    replace h10 := Option.some.inj h10
    refine TS.rg (TI.ra 3 [1, 11, 12, 13] (st 22 [(1, iv m6.2), (11, iv m6.1), (12, iv m6.1), (13, iv m6.2)]) (TI.o { val := iv (Int.tmod m6.1 m6.2) } (q_int (P := Try.prog) (op := .rem) (ty := 3) (ox := (.tmp 12)) (oy := (.tmp 13)) (k := .i64) (k' := .i64) (y := m6.1) (z := m6.2) (by kernel_rfl) (rem_ok hg8)) [1, 11, 14] [] (st 22 [(1, iv m6.2), (11, iv m6.1), (14, iv (Int.tmod m6.1 m6.2))]) [] (TI.ra 3 [1, 11, 16, 17] (st 22 [(1, iv m6.2), (11, iv m6.1), (16, iv (w64 ((Int.tmod m6.1 m6.2) + m6.2))), (17, iv m6.2)]) (TI.o { val := iv (Int.tmod (w64 ((Int.tmod m6.1 m6.2) + m6.2)) m6.2) } (q_int (P := Try.prog) (op := .rem) (ty := 3) (ox := (.tmp 16)) (oy := (.tmp 17)) (k := .i64) (k' := .i64) (y := w64 ((Int.tmod m6.1 m6.2) + m6.2)) (z := m6.2) (by kernel_rfl) (rem_ok hg8)) [1, 11, 18] [] (st 22 [(1, iv m6.2), (11, iv m6.1), (18, iv (Int.tmod (w64 ((Int.tmod m6.1 m6.2) + m6.2)) m6.2))]) [] (TI.o { val := iv o9 } (q_convI (e := w64 (m6.1 - (Int.tmod (w64 ((Int.tmod m6.1 m6.2) + m6.2)) m6.2))) (y := o9) (by kernel_rfl) h10) [1, 19] [] (st 22 [(1, iv m6.2), (19, iv o9)]) [] (TI.ra 1 [19, 20] (st 22 [(19, iv o9), (20, iv m6.2)]) (TI.o { val := iv (w64 (Int.tdiv o9 m6.2)) } (q_int (P := Try.prog) (op := .quo) (ty := 3) (ox := (.tmp 19)) (oy := (.tmp 20)) (k := .i64) (k' := .i64) (y := o9) (z := m6.2) (by kernel_rfl) (quo_ok hg8)) [21] [] (st 22 [(21, iv (w64 (Int.tdiv o9 m6.2)))]) [] (TI.ra 1 [4] (st 22 [(4, iv (w64 (Int.tdiv o9 m6.2)))]) ?_))))))))
    refine TI.dn (NX.sq (TS.rt ?_))
    have hF := Option.some.inj hF
    subst hF
    exact ⟨.inr rfl, rfl, iv (w64 (Int.tdiv o9 m6.2)), by kernel_rfl, WkV.flat0 (by kernel_rfl) (Nat.le_of_ble_eq_true rfl)⟩
  clear hF
  have hF := hm7
  clear hm7
  refine TS.start ?_
  refine TS.cd (.tmp 6) (decide (p1 < 0)) (fun hc11 => ?_) (fun hc11 => ?_)
  · replace hF := of_pos hF hc11
    refine TS.rg (TI.ra 6 [0, 1] (st 22 [(0, iv (w64 (0 - p0))), (1, iv (w64 (0 - p1)))]) (TI.dn ?_))
    have hF := Option.some.inj hF
    subst hF
    exact TS.weak (Wk.anew (base := 0) (L := 0) (f := []) (by decide) (by decide) (Nat.le_of_ble_eq_true rfl) rfl (.nil _) (LRn.stx [0, 1] [iv (w64 (0 - p0)), iv (w64 (0 - p1))] [iv (w64 (0 - p0)), iv (w64 (0 - p1))] (.cons (.flat (by kernel_rfl)) (.cons (.flat (by kernel_rfl)) .nil)) (by kernel_rfl) (by kernel_rfl) rfl) rfl rfl) hK
  · replace hF := of_neg hF hc11
    refine TS.sk ?_
    have hF := Option.some.inj hF
    subst hF
    exact TS.weak (Wk.anew (base := 0) (L := 0) (f := []) (by decide) (by decide) (Nat.le_of_ble_eq_true rfl) rfl (.nil _) (LRn.stx [0, 1] [iv p0, iv p1] [iv p0, iv p1] (.cons (.flat (by kernel_rfl)) (.cons (.flat (by kernel_rfl)) .nil)) (by kernel_rfl) (by kernel_rfl) rfl) rfl rfl) hK
theorem C69 (p0 : Int) (p1 : Int) (r : Int) (hF : F69 p0 p1 = some r) : PureSim Try.prog 69 [iv p0, iv p1] [] (V69 0 r) (N69 0 r) :=
  PureSim.of_Fin Try.func69 (c := c69) (by kernel_rfl) (by kernel_rfl) 0 rfl [0, 1] [] (by kernel_rfl) (B69 p0 p1 r hF)

-- (agonic/magnet.Vector).plus
noncomputable def c53 : Code := Try.f53.code
def F53 (p0 : Int) (p1 : Int) (p2 : Int) (p3 : Int) (p4 : Int) : Option (Int × Int) :=
  some (w64 (p0 + (w64 (p2 * p3))), w64 (p1 + (w64 (p2 * p4))))
def V53 (b : Nat) (r : (Int × Int)) : Value := ag [iv r.1, iv r.2]
def N53 (b : Nat) (r : (Int × Int)) : List Blk := []
theorem B53 (p0 : Int) (p1 : Int) (p2 : Int) (p3 : Int) (p4 : Int) (r : (Int × Int)) (hF : F53 p0 p1 p2 p3 p4 = some r) : TS Try.prog 0 0 c53 (st 22 [(0, ag [iv p0, iv p1]), (1, iv p2), (2, ag [iv p3, iv p4])]) [] (NX Try.prog 0 0 [] (FinP Try.prog Try.f53 0 (V53 0 r) (N53 0 r))) := by
  unfold F53 at hF
  refine TS.sq (TS.rg (TI.rn 3 [1, 3, 5, 6] [0, 1, 2] (st 22 [(1, iv p2), (3, pt 0 0), (5, pt 1 0), (6, pt 2 0)]) [cl 23 [iv p0, iv p1], cl 23 [iv p3, iv p4], cl 23 [iv 0, iv 0]] (TI.dn (NX.sq (TS.sq (TS.rg (TI.rn 16 [6] [2] (st 22 [(6, pt 2 0)]) [.dead, .dead, cl 23 [iv (w64 (p0 + (w64 (p2 * p3)))), iv (w64 (p1 + (w64 (p2 * p4))))]] (TI.dn ?_))))))))
  refine NX.sq (TS.rt ?_)
  have hF := Option.some.inj hF
  subst hF
  exact ⟨.inr rfl, rfl, ag [iv (w64 (p0 + (w64 (p2 * p3)))), iv (w64 (p1 + (w64 (p2 * p4))))], by kernel_rfl, WkV.flat0 (by kernel_rfl) (Nat.le_of_ble_eq_true rfl)⟩
theorem C53 (p0 : Int) (p1 : Int) (p2 : Int) (p3 : Int) (p4 : Int) (r : (Int × Int)) (hF : F53 p0 p1 p2 p3 p4 = some r) : PureSim Try.prog 53 [ag [iv p0, iv p1], iv p2, ag [iv p3, iv p4]] [] (V53 0 r) (N53 0 r) :=
  PureSim.of_Fin Try.func53 (c := c53) (by kernel_rfl) (by kernel_rfl) 0 rfl [0, 1, 2] [] (by kernel_rfl) (B53 p0 p1 p2 p3 p4 r hF)

-- (agonic/magnet.Choice).plus
noncomputable def c78 : Code := Try.f78.code
def F78 (p0 : Int) (p1 : Int) (p2 : Int) (p3 : Int) (p4 : Int) : Option (Int × Int) :=
  some (w64 (p0 + (w64 (p2 * p3))), w64 (p1 + (w64 (p2 * p4))))
def V78 (b : Nat) (r : (Int × Int)) : Value := ag [iv r.1, iv r.2]
def N78 (b : Nat) (r : (Int × Int)) : List Blk := []
theorem B78 (p0 : Int) (p1 : Int) (p2 : Int) (p3 : Int) (p4 : Int) (r : (Int × Int)) (hF : F78 p0 p1 p2 p3 p4 = some r) : TS Try.prog 0 0 c78 (st 22 [(0, ag [iv p0, iv p1]), (1, iv p2), (2, ag [iv p3, iv p4])]) [] (NX Try.prog 0 0 [] (FinP Try.prog Try.f78 0 (V78 0 r) (N78 0 r))) := by
  unfold F78 at hF
  refine TS.sq (TS.rg (TI.rn 3 [1, 3, 5, 6] [0, 1, 2] (st 22 [(1, iv p2), (3, pt 0 0), (5, pt 1 0), (6, pt 2 0)]) [cl 27 [iv p0, iv p1], cl 27 [iv p3, iv p4], cl 27 [iv 0, iv 0]] (TI.dn (NX.sq (TS.sq (TS.rg (TI.rn 16 [6] [2] (st 22 [(6, pt 2 0)]) [.dead, .dead, cl 27 [iv (w64 (p0 + (w64 (p2 * p3)))), iv (w64 (p1 + (w64 (p2 * p4))))]] (TI.dn ?_))))))))
  refine NX.sq (TS.rt ?_)
  have hF := Option.some.inj hF
  subst hF
  exact ⟨.inr rfl, rfl, ag [iv (w64 (p0 + (w64 (p2 * p3)))), iv (w64 (p1 + (w64 (p2 * p4))))], by kernel_rfl, WkV.flat0 (by kernel_rfl) (Nat.le_of_ble_eq_true rfl)⟩
theorem C78 (p0 : Int) (p1 : Int) (p2 : Int) (p3 : Int) (p4 : Int) (r : (Int × Int)) (hF : F78 p0 p1 p2 p3 p4 = some r) : PureSim Try.prog 78 [ag [iv p0, iv p1], iv p2, ag [iv p3, iv p4]] [] (V78 0 r) (N78 0 r) :=
  PureSim.of_Fin Try.func78 (c := c78) (by kernel_rfl) (by kernel_rfl) 0 rfl [0, 1, 2] [] (by kernel_rfl) (B78 p0 p1 p2 p3 p4 r hF)

-- (agonic/magnet.Kit).reduce
noncomputable def c61 : Code := Try.f61.code
def H61_0 (z68 : (Int × Int × Int × Int × Int × Int × Int × Int)) : List Blk := [cl 108 [iv 0, iv 0, iv 0, iv 0, iv 0, iv 0, iv 0, iv 0], cl 108 [iv z68.1, iv z68.2.1, iv z68.2.2.1, iv z68.2.2.2.1, iv z68.2.2.2.2.1, iv z68.2.2.2.2.2.1, iv z68.2.2.2.2.2.2.1, iv z68.2.2.2.2.2.2.2]]
def H61_1 (z68 : (Int × Int × Int × Int × Int × Int × Int × Int)) (r59 : (Int × Int)) (r61 : (Int × Int)) : List Blk := [cl 108 [iv 0, iv 0, iv 0, iv 0, iv 0, iv 0, iv 0, iv 0], cl 108 [iv z68.1, iv z68.2.1, iv r59.1, iv r59.2, iv z68.2.2.2.2.1, iv z68.2.2.2.2.2.1, iv r61.1, iv r61.2]]
def F61l0  (z68 : (Int × Int × Int × Int × Int × Int × Int × Int)) : Option (Int × Int × Int × Int × Int × Int × Int × Int) :=
    F72 z68.1 z68.2.1 z68.2.2.1 z68.2.2.2.1 >>= fun r51 =>
    F63 z68.1 z68.2.1 >>= fun r53 =>
    F63 z68.1 z68.2.1 >>= fun r55 =>
    F69 (w64 ((w64 (2 * r51)) + r53)) (w64 (2 * r55)) >>= fun r57 =>
    F53 z68.2.2.1 z68.2.2.2.1 (w64 (0 - r57)) z68.1 z68.2.1 >>= fun r59 =>
    F78 z68.2.2.2.2.2.2.1 z68.2.2.2.2.2.2.2 (w64 (0 - r57)) z68.2.2.2.2.1 z68.2.2.2.2.2.1 >>= fun r61 =>
    F63 z68.1 z68.2.1 >>= fun r63 =>
    F63 r59.1 r59.2 >>= fun r65 =>
    if decide (r63 ≤ r65) then
      some (z68.1, z68.2.1, r59.1, r59.2, z68.2.2.2.2.1, z68.2.2.2.2.2.1, r61.1, r61.2)
    else
      F61l0  (r59.1, r59.2, z68.1, z68.2.1, r61.1, r61.2, z68.2.2.2.2.1, z68.2.2.2.2.2.1)
  partial_fixpoint
def F61 (p0 : Int) (p1 : Int) (p2 : Int) (p3 : Int) : Option (((Int × Int) × (Int × Int)) × (Int × Int) × (Int × Int)) :=
  F61l0  (p0, p1, p2, p3, 1, 0, 0, 1) >>= fun r69 =>
  some (((r69.1, r69.2.1), (r69.2.2.1, r69.2.2.2.1)), (r69.2.2.2.2.1, r69.2.2.2.2.2.1), (r69.2.2.2.2.2.2.1, r69.2.2.2.2.2.2.2))
def V61 (b : Nat) (r : (((Int × Int) × (Int × Int)) × (Int × Int) × (Int × Int))) : Value := ag [iv r.1.1.1, iv r.1.1.2, iv r.1.2.1, iv r.1.2.2, iv r.2.1.1, iv r.2.1.2, iv r.2.2.1, iv r.2.2.2]
def N61 (b : Nat) (r : (((Int × Int) × (Int × Int)) × (Int × Int) × (Int × Int))) : List Blk := []
def P61l0  (r : (Int × Int × Int × Int × Int × Int × Int × Int)) : Post := fun e a h => e = .ret ∧ Wk Try.prog 0 0 a h (st 73 [(2, pt 0 0)]) [cl 108 [iv r.1, iv r.2.1, iv r.2.2.1, iv r.2.2.2.1, iv r.2.2.2.2.1, iv r.2.2.2.2.2.1, iv r.2.2.2.2.2.2.1, iv r.2.2.2.2.2.2.2]]
theorem L61l0  (v18 : Int) (v19 : Int) (v20 : Int) (v21 : Int) (v22 : Int) (v23 : Int) (v24 : Int) (v25 : Int) (r : (Int × Int × Int × Int × Int × Int × Int × Int)) (hF : F61l0  (v18, v19, v20, v21, v22, v23, v24, v25) = some r) : TL Try.prog 0 0 c61.s2.s2.bd.bd (st 73 [(2, pt 0 0), (3, pt 1 0)]) [cl 108 [iv 0, iv 0, iv 0, iv 0, iv 0, iv 0, iv 0, iv 0], cl 108 [iv v18, iv v19, iv v20, iv v21, iv v22, iv v23, iv v24, iv v25]] (P61l0  r) := by
  refine F61l0.partial_correctness  (motive := fun z68 r => TL Try.prog 0 0 c61.s2.s2.bd.bd (st 73 [(2, pt 0 0), (3, pt 1 0)]) (H61_0 z68) (P61l0  r)) ?_ (v18, v19, v20, v21, v22, v23, v24, v25) r hF
  clear hF r v18 v19 v20 v21 v22 v23 v24 v25
  intro again ih z68 r hF
  refine TL.round (TS.bk 1 (TS.sq ?_))
  have hX := of_do hF
  clear hF
  obtain ⟨r51, h52, hF⟩ := hX
  have hX := of_do hF
  clear hF
  obtain ⟨r53, h54, hF⟩ := hX
  have hX := of_do hF
  clear hF
  obtain ⟨r55, h56, hF⟩ := hX
  have hX := of_do hF
  clear hF
  obtain ⟨r57, h58, hF⟩ := hX
  have hT : ∀ e ∈ ([⟨72, [ag [iv z68.1, iv z68.2.1], ag [iv z68.2.2.1, iv z68.2.2.2.1]], (H61_0 z68), iv r51, []⟩, ⟨63, [ag [iv z68.1, iv z68.2.1]], (H61_0 z68), iv r53, []⟩, ⟨63, [ag [iv z68.1, iv z68.2.1]], (H61_0 z68), iv r55, []⟩, ⟨69, [iv (w64 ((w64 (2 * r51)) + r53)), iv (w64 (2 * r55))], (H61_0 z68), iv r57, []⟩] : List Entry), PureSim Try.prog e.g e.args e.h e.v e.new := by
    intro e he
    simp only [List.mem_cons, List.not_mem_nil, or_false] at he
    rcases he with rfl | rfl | rfl | rfl
    · exact PureSim.ak (C72 _ _ _ _ _ h52)
    · exact PureSim.ak (C63 _ _ _ h54)
    · exact PureSim.ak (C63 _ _ _ h56)
    · exact PureSim.ak (C69 _ _ _ h58)
  refine TS.dp [⟨72, [ag [iv z68.1, iv z68.2.1], ag [iv z68.2.2.1, iv z68.2.2.2.1]], (H61_0 z68), iv r51, []⟩, ⟨63, [ag [iv z68.1, iv z68.2.1]], (H61_0 z68), iv r53, []⟩, ⟨63, [ag [iv z68.1, iv z68.2.1]], (H61_0 z68), iv r55, []⟩, ⟨69, [iv (w64 ((w64 (2 * r51)) + r53)), iv (w64 (2 * r55))], (H61_0 z68), iv r57, []⟩] hT mixed 18 [2, 3, 4] [0, 1] (st 73 [(2, pt 0 0), (3, pt 1 0), (4, iv r57)]) (H61_0 z68) ?_ ?_
  · refine QJ.rn (qs (st 73 [(2, pt 0 0), (3, pt 1 0), (9, pt 1 0), (10, pt 1 0), (11, ag [iv z68.1, iv z68.2.1]), (12, pt 1 0), (13, pt 1 2), (14, ag [iv z68.2.2.1, iv z68.2.2.2.1])]) (H61_0 z68) [] []) 6 (QJ.o { val := iv r51, new := [] } (qOf_call (g := 72) (args := [ag [iv z68.1, iv z68.2.1], ag [iv z68.2.2.1, iv z68.2.2.2.1]]) (by kernel_rfl) lookC_hit) (QJ.rn (qs (st 73 [(2, pt 0 0), (3, pt 1 0), (9, pt 1 0), (10, pt 1 0), (11, ag [iv z68.1, iv z68.2.1]), (12, pt 1 0), (13, pt 1 2), (14, ag [iv z68.2.2.1, iv z68.2.2.2.1]), (15, iv r51), (16, iv (w64 (2 * r51))), (17, pt 1 0), (18, pt 1 0), (19, ag [iv z68.1, iv z68.2.1])]) (H61_0 z68) [] []) 4 (QJ.o { val := iv r53, new := [] } (qOf_call (g := 63) (args := [ag [iv z68.1, iv z68.2.1]]) (by kernel_rfl) (lookC_skip (fun hg => absurd (show (72 : Nat) = 63 from hg) (by decide)) lookC_hit)) (QJ.rn (qs (st 73 [(2, pt 0 0), (3, pt 1 0), (9, pt 1 0), (10, pt 1 0), (11, ag [iv z68.1, iv z68.2.1]), (12, pt 1 0), (13, pt 1 2), (14, ag [iv z68.2.2.1, iv z68.2.2.2.1]), (15, iv r51), (16, iv (w64 (2 * r51))), (17, pt 1 0), (18, pt 1 0), (19, ag [iv z68.1, iv z68.2.1]), (20, iv r53), (21, iv (w64 ((w64 (2 * r51)) + r53))), (22, pt 1 0), (23, pt 1 0), (24, ag [iv z68.1, iv z68.2.1])]) (H61_0 z68) [] []) 4 ?_))))
    exact QJ.o { val := iv r55, new := [] } (qOf_call (g := 63) (args := [ag [iv z68.1, iv z68.2.1]]) (by kernel_rfl) (lookC_skip (fun hg => absurd (show (72 : Nat) = 63 from hg) (by decide)) (lookC_skip (by intro _ ha _; have hr := Option.some.inj (h54.symm.trans (Eq.trans (congr (congrArg F63 (Eq.refl z68.1)) (Eq.refl z68.2.1)) h56)); first | (subst hr; rfl) | (cases hr; done) | (cases hr; rfl)) lookC_hit))) (QJ.rn (qs (st 73 [(2, pt 0 0), (3, pt 1 0), (9, pt 1 0), (10, pt 1 0), (11, ag [iv z68.1, iv z68.2.1]), (12, pt 1 0), (13, pt 1 2), (14, ag [iv z68.2.2.1, iv z68.2.2.2.1]), (15, iv r51), (16, iv (w64 (2 * r51))), (17, pt 1 0), (18, pt 1 0), (19, ag [iv z68.1, iv z68.2.1]), (20, iv r53), (21, iv (w64 ((w64 (2 * r51)) + r53))), (22, pt 1 0), (23, pt 1 0), (24, ag [iv z68.1, iv z68.2.1]), (25, iv r55), (26, iv (w64 (2 * r55)))]) (H61_0 z68) [] []) 1 (QJ.dn ⟨rfl, (SJ.o { val := iv r57, new := [] } (qOf_call (g := 69) (args := [iv (w64 ((w64 (2 * r51)) + r53)), iv (w64 (2 * r55))]) (by kernel_rfl) (lookC_skip (fun hg => absurd (show (72 : Nat) = 69 from hg) (by decide)) (lookC_skip (fun hg => absurd (show (63 : Nat) = 69 from hg) (by decide)) (lookC_skip (fun hg => absurd (show (63 : Nat) = 69 from hg) (by decide)) lookC_hit)))) SJ.la)⟩))
  refine TS.sq ?_
  have hX := of_do hF
  clear hF
  obtain ⟨r59, h60, hF⟩ := hX
  have hX := of_do hF
  clear hF
  obtain ⟨r61, h62, hF⟩ := hX
  have hT : ∀ e ∈ ([⟨53, [ag [iv z68.2.2.1, iv z68.2.2.2.1], iv (w64 (0 - r57)), ag [iv z68.1, iv z68.2.1]], (H61_0 z68), ag [iv r59.1, iv r59.2], []⟩, ⟨78, [ag [iv z68.2.2.2.2.2.2.1, iv z68.2.2.2.2.2.2.2], iv (w64 (0 - r57)), ag [iv z68.2.2.2.2.1, iv z68.2.2.2.2.2.1]], (H61_0 z68), ag [iv r61.1, iv r61.2], []⟩] : List Entry), PureSim Try.prog e.g e.args e.h e.v e.new := by
    intro e he
    simp only [List.mem_cons, List.not_mem_nil, or_false] at he
    rcases he with rfl | rfl
    · exact PureSim.ak (C53 _ _ _ _ _ _ h60)
    · exact PureSim.ak (C78 _ _ _ _ _ _ h62)
  refine TS.dp [⟨53, [ag [iv z68.2.2.1, iv z68.2.2.2.1], iv (w64 (0 - r57)), ag [iv z68.1, iv z68.2.1]], (H61_0 z68), ag [iv r59.1, iv r59.2], []⟩, ⟨78, [ag [iv z68.2.2.2.2.2.2.1, iv z68.2.2.2.2.2.2.2], iv (w64 (0 - r57)), ag [iv z68.2.2.2.2.1, iv z68.2.2.2.2.2.1]], (H61_0 z68), ag [iv r61.1, iv r61.2], []⟩] hT mixed 18 [2, 3] [0, 1] (st 73 [(2, pt 0 0), (3, pt 1 0)]) (H61_1 z68 r59 r61) ?_ ?_
  · exact QJ.rn (qs (st 73 [(2, pt 0 0), (3, pt 1 0), (4, iv r57), (28, pt 1 0), (29, pt 1 2), (30, ag [iv z68.2.2.1, iv z68.2.2.2.1]), (31, iv r57), (32, iv (w64 (0 - r57))), (33, pt 1 0), (34, pt 1 0), (35, ag [iv z68.1, iv z68.2.1])]) (H61_0 z68) [] []) 8 (QJ.o { val := ag [iv r59.1, iv r59.2], new := [] } (qOf_call (g := 53) (args := [ag [iv z68.2.2.1, iv z68.2.2.2.1], iv (w64 (0 - r57)), ag [iv z68.1, iv z68.2.1]]) (by kernel_rfl) lookC_hit) (QJ.rn (qs (st 73 [(2, pt 0 0), (3, pt 1 0), (4, iv r57), (28, pt 1 0), (29, pt 1 2), (30, ag [iv z68.2.2.1, iv z68.2.2.2.1]), (31, iv r57), (32, iv (w64 (0 - r57))), (33, pt 1 0), (34, pt 1 0), (35, ag [iv z68.1, iv z68.2.1]), (36, ag [iv r59.1, iv r59.2]), (37, pt 1 6), (38, ag [iv z68.2.2.2.2.2.2.1, iv z68.2.2.2.2.2.2.2]), (39, iv r57), (40, iv (w64 (0 - r57))), (41, pt 1 4), (42, ag [iv z68.2.2.2.2.1, iv z68.2.2.2.2.2.1])]) (H61_0 z68) [] []) 6 (QJ.o { val := ag [iv r61.1, iv r61.2], new := [] } (qOf_call (g := 78) (args := [ag [iv z68.2.2.2.2.2.2.1, iv z68.2.2.2.2.2.2.2], iv (w64 (0 - r57)), ag [iv z68.2.2.2.2.1, iv z68.2.2.2.2.2.1]]) (by kernel_rfl) (lookC_skip (fun hg => absurd (show (53 : Nat) = 78 from hg) (by decide)) lookC_hit)) (QJ.rn (qs (st 73 [(2, pt 0 0), (3, pt 1 0), (4, iv r57), (28, pt 1 0), (29, pt 1 2), (30, ag [iv z68.2.2.1, iv z68.2.2.2.1]), (31, iv r57), (32, iv (w64 (0 - r57))), (33, pt 1 0), (34, pt 1 0), (35, ag [iv z68.1, iv z68.2.1]), (36, ag [iv r59.1, iv r59.2]), (37, pt 1 6), (38, ag [iv z68.2.2.2.2.2.2.1, iv z68.2.2.2.2.2.2.2]), (39, iv r57), (40, iv (w64 (0 - r57))), (41, pt 1 4), (42, ag [iv z68.2.2.2.2.1, iv z68.2.2.2.2.2.1]), (43, ag [iv r61.1, iv r61.2]), (44, pt 1 0), (45, pt 1 2)]) (H61_0 z68) [] []) 2 (QJ.dn ⟨rfl, SJ.la⟩)))))
  refine TS.sq (TS.sq ?_)
  have hX := of_do hF
  clear hF
  obtain ⟨r63, h64, hF⟩ := hX
  have hX := of_do hF
  clear hF
  obtain ⟨r65, h66, hF⟩ := hX
  have hT : ∀ e ∈ ([⟨63, [ag [iv z68.1, iv z68.2.1]], (H61_1 z68 r59 r61), iv r63, []⟩, ⟨63, [ag [iv r59.1, iv r59.2]], (H61_1 z68 r59 r61), iv r65, []⟩] : List Entry), PureSim Try.prog e.g e.args e.h e.v e.new := by
    intro e he
    simp only [List.mem_cons, List.not_mem_nil, or_false] at he
    rcases he with rfl | rfl
    · exact PureSim.ak (C63 _ _ _ h64)
    · exact PureSim.ak (C63 _ _ _ h66)
  refine TS.dp [⟨63, [ag [iv z68.1, iv z68.2.1]], (H61_1 z68 r59 r61), iv r63, []⟩, ⟨63, [ag [iv r59.1, iv r59.2]], (H61_1 z68 r59 r61), iv r65, []⟩] hT mixed 7 [2, 3, 55] [0, 1] (st 73 [(2, pt 0 0), (3, pt 1 0), (55, .bool (decide (r63 ≤ r65)))]) (H61_1 z68 r59 r61) ?_ ?_
  · refine QJ.rn (qs (st 73 [(2, pt 0 0), (3, pt 1 0), (47, pt 1 0), (48, pt 1 0), (49, ag [iv z68.1, iv z68.2.1])]) (H61_1 z68 r59 r61) [] []) 3 (QJ.o { val := iv r63, new := [] } (qOf_call (g := 63) (args := [ag [iv z68.1, iv z68.2.1]]) (by kernel_rfl) lookC_hit) (QJ.rn (qs (st 73 [(2, pt 0 0), (3, pt 1 0), (47, pt 1 0), (48, pt 1 0), (49, ag [iv z68.1, iv z68.2.1]), (50, iv r63), (51, pt 1 0), (52, pt 1 2), (53, ag [iv r59.1, iv r59.2])]) (H61_1 z68 r59 r61) [] []) 3 (QJ.dn ⟨rfl, ?_⟩)))
    exact SJ.o { val := iv r65, new := [] } (qOf_call (g := 63) (args := [ag [iv r59.1, iv r59.2]]) (by kernel_rfl) (lookC_skip (by intro _ ha _; have hr := Option.some.inj (h64.symm.trans (Eq.trans (congr (congrArg F63 (show z68.1 = r59.1 from congrArg (leafI 0) ha)) (show z68.2.1 = r59.2 from congrArg (leafI 1) ha)) h66)); first | (subst hr; rfl) | (cases hr; done) | (cases hr; rfl)) lookC_hit)) SJ.la
  refine TS.cd (.tmp 55) (decide (r63 ≤ r65)) (fun hc67 => ?_) (fun hc67 => ?_)
  · replace hF := of_pos hF hc67
    refine TS.sq (TS.rg (TI.rn 2 [2] [0] (st 73 [(2, pt 0 0)]) [cl 108 [iv z68.1, iv z68.2.1, iv r59.1, iv r59.2, iv z68.2.2.2.2.1, iv z68.2.2.2.2.2.1, iv r61.1, iv r61.2], .dead] (TI.dn (NX.sq (TS.rt (NX.sqR (NX.bkR ?_)))))))
    have hF := Option.some.inj hF
    subst hF
    exact Rd.out (e := .ret) (by intro h; cases h) (And.intro rfl (Wk.anew (base := 0) (L := 0) (f := [0]) (by decide) (by decide) (Nat.le_of_ble_eq_true rfl) rfl (.cons (At.blk (by kernel_rfl) (RnB.lit (.cons (.flat (by kernel_rfl)) (.cons (.flat (by kernel_rfl)) (.cons (.flat (by kernel_rfl)) (.cons (.flat (by kernel_rfl)) (.cons (.flat (by kernel_rfl)) (.cons (.flat (by kernel_rfl)) (.cons (.flat (by kernel_rfl)) (.cons (.flat (by kernel_rfl)) .nil)))))))))) (.nil _)) (LRn.stx [2] [pt 0 0] [pt 0 0] (.cons (Rn.ptr _ _ _ (Nat.le_of_ble_eq_true rfl) rfl) .nil) (by kernel_rfl) (by kernel_rfl) rfl) rfl rfl))
  · replace hF := of_neg hF hc67
    refine TS.sk (NX.sq (TS.rg (TI.rn 20 [2, 3] [0, 1] (st 73 [(2, pt 0 0), (3, pt 1 0)]) [cl 108 [iv 0, iv 0, iv 0, iv 0, iv 0, iv 0, iv 0, iv 0], cl 108 [iv r59.1, iv r59.2, iv z68.1, iv z68.2.1, iv r61.1, iv r61.2, iv z68.2.2.2.2.1, iv z68.2.2.2.2.2.1]] (TI.dn (NX.bk ?_)))))
    exact Rd.again (a2 := (st 73 [(2, pt 0 0), (3, pt 1 0)])) (h2 := [cl 108 [iv 0, iv 0, iv 0, iv 0, iv 0, iv 0, iv 0, iv 0], cl 108 [iv r59.1, iv r59.2, iv z68.1, iv z68.2.1, iv r61.1, iv r61.2, iv z68.2.2.2.2.1, iv z68.2.2.2.2.2.1]]) (Wk.anew (base := 0) (L := 0) (f := [0, 1]) (by decide) (by decide) (Nat.le_of_ble_eq_true rfl) rfl (.cons (At.blk (by kernel_rfl) (RnB.lit (.cons (.flat (by kernel_rfl)) (.cons (.flat (by kernel_rfl)) (.cons (.flat (by kernel_rfl)) (.cons (.flat (by kernel_rfl)) (.cons (.flat (by kernel_rfl)) (.cons (.flat (by kernel_rfl)) (.cons (.flat (by kernel_rfl)) (.cons (.flat (by kernel_rfl)) .nil)))))))))) (.cons (At.blk (by kernel_rfl) (RnB.lit (.cons (.flat (by kernel_rfl)) (.cons (.flat (by kernel_rfl)) (.cons (.flat (by kernel_rfl)) (.cons (.flat (by kernel_rfl)) (.cons (.flat (by kernel_rfl)) (.cons (.flat (by kernel_rfl)) (.cons (.flat (by kernel_rfl)) (.cons (.flat (by kernel_rfl)) .nil)))))))))) (.nil _))) (LRn.stx [2, 3] [pt 0 0, pt 1 0] [pt 0 0, pt 1 0] (.cons (Rn.ptr _ _ _ (Nat.le_of_ble_eq_true rfl) rfl) (.cons (Rn.ptr _ _ _ (Nat.le_of_ble_eq_true rfl) rfl) .nil)) (by kernel_rfl) (by kernel_rfl) rfl) rfl rfl) (ih (r59.1, r59.2, z68.1, z68.2.1, r61.1, r61.2, z68.2.2.2.2.1, z68.2.2.2.2.2.1) _ hF)
theorem B61 (p0 : Int) (p1 : Int) (p2 : Int) (p3 : Int) (r : (((Int × Int) × (Int × Int)) × (Int × Int) × (Int × Int))) (hF : F61 p0 p1 p2 p3 = some r) : TS Try.prog 0 0 c61 (st 73 [(0, ag [iv p0, iv p1, iv p2, iv p3])]) [] (NX Try.prog 0 0 [] (FinP Try.prog Try.f61 0 (V61 0 r) (N61 0 r))) := by
  unfold F61 at hF
  refine TS.sq (TS.rg (TI.rn 2 [1, 2] [0, 1] (st 73 [(1, pt 0 0), (2, pt 1 0)]) [cl 25 [iv p0, iv p1, iv p2, iv p3], cl 108 [iv 0, iv 0, iv 0, iv 0, iv 0, iv 0, iv 0, iv 0]] (TI.dn (NX.sq (TS.sq (TS.rg (TI.rn 6 [2, 3] [1, 2] (st 73 [(2, pt 1 0), (3, pt 2 0)]) [.dead, cl 108 [iv 0, iv 0, iv 0, iv 0, iv 0, iv 0, iv 0, iv 0], cl 108 [iv p0, iv p1, iv p2, iv p3, iv 1, iv 0, iv 0, iv 1]] (TI.dn ?_))))))))
  refine NX.sq (TS.bk 0 ?_)
  have hX := of_do hF
  clear hF
  obtain ⟨r69, h70, hF⟩ := hX
  refine TS.lp (TL.weak (a2 := (st 73 [(2, pt 0 0), (3, pt 1 0)])) (h2 := [cl 108 [iv 0, iv 0, iv 0, iv 0, iv 0, iv 0, iv 0, iv 0], cl 108 [iv p0, iv p1, iv p2, iv p3, iv 1, iv 0, iv 0, iv 1]]) (Wk.anew (base := 0) (L := 0) (f := [1, 2]) (by decide) (by decide) (Nat.le_of_ble_eq_true rfl) rfl (.cons (At.blk (by kernel_rfl) (RnB.lit (.cons (.flat (by kernel_rfl)) (.cons (.flat (by kernel_rfl)) (.cons (.flat (by kernel_rfl)) (.cons (.flat (by kernel_rfl)) (.cons (.flat (by kernel_rfl)) (.cons (.flat (by kernel_rfl)) (.cons (.flat (by kernel_rfl)) (.cons (.flat (by kernel_rfl)) .nil)))))))))) (.cons (At.blk (by kernel_rfl) (RnB.lit (.cons (.flat (by kernel_rfl)) (.cons (.flat (by kernel_rfl)) (.cons (.flat (by kernel_rfl)) (.cons (.flat (by kernel_rfl)) (.cons (.flat (by kernel_rfl)) (.cons (.flat (by kernel_rfl)) (.cons (.flat (by kernel_rfl)) (.cons (.flat (by kernel_rfl)) .nil)))))))))) (.nil _))) (LRn.stx [2, 3] [pt 0 0, pt 1 0] [pt 1 0, pt 2 0] (.cons (Rn.ptr _ _ _ (Nat.le_of_ble_eq_true rfl) rfl) (.cons (Rn.ptr _ _ _ (Nat.le_of_ble_eq_true rfl) rfl) .nil)) (by kernel_rfl) (by kernel_rfl) rfl) rfl rfl) (TL.post (L61l0  p0 p1 p2 p3 1 0 0 1 r69 h70) ?_))
  rintro e a1 h1 hp
  obtain ⟨rfl, hw⟩ := hp
  refine ⟨(st 73 [(2, pt 0 0)]), [cl 108 [iv r69.1, iv r69.2.1, iv r69.2.2.1, iv r69.2.2.2.1, iv r69.2.2.2.2.1, iv r69.2.2.2.2.2.1, iv r69.2.2.2.2.2.2.1, iv r69.2.2.2.2.2.2.2]], (NX.bkR ?_), hw⟩
  have hF := Option.some.inj hF
  subst hF
  exact ⟨.inr rfl, rfl, ag [iv r69.1, iv r69.2.1, iv r69.2.2.1, iv r69.2.2.2.1, iv r69.2.2.2.2.1, iv r69.2.2.2.2.2.1, iv r69.2.2.2.2.2.2.1, iv r69.2.2.2.2.2.2.2], by kernel_rfl, WkV.flat0 (by kernel_rfl) (Nat.le_of_ble_eq_true rfl)⟩
theorem C61 (p0 : Int) (p1 : Int) (p2 : Int) (p3 : Int) (r : (((Int × Int) × (Int × Int)) × (Int × Int) × (Int × Int))) (hF : F61 p0 p1 p2 p3 = some r) : PureSim Try.prog 61 [ag [iv p0, iv p1, iv p2, iv p3]] [] (V61 0 r) (N61 0 r) :=
  PureSim.of_Fin Try.func61 (c := c61) (by kernel_rfl) (by kernel_rfl) 0 rfl [0] [] (by kernel_rfl) (B61 p0 p1 p2 p3 r hF)

-- (agonic/magnet.bundles).around
noncomputable def c80 : Code := Try.f80.code
def S80_0 (p0 : Int) (p1 : Int) (p2 : Int) (p3 : Int) (r8 : (Int × Int)) (r14 : (Int × Int)) : CAct := (st 47 [(2, pt 1 0), (4, pt 2 0), (5, iv 2), (6, pt 5 0), (29, ag [iv p0, iv p1, iv p2, iv p3, iv r8.1, iv r8.2]), (30, iv 2), (34, iv 2), (35, iv 4), (36, iv 2), (37, iv 4), (38, iv 5), (39, ag [iv r8.1, iv r8.2]), (40, ag [iv 0, iv 0]), (41, ag [iv r8.1, iv r8.2]), (42, ag [iv r14.1, iv r14.2]), (43, pt 2 8), (44, pt 2 10)])
def S80_1 (p0 : Int) (p1 : Int) (p2 : Int) (p3 : Int) (r8 : (Int × Int)) (r10 : (Int × Int)) : CAct := (st 47 [(2, pt 1 0), (4, pt 2 0), (5, iv 0), (6, pt 3 0), (29, ag [iv p0, iv p1, iv p2, iv p3, iv r8.1, iv r8.2]), (30, iv 0), (34, iv 0), (35, iv 0), (36, iv 0), (37, iv 0), (38, iv 1), (39, ag [iv p0, iv p1]), (40, ag [iv 0, iv 0]), (41, ag [iv p0, iv p1]), (42, ag [iv r10.1, iv r10.2]), (43, pt 2 0), (44, pt 2 2)])
def S80_2 (p0 : Int) (p1 : Int) (p2 : Int) (p3 : Int) (r8 : (Int × Int)) (r12 : (Int × Int)) : CAct := (st 47 [(2, pt 1 0), (4, pt 2 0), (5, iv 1), (6, pt 4 0), (29, ag [iv p0, iv p1, iv p2, iv p3, iv r8.1, iv r8.2]), (30, iv 1), (34, iv 1), (35, iv 2), (36, iv 1), (37, iv 2), (38, iv 3), (39, ag [iv p2, iv p3]), (40, ag [iv 0, iv 0]), (41, ag [iv p2, iv p3]), (42, ag [iv r12.1, iv r12.2]), (43, pt 2 4), (44, pt 2 6)])
def S80_3 (p0 : Int) (p1 : Int) (p2 : Int) (p3 : Int) (r8 : (Int × Int)) (r14 : (Int × Int)) : CAct := (st 47 [(2, pt 1 0), (4, pt 2 0), (5, iv 2), (6, pt 5 0), (29, ag [iv p0, iv p1, iv p2, iv p3, iv r8.1, iv r8.2]), (30, iv 2), (34, iv 2), (35, iv 4), (36, iv 2), (37, iv 4), (38, iv 5), (39, ag [iv r8.1, iv r8.2]), (40, ag [iv 0, iv 0]), (41, ag [iv r8.1, iv r8.2]), (42, ag [iv r14.1, iv r14.2]), (43, pt 2 8)])
def S80_4 (p0 : Int) (p1 : Int) (p2 : Int) (p3 : Int) (r8 : (Int × Int)) (r10 : (Int × Int)) : CAct := (st 47 [(2, pt 1 0), (4, pt 2 0), (5, iv 0), (6, pt 3 0), (29, ag [iv p0, iv p1, iv p2, iv p3, iv r8.1, iv r8.2]), (30, iv 0), (34, iv 0), (35, iv 0), (36, iv 0), (37, iv 0), (38, iv 1), (39, ag [iv p0, iv p1]), (40, ag [iv 0, iv 0]), (41, ag [iv p0, iv p1]), (42, ag [iv r10.1, iv r10.2]), (43, pt 2 0)])
def S80_5 (p0 : Int) (p1 : Int) (p2 : Int) (p3 : Int) (r8 : (Int × Int)) (r12 : (Int × Int)) : CAct := (st 47 [(2, pt 1 0), (4, pt 2 0), (5, iv 1), (6, pt 4 0), (29, ag [iv p0, iv p1, iv p2, iv p3, iv r8.1, iv r8.2]), (30, iv 1), (34, iv 1), (35, iv 2), (36, iv 1), (37, iv 2), (38, iv 3), (39, ag [iv p2, iv p3]), (40, ag [iv 0, iv 0]), (41, ag [iv p2, iv p3]), (42, ag [iv r12.1, iv r12.2]), (43, pt 2 4)])
def S80_6 (p0 : Int) (p1 : Int) (p2 : Int) (p3 : Int) (r8 : (Int × Int)) (r14 : (Int × Int)) : CAct := (st 47 [(2, pt 1 0), (4, pt 2 0), (5, iv 2), (6, pt 5 0), (29, ag [iv p0, iv p1, iv p2, iv p3, iv r8.1, iv r8.2]), (30, iv 2), (34, iv 2), (35, iv 4), (36, iv 2), (37, iv 4), (38, iv 5), (39, ag [iv r8.1, iv r8.2]), (40, ag [iv 0, iv 0]), (41, ag [iv r8.1, iv r8.2]), (42, ag [iv r14.1, iv r14.2])])
def S80_7 (p0 : Int) (p1 : Int) (p2 : Int) (p3 : Int) (r8 : (Int × Int)) (r10 : (Int × Int)) : CAct := (st 47 [(2, pt 1 0), (4, pt 2 0), (5, iv 0), (6, pt 3 0), (29, ag [iv p0, iv p1, iv p2, iv p3, iv r8.1, iv r8.2]), (30, iv 0), (34, iv 0), (35, iv 0), (36, iv 0), (37, iv 0), (38, iv 1), (39, ag [iv p0, iv p1]), (40, ag [iv 0, iv 0]), (41, ag [iv p0, iv p1]), (42, ag [iv r10.1, iv r10.2])])
def S80_8 (p0 : Int) (p1 : Int) (p2 : Int) (p3 : Int) (r8 : (Int × Int)) (r12 : (Int × Int)) : CAct := (st 47 [(2, pt 1 0), (4, pt 2 0), (5, iv 1), (6, pt 4 0), (29, ag [iv p0, iv p1, iv p2, iv p3, iv r8.1, iv r8.2]), (30, iv 1), (34, iv 1), (35, iv 2), (36, iv 1), (37, iv 2), (38, iv 3), (39, ag [iv p2, iv p3]), (40, ag [iv 0, iv 0]), (41, ag [iv p2, iv p3]), (42, ag [iv r12.1, iv r12.2])])
def S80_9 (p0 : Int) (p1 : Int) (p2 : Int) (p3 : Int) (r8 : (Int × Int)) : CAct := (st 47 [(2, pt 1 0), (4, pt 2 0), (5, iv 2), (6, pt 5 0), (29, ag [iv p0, iv p1, iv p2, iv p3, iv r8.1, iv r8.2]), (30, iv 2), (34, iv 2), (35, iv 4), (36, iv 2), (37, iv 4), (38, iv 5), (39, ag [iv r8.1, iv r8.2]), (40, ag [iv 0, iv 0]), (41, ag [iv r8.1, iv r8.2])])
def S80_10 (p0 : Int) (p1 : Int) (p2 : Int) (p3 : Int) (r8 : (Int × Int)) : CAct := (st 47 [(2, pt 1 0), (4, pt 2 0), (5, iv 0), (6, pt 3 0), (29, ag [iv p0, iv p1, iv p2, iv p3, iv r8.1, iv r8.2]), (30, iv 0), (34, iv 0), (35, iv 0), (36, iv 0), (37, iv 0), (38, iv 1), (39, ag [iv p0, iv p1]), (40, ag [iv 0, iv 0]), (41, ag [iv p0, iv p1])])
def S80_11 (p0 : Int) (p1 : Int) (p2 : Int) (p3 : Int) (r8 : (Int × Int)) : CAct := (st 47 [(2, pt 1 0), (4, pt 2 0), (5, iv 1), (6, pt 4 0), (29, ag [iv p0, iv p1, iv p2, iv p3, iv r8.1, iv r8.2]), (30, iv 1), (34, iv 1), (35, iv 2), (36, iv 1), (37, iv 2), (38, iv 3), (39, ag [iv p2, iv p3]), (40, ag [iv 0, iv 0]), (41, ag [iv p2, iv p3])])
def H80_12 (p0 : Int) (p1 : Int) (r10 : (Int × Int)) (p2 : Int) (p3 : Int) (r12 : (Int × Int)) (r8 : (Int × Int)) : List Blk := [.dead, cl 123 [iv 0, iv 0, iv 0, iv 0, iv 0, iv 0, iv 0, iv 0, iv 0, iv 0, iv 0, iv 0], cl 123 [iv p0, iv p1, iv r10.1, iv r10.2, iv p2, iv p3, iv r12.1, iv r12.2, iv r8.1, iv r8.2, iv 0, iv 0], .dead, .dead, cl 23 [iv r8.1, iv r8.2]]
def H80_13 (p0 : Int) (p1 : Int) (r10 : (Int × Int)) (p2 : Int) (p3 : Int) (r12 : (Int × Int)) (r8 : (Int × Int)) : List Blk := [.dead, cl 123 [iv 0, iv 0, iv 0, iv 0, iv 0, iv 0, iv 0, iv 0, iv 0, iv 0, iv 0, iv 0], cl 123 [iv p0, iv p1, iv r10.1, iv r10.2, iv p2, iv p3, iv r12.1, iv r12.2, iv 0, iv 0, iv 0, iv 0], .dead, .dead, cl 23 [iv r8.1, iv r8.2]]
def H80_14 (p0 : Int) (p1 : Int) (p2 : Int) (p3 : Int) (p4 : Int) (p5 : Int) (p6 : Int) (p7 : Int) : List Blk := [cl 108 [iv p0, iv p1, iv p2, iv p3, iv p4, iv p5, iv p6, iv p7], cl 123 [iv 0, iv 0, iv 0, iv 0, iv 0, iv 0, iv 0, iv 0, iv 0, iv 0, iv 0, iv 0], cl 123 [iv 0, iv 0, iv 0, iv 0, iv 0, iv 0, iv 0, iv 0, iv 0, iv 0, iv 0, iv 0]]
def H80_15 (p0 : Int) (p1 : Int) (r10 : (Int × Int)) (p2 : Int) (p3 : Int) (r12 : (Int × Int)) : List Blk := [.dead, cl 123 [iv 0, iv 0, iv 0, iv 0, iv 0, iv 0, iv 0, iv 0, iv 0, iv 0, iv 0, iv 0], cl 123 [iv p0, iv p1, iv r10.1, iv r10.2, iv p2, iv p3, iv r12.1, iv r12.2, iv 0, iv 0, iv 0, iv 0], .dead, cl 23 [iv p2, iv p3]]
def H80_16 (p0 : Int) (p1 : Int) (r10 : (Int × Int)) (p2 : Int) (p3 : Int) : List Blk := [.dead, cl 123 [iv 0, iv 0, iv 0, iv 0, iv 0, iv 0, iv 0, iv 0, iv 0, iv 0, iv 0, iv 0], cl 123 [iv p0, iv p1, iv r10.1, iv r10.2, iv p2, iv p3, iv 0, iv 0, iv 0, iv 0, iv 0, iv 0], .dead, cl 23 [iv p2, iv p3]]
def H80_17 (p0 : Int) (p1 : Int) (r10 : (Int × Int)) (p2 : Int) (p3 : Int) : List Blk := [.dead, cl 123 [iv 0, iv 0, iv 0, iv 0, iv 0, iv 0, iv 0, iv 0, iv 0, iv 0, iv 0, iv 0], cl 123 [iv p0, iv p1, iv r10.1, iv r10.2, iv 0, iv 0, iv 0, iv 0, iv 0, iv 0, iv 0, iv 0], .dead, cl 23 [iv p2, iv p3]]
def H80_18 (p0 : Int) (p1 : Int) (r10 : (Int × Int)) : List Blk := [.dead, cl 123 [iv 0, iv 0, iv 0, iv 0, iv 0, iv 0, iv 0, iv 0, iv 0, iv 0, iv 0, iv 0], cl 123 [iv p0, iv p1, iv r10.1, iv r10.2, iv 0, iv 0, iv 0, iv 0, iv 0, iv 0, iv 0, iv 0], cl 23 [iv p0, iv p1]]
def H80_19 (p0 : Int) (p1 : Int) : List Blk := [.dead, cl 123 [iv 0, iv 0, iv 0, iv 0, iv 0, iv 0, iv 0, iv 0, iv 0, iv 0, iv 0, iv 0], cl 123 [iv p0, iv p1, iv 0, iv 0, iv 0, iv 0, iv 0, iv 0, iv 0, iv 0, iv 0, iv 0], cl 23 [iv p0, iv p1]]
def H80_20 (p0 : Int) (p1 : Int) : List Blk := [.dead, cl 123 [iv 0, iv 0, iv 0, iv 0, iv 0, iv 0, iv 0, iv 0, iv 0, iv 0, iv 0, iv 0], cl 123 [iv 0, iv 0, iv 0, iv 0, iv 0, iv 0, iv 0, iv 0, iv 0, iv 0, iv 0, iv 0], cl 23 [iv p0, iv p1]]
def F80 (p0 : Int) (p1 : Int) (p2 : Int) (p3 : Int) (p4 : Int) (p5 : Int) (p6 : Int) (p7 : Int) : Option ((Int × Int) × (Int × Int) × (Int × Int) × (Int × Int) × (Int × Int) × (Int × Int)) :=
  F72 p0 p1 p2 p3 >>= fun r1 =>
  (
    if decide (r1 > 0) then
      some (-1)
    else
      some 1
  : Option Int) >>= fun m6 =>
  F53 p0 p1 m6 p2 p3 >>= fun r8 =>
  F53 0 0 (-1) p0 p1 >>= fun r10 =>
  F53 0 0 (-1) p2 p3 >>= fun r12 =>
  F53 0 0 (-1) r8.1 r8.2 >>= fun r14 =>
  some ((p0, p1), (r10.1, r10.2), (p2, p3), (r12.1, r12.2), (r8.1, r8.2), (r14.1, r14.2))
def V80 (b : Nat) (r : ((Int × Int) × (Int × Int) × (Int × Int) × (Int × Int) × (Int × Int) × (Int × Int))) : Value := ag [iv r.1.1, iv r.1.2, iv r.2.1.1, iv r.2.1.2, iv r.2.2.1.1, iv r.2.2.1.2, iv r.2.2.2.1.1, iv r.2.2.2.1.2, iv r.2.2.2.2.1.1, iv r.2.2.2.2.1.2, iv r.2.2.2.2.2.1, iv r.2.2.2.2.2.2]
def N80 (b : Nat) (r : ((Int × Int) × (Int × Int) × (Int × Int) × (Int × Int) × (Int × Int) × (Int × Int))) : List Blk := []
theorem B80 (p0 : Int) (p1 : Int) (p2 : Int) (p3 : Int) (p4 : Int) (p5 : Int) (p6 : Int) (p7 : Int) (r : ((Int × Int) × (Int × Int) × (Int × Int) × (Int × Int) × (Int × Int) × (Int × Int))) (hF : F80 p0 p1 p2 p3 p4 p5 p6 p7 = some r) : TS Try.prog 0 0 c80 (st 47 [(0, ag [iv p0, iv p1, iv p2, iv p3, iv p4, iv p5, iv p6, iv p7])]) [] (NX Try.prog 0 0 [] (FinP Try.prog Try.f80 0 (V80 0 r) (N80 0 r))) := by
  unfold F80 at hF
  refine TS.sq (TS.rg (TI.rn 2 [1, 2] [0, 1] (st 47 [(1, pt 0 0), (2, pt 1 0)]) [cl 108 [iv p0, iv p1, iv p2, iv p3, iv p4, iv p5, iv p6, iv p7], cl 123 [iv 0, iv 0, iv 0, iv 0, iv 0, iv 0, iv 0, iv 0, iv 0, iv 0, iv 0, iv 0]] (TI.dn (NX.sq (TS.sq (TS.rg (TI.ra 1 [1, 2, 3] (st 47 [(1, pt 0 0), (2, pt 1 0), (3, iv 1)]) (TI.dn ?_))))))))
  refine NX.sq (TS.sq (TS.sq ?_))
  have hX := of_do hF
  clear hF
  obtain ⟨r1, h2, hF⟩ := hX
  refine TS.rg (TI.ra 6 [1, 2, 3, 9, 12] (st 47 [(1, pt 0 0), (2, pt 1 0), (3, iv 1), (9, ag [iv p0, iv p1]), (12, ag [iv p2, iv p3])]) (TI.cf (C72 _ _ _ _ _ h2) (TI.ra 1 [1, 2, 3, 14] (st 47 [(1, pt 0 0), (2, pt 1 0), (3, iv 1), (14, .bool (decide (r1 > 0)))]) (TI.dn (NX.sq ?_)))))
  have hX := of_do hF
  clear hF
  obtain ⟨m6, hm7, hF⟩ := hX
  have hK : NX Try.prog 0 0 [.sq c80.s2.s2.s2] (FinP Try.prog Try.f80 0 (V80 0 r) (N80 0 r)) .normal (st 47 [(1, pt 0 0), (2, pt 1 0), (3, iv m6)]) [cl 108 [iv p0, iv p1, iv p2, iv p3, iv p4, iv p5, iv p6, iv p7], cl 123 [iv 0, iv 0, iv 0, iv 0, iv 0, iv 0, iv 0, iv 0, iv 0, iv 0, iv 0, iv 0]] := by
    refine NX.sq (TS.sq (TS.rg (TI.rn 1 [1, 2, 3, 4] [0, 1, 2] (st 47 [(1, pt 0 0), (2, pt 1 0), (3, iv m6), (4, pt 2 0)]) (H80_14 p0 p1 p2 p3 p4 p5 p6 p7) (TI.dn (NX.sq (TS.sq (TS.sq ?_)))))))
    have hX := of_do hF
    clear hF
    obtain ⟨r8, h9, hF⟩ := hX
    have hT : ∀ e ∈ ([⟨53, [ag [iv p0, iv p1], iv m6, ag [iv p2, iv p3]], (H80_14 p0 p1 p2 p3 p4 p5 p6 p7), ag [iv r8.1, iv r8.2], []⟩] : List Entry), PureSim Try.prog e.g e.args e.h e.v e.new := by
      intro e he
      simp only [List.mem_cons, List.not_mem_nil, or_false] at he
      rcases he with rfl
      · exact PureSim.ak (C53 _ _ _ _ _ _ h9)
    refine TS.dp [⟨53, [ag [iv p0, iv p1], iv m6, ag [iv p2, iv p3]], (H80_14 p0 p1 p2 p3 p4 p5 p6 p7), ag [iv r8.1, iv r8.2], []⟩] hT mixed 16 [2, 4, 29, 30] [1, 2] (st 47 [(2, pt 1 0), (4, pt 2 0), (29, ag [iv p0, iv p1, iv p2, iv p3, iv r8.1, iv r8.2]), (30, iv 0)]) [.dead, cl 123 [iv 0, iv 0, iv 0, iv 0, iv 0, iv 0, iv 0, iv 0, iv 0, iv 0, iv 0, iv 0], cl 123 [iv 0, iv 0, iv 0, iv 0, iv 0, iv 0, iv 0, iv 0, iv 0, iv 0, iv 0, iv 0]] ?_ ?_
    · exact QJ.rn (qs (st 47 [(1, pt 0 0), (2, pt 1 0), (3, iv m6), (4, pt 2 0), (15, pt 0 0), (16, pt 0 0), (17, ag [iv p0, iv p1]), (18, pt 0 0), (19, pt 0 2), (20, ag [iv p2, iv p3]), (21, pt 0 0), (22, pt 0 0), (23, ag [iv p0, iv p1]), (24, iv m6), (25, pt 0 0), (26, pt 0 2), (27, ag [iv p2, iv p3])]) (H80_14 p0 p1 p2 p3 p4 p5 p6 p7) [] []) 13 (QJ.o { val := ag [iv r8.1, iv r8.2], new := [] } (qOf_call (g := 53) (args := [ag [iv p0, iv p1], iv m6, ag [iv p2, iv p3]]) (by kernel_rfl) lookC_hit) (QJ.rn (qs (st 47 [(1, pt 0 0), (2, pt 1 0), (3, iv m6), (4, pt 2 0), (15, pt 0 0), (16, pt 0 0), (17, ag [iv p0, iv p1]), (18, pt 0 0), (19, pt 0 2), (20, ag [iv p2, iv p3]), (21, pt 0 0), (22, pt 0 0), (23, ag [iv p0, iv p1]), (24, iv m6), (25, pt 0 0), (26, pt 0 2), (27, ag [iv p2, iv p3]), (28, ag [iv r8.1, iv r8.2]), (29, ag [iv p0, iv p1, iv p2, iv p3, iv r8.1, iv r8.2]), (30, iv 0)]) (H80_14 p0 p1 p2 p3 p4 p5 p6 p7) [] []) 2 (QJ.dn ⟨rfl, SJ.dn⟩)))
    refine TS.bk 0 (TS.lp (TL.round (TS.sq (TS.rg (TI.ra 1 [2, 4, 29, 30, 31] (st 47 [(2, pt 1 0), (4, pt 2 0), (29, ag [iv p0, iv p1, iv p2, iv p3, iv r8.1, iv r8.2]), (30, iv 0), (31, .bool true)]) (TI.dn (NX.sq (TS.sq ?_))))))))
    refine TS.cdT (.tmp 31) (TS.sk (NX.sq (TS.sq (TS.bk 1 (TS.sq (TS.rg (TI.rn 5 [2, 4, 5, 6, 29, 30] [1, 2, 3] (st 47 [(2, pt 1 0), (4, pt 2 0), (5, iv 0), (6, pt 3 0), (29, ag [iv p0, iv p1, iv p2, iv p3, iv r8.1, iv r8.2]), (30, iv 0)]) (H80_20 p0 p1) (TI.dn ?_))))))))
    refine NX.sq ?_
    have hX := of_do hF
    clear hF
    obtain ⟨r10, h11, hF⟩ := hX
    have hT : ∀ e ∈ ([⟨53, [ag [iv 0, iv 0], iv (-1), ag [iv p0, iv p1]], (H80_20 p0 p1), ag [iv r10.1, iv r10.2], []⟩] : List Entry), PureSim Try.prog e.g e.args e.h e.v e.new := by
      intro e he
      simp only [List.mem_cons, List.not_mem_nil, or_false] at he
      rcases he with rfl
      · exact PureSim.ak (C53 _ _ _ _ _ _ h11)
    refine TS.drawE (id := 8) (b := true) (ops := c80.s2.s2.s2.s2.s1.s2.bd.bd.s2.s2.s1.bd.s2.rops) (fin := (qs (S80_4 p0 p1 p2 p3 r8 r10) (H80_19 p0 p1) [] [(10, 2)])) (fin2 := (qs (S80_4 p0 p1 p2 p3 r8 r10) (H80_19 p0 p1) [] [(10, 2)])) (a1 := (S80_1 p0 p1 p2 p3 r8 r10)) (h1 := (H80_18 p0 p1 r10)) [⟨53, [ag [iv 0, iv 0], iv (-1), ag [iv p0, iv p1]], (H80_20 p0 p1), ag [iv r10.1, iv r10.2], []⟩] hT mixed (by kernel_rfl) rfl 11 (by kernel_rfl) [(10, 2)] ?_ rfl (.inr ⟨?_, (by kernel_rfl)⟩) ?_ ?_
    · exact QI.run (s1 := (qs (S80_10 p0 p1 p2 p3 r8) (H80_20 p0 p1) [] [])) 8 (by kernel_rfl) (by kernel_rfl) (QI.op (q := { val := ag [iv r10.1, iv r10.2], new := [] }) (s1 := (qs (S80_7 p0 p1 p2 p3 r8 r10) (H80_20 p0 p1) [] [])) (by decide) (qOf_call (g := 53) (args := [ag [iv 0, iv 0], iv (-1), ag [iv p0, iv p1]]) (by kernel_rfl) lookC_hit) (by kernel_rfl) (QI.run (s1 := (qs (S80_4 p0 p1 p2 p3 r8 r10) (H80_19 p0 p1) [] [(10, 2)])) 2 (by kernel_rfl) (by kernel_rfl) (QI.done (by kernel_rfl))))
    · exact QI.run (s1 := (qs (S80_10 p0 p1 p2 p3 r8) (H80_20 p0 p1) [] [])) 8 (by kernel_rfl) (by kernel_rfl) (QI.op (q := { val := ag [iv r10.1, iv r10.2], new := [] }) (s1 := (qs (S80_7 p0 p1 p2 p3 r8 r10) (H80_20 p0 p1) [] [])) (by decide) (qOf_call (g := 53) (args := [ag [iv 0, iv 0], iv (-1), ag [iv p0, iv p1]]) (by kernel_rfl) lookC_hit) (by kernel_rfl) (QI.run (s1 := (qs (S80_4 p0 p1 p2 p3 r8 r10) (H80_19 p0 p1) [] [(10, 2)])) 2 (by kernel_rfl) (by kernel_rfl) (QI.done (by kernel_rfl))))
    · exact SI.run (a2 := (S80_1 p0 p1 p2 p3 r8 r10)) (h2 := (H80_18 p0 p1 r10)) 2 (by kernel_rfl) (SI.done (by kernel_rfl))
    refine NX.bk (NX.sq (TS.rg (TI.rn 2 [2, 4, 29, 30] [1, 2] (st 47 [(2, pt 1 0), (4, pt 2 0), (29, ag [iv p0, iv p1, iv p2, iv p3, iv r8.1, iv r8.2]), (30, iv 1)]) [.dead, cl 123 [iv 0, iv 0, iv 0, iv 0, iv 0, iv 0, iv 0, iv 0, iv 0, iv 0, iv 0, iv 0], cl 123 [iv p0, iv p1, iv r10.1, iv r10.2, iv 0, iv 0, iv 0, iv 0, iv 0, iv 0, iv 0, iv 0], .dead] (TI.dn ?_))))
    refine Rd.again Wk.refl (TL.round (TS.sq (TS.rg (TI.ra 1 [2, 4, 29, 30, 31] (st 47 [(2, pt 1 0), (4, pt 2 0), (29, ag [iv p0, iv p1, iv p2, iv p3, iv r8.1, iv r8.2]), (30, iv 1), (31, .bool true)]) (TI.dn (NX.sq (TS.sq (TS.cdT (.tmp 31) (TS.sk ?_)))))))))
    refine NX.sq (TS.sq (TS.bk 1 (TS.sq (TS.rg (TI.rn 5 [2, 4, 5, 6, 29, 30] [1, 2, 4] (st 47 [(2, pt 1 0), (4, pt 2 0), (5, iv 1), (6, pt 4 0), (29, ag [iv p0, iv p1, iv p2, iv p3, iv r8.1, iv r8.2]), (30, iv 1)]) (H80_17 p0 p1 r10 p2 p3) (TI.dn (NX.sq ?_)))))))
    have hX := of_do hF
    clear hF
    obtain ⟨r12, h13, hF⟩ := hX
    have hT : ∀ e ∈ ([⟨53, [ag [iv 0, iv 0], iv (-1), ag [iv p2, iv p3]], (H80_17 p0 p1 r10 p2 p3), ag [iv r12.1, iv r12.2], []⟩] : List Entry), PureSim Try.prog e.g e.args e.h e.v e.new := by
      intro e he
      simp only [List.mem_cons, List.not_mem_nil, or_false] at he
      rcases he with rfl
      · exact PureSim.ak (C53 _ _ _ _ _ _ h13)
    refine TS.drawE (id := 8) (b := true) (ops := c80.s2.s2.s2.s2.s1.s2.bd.bd.s2.s2.s1.bd.s2.rops) (fin := (qs (S80_5 p0 p1 p2 p3 r8 r12) (H80_16 p0 p1 r10 p2 p3) [] [(10, 2)])) (fin2 := (qs (S80_5 p0 p1 p2 p3 r8 r12) (H80_16 p0 p1 r10 p2 p3) [] [(10, 2)])) (a1 := (S80_2 p0 p1 p2 p3 r8 r12)) (h1 := (H80_15 p0 p1 r10 p2 p3 r12)) [⟨53, [ag [iv 0, iv 0], iv (-1), ag [iv p2, iv p3]], (H80_17 p0 p1 r10 p2 p3), ag [iv r12.1, iv r12.2], []⟩] hT mixed (by kernel_rfl) rfl 11 (by kernel_rfl) [(10, 2)] ?_ rfl (.inr ⟨?_, (by kernel_rfl)⟩) ?_ ?_
    · exact QI.run (s1 := (qs (S80_11 p0 p1 p2 p3 r8) (H80_17 p0 p1 r10 p2 p3) [] [])) 8 (by kernel_rfl) (by kernel_rfl) (QI.op (q := { val := ag [iv r12.1, iv r12.2], new := [] }) (s1 := (qs (S80_8 p0 p1 p2 p3 r8 r12) (H80_17 p0 p1 r10 p2 p3) [] [])) (by decide) (qOf_call (g := 53) (args := [ag [iv 0, iv 0], iv (-1), ag [iv p2, iv p3]]) (by kernel_rfl) lookC_hit) (by kernel_rfl) (QI.run (s1 := (qs (S80_5 p0 p1 p2 p3 r8 r12) (H80_16 p0 p1 r10 p2 p3) [] [(10, 2)])) 2 (by kernel_rfl) (by kernel_rfl) (QI.done (by kernel_rfl))))
    · exact QI.run (s1 := (qs (S80_11 p0 p1 p2 p3 r8) (H80_17 p0 p1 r10 p2 p3) [] [])) 8 (by kernel_rfl) (by kernel_rfl) (QI.op (q := { val := ag [iv r12.1, iv r12.2], new := [] }) (s1 := (qs (S80_8 p0 p1 p2 p3 r8 r12) (H80_17 p0 p1 r10 p2 p3) [] [])) (by decide) (qOf_call (g := 53) (args := [ag [iv 0, iv 0], iv (-1), ag [iv p2, iv p3]]) (by kernel_rfl) lookC_hit) (by kernel_rfl) (QI.run (s1 := (qs (S80_5 p0 p1 p2 p3 r8 r12) (H80_16 p0 p1 r10 p2 p3) [] [(10, 2)])) 2 (by kernel_rfl) (by kernel_rfl) (QI.done (by kernel_rfl))))
    · exact SI.run (a2 := (S80_2 p0 p1 p2 p3 r8 r12)) (h2 := (H80_15 p0 p1 r10 p2 p3 r12)) 2 (by kernel_rfl) (SI.done (by kernel_rfl))
    refine NX.bk (NX.sq (TS.rg (TI.rn 2 [2, 4, 29, 30] [1, 2] (st 47 [(2, pt 1 0), (4, pt 2 0), (29, ag [iv p0, iv p1, iv p2, iv p3, iv r8.1, iv r8.2]), (30, iv 2)]) [.dead, cl 123 [iv 0, iv 0, iv 0, iv 0, iv 0, iv 0, iv 0, iv 0, iv 0, iv 0, iv 0, iv 0], cl 123 [iv p0, iv p1, iv r10.1, iv r10.2, iv p2, iv p3, iv r12.1, iv r12.2, iv 0, iv 0, iv 0, iv 0], .dead, .dead] (TI.dn ?_))))
    refine Rd.again Wk.refl (TL.round (TS.sq (TS.rg (TI.ra 1 [2, 4, 29, 30, 31] (st 47 [(2, pt 1 0), (4, pt 2 0), (29, ag [iv p0, iv p1, iv p2, iv p3, iv r8.1, iv r8.2]), (30, iv 2), (31, .bool true)]) (TI.dn (NX.sq (TS.sq (TS.cdT (.tmp 31) (TS.sk ?_)))))))))
    refine NX.sq (TS.sq (TS.bk 1 (TS.sq (TS.rg (TI.rn 5 [2, 4, 5, 6, 29, 30] [1, 2, 5] (st 47 [(2, pt 1 0), (4, pt 2 0), (5, iv 2), (6, pt 5 0), (29, ag [iv p0, iv p1, iv p2, iv p3, iv r8.1, iv r8.2]), (30, iv 2)]) (H80_13 p0 p1 r10 p2 p3 r12 r8) (TI.dn (NX.sq ?_)))))))
    have hX := of_do hF
    clear hF
    obtain ⟨r14, h15, hF⟩ := hX
    have hT : ∀ e ∈ ([⟨53, [ag [iv 0, iv 0], iv (-1), ag [iv r8.1, iv r8.2]], (H80_13 p0 p1 r10 p2 p3 r12 r8), ag [iv r14.1, iv r14.2], []⟩] : List Entry), PureSim Try.prog e.g e.args e.h e.v e.new := by
      intro e he
      simp only [List.mem_cons, List.not_mem_nil, or_false] at he
      rcases he with rfl
      · exact PureSim.ak (C53 _ _ _ _ _ _ h15)
    refine TS.drawE (id := 8) (b := true) (ops := c80.s2.s2.s2.s2.s1.s2.bd.bd.s2.s2.s1.bd.s2.rops) (fin := (qs (S80_3 p0 p1 p2 p3 r8 r14) (H80_12 p0 p1 r10 p2 p3 r12 r8) [] [(10, 2)])) (fin2 := (qs (S80_3 p0 p1 p2 p3 r8 r14) (H80_12 p0 p1 r10 p2 p3 r12 r8) [] [(10, 2)])) (a1 := (S80_0 p0 p1 p2 p3 r8 r14)) (h1 := [.dead, cl 123 [iv 0, iv 0, iv 0, iv 0, iv 0, iv 0, iv 0, iv 0, iv 0, iv 0, iv 0, iv 0], cl 123 [iv p0, iv p1, iv r10.1, iv r10.2, iv p2, iv p3, iv r12.1, iv r12.2, iv r8.1, iv r8.2, iv r14.1, iv r14.2], .dead, .dead, cl 23 [iv r8.1, iv r8.2]]) [⟨53, [ag [iv 0, iv 0], iv (-1), ag [iv r8.1, iv r8.2]], (H80_13 p0 p1 r10 p2 p3 r12 r8), ag [iv r14.1, iv r14.2], []⟩] hT mixed (by kernel_rfl) rfl 11 (by kernel_rfl) [(10, 2)] ?_ rfl (.inr ⟨?_, (by kernel_rfl)⟩) ?_ ?_
    · exact QI.run (s1 := (qs (S80_9 p0 p1 p2 p3 r8) (H80_13 p0 p1 r10 p2 p3 r12 r8) [] [])) 8 (by kernel_rfl) (by kernel_rfl) (QI.op (q := { val := ag [iv r14.1, iv r14.2], new := [] }) (s1 := (qs (S80_6 p0 p1 p2 p3 r8 r14) (H80_13 p0 p1 r10 p2 p3 r12 r8) [] [])) (by decide) (qOf_call (g := 53) (args := [ag [iv 0, iv 0], iv (-1), ag [iv r8.1, iv r8.2]]) (by kernel_rfl) lookC_hit) (by kernel_rfl) (QI.run (s1 := (qs (S80_3 p0 p1 p2 p3 r8 r14) (H80_12 p0 p1 r10 p2 p3 r12 r8) [] [(10, 2)])) 2 (by kernel_rfl) (by kernel_rfl) (QI.done (by kernel_rfl))))
    · exact QI.run (s1 := (qs (S80_9 p0 p1 p2 p3 r8) (H80_13 p0 p1 r10 p2 p3 r12 r8) [] [])) 8 (by kernel_rfl) (by kernel_rfl) (QI.op (q := { val := ag [iv r14.1, iv r14.2], new := [] }) (s1 := (qs (S80_6 p0 p1 p2 p3 r8 r14) (H80_13 p0 p1 r10 p2 p3 r12 r8) [] [])) (by decide) (qOf_call (g := 53) (args := [ag [iv 0, iv 0], iv (-1), ag [iv r8.1, iv r8.2]]) (by kernel_rfl) lookC_hit) (by kernel_rfl) (QI.run (s1 := (qs (S80_3 p0 p1 p2 p3 r8 r14) (H80_12 p0 p1 r10 p2 p3 r12 r8) [] [(10, 2)])) 2 (by kernel_rfl) (by kernel_rfl) (QI.done (by kernel_rfl))))
    · exact SI.run (a2 := (S80_0 p0 p1 p2 p3 r8 r14)) (h2 := [.dead, cl 123 [iv 0, iv 0, iv 0, iv 0, iv 0, iv 0, iv 0, iv 0, iv 0, iv 0, iv 0, iv 0], cl 123 [iv p0, iv p1, iv r10.1, iv r10.2, iv p2, iv p3, iv r12.1, iv r12.2, iv r8.1, iv r8.2, iv r14.1, iv r14.2], .dead, .dead, cl 23 [iv r8.1, iv r8.2]]) 2 (by kernel_rfl) (SI.done (by kernel_rfl))
    refine NX.bk (NX.sq (TS.rg (TI.rn 2 [2, 4, 29, 30] [1, 2] (st 47 [(2, pt 1 0), (4, pt 2 0), (29, ag [iv p0, iv p1, iv p2, iv p3, iv r8.1, iv r8.2]), (30, iv 3)]) [.dead, cl 123 [iv 0, iv 0, iv 0, iv 0, iv 0, iv 0, iv 0, iv 0, iv 0, iv 0, iv 0, iv 0], cl 123 [iv p0, iv p1, iv r10.1, iv r10.2, iv p2, iv p3, iv r12.1, iv r12.2, iv r8.1, iv r8.2, iv r14.1, iv r14.2], .dead, .dead, .dead] (TI.dn ?_))))
    refine Rd.again Wk.refl (TL.round (TS.sq (TS.rg (TI.ra 1 [2, 4, 29, 30, 31] (st 47 [(2, pt 1 0), (4, pt 2 0), (29, ag [iv p0, iv p1, iv p2, iv p3, iv r8.1, iv r8.2]), (30, iv 3), (31, .bool false)]) (TI.dn (NX.sq (TS.sq (TS.cdF (.tmp 31) (TS.ex 0 ?_)))))))))
    refine NX.sqX ?_
    refine Rd.out (by simp) (NX.bkX (NX.sq (TS.sq (TS.rg (TI.rn 2 [2] [1] (st 47 [(2, pt 1 0)]) [.dead, cl 123 [iv p0, iv p1, iv r10.1, iv r10.2, iv p2, iv p3, iv r12.1, iv r12.2, iv r8.1, iv r8.2, iv r14.1, iv r14.2], .dead, .dead, .dead, .dead] (TI.dn (NX.sq (TS.rt ?_))))))))
    have hF := Option.some.inj hF
    subst hF
    exact ⟨.inr rfl, rfl, ag [iv p0, iv p1, iv r10.1, iv r10.2, iv p2, iv p3, iv r12.1, iv r12.2, iv r8.1, iv r8.2, iv r14.1, iv r14.2], by kernel_rfl, WkV.flat0 (by kernel_rfl) (Nat.le_of_ble_eq_true rfl)⟩
  clear hF
  have hF := hm7
  clear hm7
  refine TS.start ?_
  refine TS.cd (.tmp 14) (decide (r1 > 0)) (fun hc16 => ?_) (fun hc16 => ?_)
  · replace hF := of_pos hF hc16
    refine TS.rg (TI.ra 1 [1, 2, 3] (st 47 [(1, pt 0 0), (2, pt 1 0), (3, iv (-1))]) (TI.dn ?_))
    have hF := Option.some.inj hF
    subst hF
    exact TS.weak (Wk.anew (base := 0) (L := 0) (f := [0, 1]) (by decide) (by decide) (Nat.le_of_ble_eq_true rfl) rfl (.cons (At.blk (by kernel_rfl) (RnB.lit (.cons (.flat (by kernel_rfl)) (.cons (.flat (by kernel_rfl)) (.cons (.flat (by kernel_rfl)) (.cons (.flat (by kernel_rfl)) (.cons (.flat (by kernel_rfl)) (.cons (.flat (by kernel_rfl)) (.cons (.flat (by kernel_rfl)) (.cons (.flat (by kernel_rfl)) .nil)))))))))) (.cons (At.blk (by kernel_rfl) (RnB.lit (.cons (.flat (by kernel_rfl)) (.cons (.flat (by kernel_rfl)) (.cons (.flat (by kernel_rfl)) (.cons (.flat (by kernel_rfl)) (.cons (.flat (by kernel_rfl)) (.cons (.flat (by kernel_rfl)) (.cons (.flat (by kernel_rfl)) (.cons (.flat (by kernel_rfl)) (.cons (.flat (by kernel_rfl)) (.cons (.flat (by kernel_rfl)) (.cons (.flat (by kernel_rfl)) (.cons (.flat (by kernel_rfl)) .nil)))))))))))))) (.nil _))) (LRn.stx [1, 2, 3] [pt 0 0, pt 1 0, iv (-1)] [pt 0 0, pt 1 0, iv (-1)] (.cons (Rn.ptr _ _ _ (Nat.le_of_ble_eq_true rfl) rfl) (.cons (Rn.ptr _ _ _ (Nat.le_of_ble_eq_true rfl) rfl) (.cons (.flat (by kernel_rfl)) .nil))) (by kernel_rfl) (by kernel_rfl) rfl) rfl rfl) hK
  · replace hF := of_neg hF hc16
    refine TS.sk ?_
    have hF := Option.some.inj hF
    subst hF
    exact TS.weak (Wk.anew (base := 0) (L := 0) (f := [0, 1]) (by decide) (by decide) (Nat.le_of_ble_eq_true rfl) rfl (.cons (At.blk (by kernel_rfl) (RnB.lit (.cons (.flat (by kernel_rfl)) (.cons (.flat (by kernel_rfl)) (.cons (.flat (by kernel_rfl)) (.cons (.flat (by kernel_rfl)) (.cons (.flat (by kernel_rfl)) (.cons (.flat (by kernel_rfl)) (.cons (.flat (by kernel_rfl)) (.cons (.flat (by kernel_rfl)) .nil)))))))))) (.cons (At.blk (by kernel_rfl) (RnB.lit (.cons (.flat (by kernel_rfl)) (.cons (.flat (by kernel_rfl)) (.cons (.flat (by kernel_rfl)) (.cons (.flat (by kernel_rfl)) (.cons (.flat (by kernel_rfl)) (.cons (.flat (by kernel_rfl)) (.cons (.flat (by kernel_rfl)) (.cons (.flat (by kernel_rfl)) (.cons (.flat (by kernel_rfl)) (.cons (.flat (by kernel_rfl)) (.cons (.flat (by kernel_rfl)) (.cons (.flat (by kernel_rfl)) .nil)))))))))))))) (.nil _))) (LRn.stx [1, 2, 3] [pt 0 0, pt 1 0, iv 1] [pt 0 0, pt 1 0, iv 1] (.cons (Rn.ptr _ _ _ (Nat.le_of_ble_eq_true rfl) rfl) (.cons (Rn.ptr _ _ _ (Nat.le_of_ble_eq_true rfl) rfl) (.cons (.flat (by kernel_rfl)) .nil))) (by kernel_rfl) (by kernel_rfl) rfl) rfl rfl) hK
theorem C80 (p0 : Int) (p1 : Int) (p2 : Int) (p3 : Int) (p4 : Int) (p5 : Int) (p6 : Int) (p7 : Int) (r : ((Int × Int) × (Int × Int) × (Int × Int) × (Int × Int) × (Int × Int) × (Int × Int))) (hF : F80 p0 p1 p2 p3 p4 p5 p6 p7 = some r) : PureSim Try.prog 80 [ag [iv p0, iv p1, iv p2, iv p3, iv p4, iv p5, iv p6, iv p7]] [] (V80 0 r) (N80 0 r) :=
  PureSim.of_Fin Try.func80 (c := c80) (by kernel_rfl) (by kernel_rfl) 0 rfl [0] [] (by kernel_rfl) (B80 p0 p1 p2 p3 p4 p5 p6 p7 r hF)

-- (agonic/magnet.bundles).all$1
noncomputable def c81 : Code := Try.f81.code
def F81 (p0 : Int) (p1 : Int) (p2 : Int) (p3 : Int) : Option Bool :=
  some ((p0 == p2) && ((p1 == p3) && true))
def V81 (b : Nat) (r : Bool) : Value := .bool r
def N81 (b : Nat) (r : Bool) : List Blk := []
theorem B81 (p0 : Int) (p1 : Int) (p2 : Int) (p3 : Int) (r : Bool) (hF : F81 p0 p1 p2 p3 = some r) : TS Try.prog 1 1 c81 (st 7 [(0, ag [iv p0, iv p1]), (1, pt 0 0)]) [cl 27 [iv p2, iv p3]] (NX Try.prog 1 1 [] (FinP Try.prog Try.f81 1 (V81 1 r) (N81 1 r))) := by
  unfold F81 at hF
  refine TS.sq (TS.rg (TI.rn 2 [1, 2] [0, 1] (st 7 [(1, pt 0 0), (2, pt 1 0)]) [cl 27 [iv p2, iv p3], cl 27 [iv p0, iv p1]] (TI.dn (NX.sq (TS.sq (TS.rg (TI.rn 4 [3] [0] (st 7 [(3, .bool ((p0 == p2) && ((p1 == p3) && true)))]) [cl 27 [iv p2, iv p3], .dead] (TI.dn ?_))))))))
  refine NX.sq (TS.rt ?_)
  have hF := Option.some.inj hF
  subst hF
  exact ⟨.inr rfl, rfl, .bool ((p0 == p2) && ((p1 == p3) && true)), by kernel_rfl, WkV.flat0 (by kernel_rfl) (Nat.le_of_ble_eq_true rfl)⟩
theorem C81 (p0 : Int) (p1 : Int) (p2 : Int) (p3 : Int) (r : Bool) (hF : F81 p0 p1 p2 p3 = some r) : PureSim Try.prog 81 [ag [iv p0, iv p1], pt 0 0] [cl 27 [iv p2, iv p3]] (V81 1 r) (N81 1 r) :=
  PureSim.of_Fin Try.func81 (c := c81) (by kernel_rfl) (by kernel_rfl) 1 rfl [0, 1] [0] (by kernel_rfl) (B81 p0 p1 p2 p3 r hF)

-- slices.IndexFunc[[]agonic/magnet.Choice,agonic/magnet.Choice]
noncomputable def c84k1 : Code := Try.f84.code
def S84k1_0 (p0 : (List (Int × Int))) (v7 : Int) : CAct := (st 19 [(0, .slice (some ⟨0, 0, none⟩) (List.length p0) ANY), (1, .func (.func 81) ⟨[]⟩ ⟨[pt 1 0]⟩), (7, iv (List.length p0 : Int)), (8, iv (w64 (v7 + 1)))])
def S84k1_1 (p0 : (List (Int × Int))) (v7 : Int) : CAct := (st 19 [(0, .slice (some ⟨0, 0, none⟩) (List.length p0) ANY), (1, .func (.func 81) ⟨[]⟩ ⟨[pt 1 0]⟩), (7, iv (List.length p0 : Int)), (8, iv v7)])
def S84k1_2 (p0 : (List (Int × Int))) : CAct := (st 19 [(0, .slice (some ⟨0, 0, none⟩) (List.length p0) ANY), (1, .func (.func 81) ⟨[]⟩ ⟨[pt 1 0]⟩), (7, iv (List.length p0 : Int)), (8, iv 0)])
def H84k1_3 (p0 : (List (Int × Int))) (p1 : Int) (p2 : Int) : List Blk := [accB 27 (List.length p0) (List.flatMap e27 p0), cl 27 [iv p1, iv p2]]
def F84k1l0 (p0 : (List (Int × Int))) (p1 : Int) (p2 : Int) (v7 : Int) : Option (Int ⊕ Unit) :=
    if decide (v7 < (List.length p0 : Int)) then
      if (0 : Int) ≤ v7 ∧ v7 < (List.length p0 : Int) then
        some (List.getD p0 (Int.toNat v7) (0, 0)) >>= fun o17 =>
        F81 o17.1 o17.2 p1 p2 >>= fun r19 =>
        if r19 then
          some (.inl v7)
        else
          F84k1l0 p0 p1 p2 (w64 (v7 + 1))
      else none
    else
      some (.inr ())
  partial_fixpoint
def F84k1 (p0 : (List (Int × Int))) (p1 : Int) (p2 : Int) : Option Int :=
  F84k1l0 p0 p1 p2 0 >>= fun r21 =>
  match r21 with
  | .inl o23 =>
    some o23
  | .inr o24 =>
    some (-1)
def V84k1 (b : Nat) (r : Int) : Value := iv r
def N84k1 (b : Nat) (r : Int) : List Blk := []
def P84k1l0 (p0 : (List (Int × Int))) (p1 : Int) (p2 : Int) (r : (Int ⊕ Unit)) : Post := fun e a h => (match r with | .inl q0 => e = .ret ∧ Wk Try.prog 2 2 a h (st 19 [(4, iv q0)]) (H84k1_3 p0 p1 p2) | .inr q0 => e = .exit 0 ∧ Wk Try.prog 2 2 a h (st 19 []) (H84k1_3 p0 p1 p2))
theorem L84k1l0 (p0 : (List (Int × Int))) (p1 : Int) (p2 : Int) (v7 : Int) (r : (Int ⊕ Unit)) (hF : F84k1l0 p0 p1 p2 v7 = some r) : TL Try.prog 2 2 c84k1.s2.s1.s2.bd.bd (S84k1_1 p0 v7) (H84k1_3 p0 p1 p2) (P84k1l0 p0 p1 p2 r) := by
  refine F84k1l0.partial_correctness p0 p1 p2 (motive := fun v7 r => TL Try.prog 2 2 c84k1.s2.s1.s2.bd.bd (S84k1_1 p0 v7) (H84k1_3 p0 p1 p2) (P84k1l0 p0 p1 p2 r)) ?_ v7 r hF
  clear hF r v7
  intro again ih v7 r hF
  refine TL.round (TS.sq (TS.rg (TI.ra 1 [0, 1, 7, 8, 9] (st 19 [(0, .slice (some ⟨0, 0, none⟩) (List.length p0) ANY), (1, .func (.func 81) ⟨[]⟩ ⟨[pt 1 0]⟩), (7, iv (List.length p0 : Int)), (8, iv v7), (9, .bool (decide (v7 < (List.length p0 : Int))))]) (TI.dn (NX.sq (TS.sq ?_))))))
  refine TS.cd (.tmp 9) (decide (v7 < (List.length p0 : Int))) (fun hc15 => ?_) (fun hc15 => ?_)
  · replace hF := of_pos hF hc15
    refine TS.sk (NX.sq (TS.sq (TS.bk 1 (TS.sq (TS.rg (TI.ra 2 [0, 1, 5, 7, 8] (st 19 [(0, .slice (some ⟨0, 0, none⟩) (List.length p0) ANY), (1, .func (.func 81) ⟨[]⟩ ⟨[pt 1 0]⟩), (5, iv v7), (7, iv (List.length p0 : Int)), (8, iv v7)]) (TI.dn (NX.sq ?_))))))))
    refine TS.sq ?_
    have hX := of_guard hF
    clear hF
    obtain ⟨hg16, hF⟩ := hX
    have hX := of_do hF
    clear hF
    obtain ⟨o17, h18, hF⟩ := hX
    replace h18 := Option.some.inj h18
    have hX := of_do hF
    clear hF
    obtain ⟨r19, h20, hF⟩ := hX
    refine TS.rg (TI.ra 3 [0, 1, 5, 7, 8, 11, 12, 13] (st 19 [(0, .slice (some ⟨0, 0, none⟩) (List.length p0) ANY), (1, .func (.func 81) ⟨[]⟩ ⟨[pt 1 0]⟩), (5, iv v7), (7, iv (List.length p0 : Int)), (8, iv v7), (11, .func (.func 81) ⟨[]⟩ ⟨[pt 1 0]⟩), (12, .slice (some ⟨0, 0, none⟩) (List.length p0) ANY), (13, iv v7)]) (TI.o { val := .pointer (some ⟨0, 0 + (Int.toNat v7) * 2, none⟩) } (q_ixS 0 0 ((Int.toNat v7) * 2) (by kernel_rfl) hg16) [0, 1, 5, 7, 8, 11, 14] [0, 1] (st 19 [(0, .slice (some ⟨0, 0, none⟩) (List.length p0) ANY), (1, .func (.func 81) ⟨[]⟩ ⟨[pt 1 0]⟩), (5, iv v7), (7, iv (List.length p0 : Int)), (8, iv v7), (11, .func (.func 81) ⟨[]⟩ ⟨[pt 1 0]⟩), (14, .pointer (some ⟨0, 0 + (Int.toNat v7) * 2, none⟩))]) (H84k1_3 p0 p1 p2) ?_))
    refine TI.o { val := ag [iv o17.1, iv o17.2] } (q_eqv (q_ldA (P := Try.prog) (hp := (H84k1_3 p0 p1 p2)) (t := 27) (b := 0) (off := 0 + (Int.toNat v7) * 2) (l := p0) (enc := e27) (s := 2) (T := 27) (i := Int.toNat v7) (by kernel_rfl) (accB_at (h := (H84k1_3 p0 p1 p2)) (n := List.length p0) (i := Int.toNat v7) (by kernel_rfl) (by first | omega | (simp only [List.length_set, List.length_replicate, List.length_cons, List.length_nil, List.length_append]; omega))) (by kernel_rfl) (by kernel_rfl) (fun _ => rfl) (by omega) (by first | omega | (simp only [List.length_set, List.length_replicate, List.length_cons, List.length_nil, List.length_append]; omega)) (0, 0)) (congrArg (fun (z : (Int × Int)) => ({ val := ag [iv z.1, iv z.2] } : QRes)) h18)) [0, 1, 5, 7, 8, 11, 15] [0, 1] (st 19 [(0, .slice (some ⟨0, 0, none⟩) (List.length p0) ANY), (1, .func (.func 81) ⟨[]⟩ ⟨[pt 1 0]⟩), (5, iv v7), (7, iv (List.length p0 : Int)), (8, iv v7), (11, .func (.func 81) ⟨[]⟩ ⟨[pt 1 0]⟩), (15, ag [iv o17.1, iv o17.2])]) (H84k1_3 p0 p1 p2) (TI.callM (g := 81) (args := [ag [iv o17.1, iv o17.2], pt 1 0]) (v := .bool r19) (new := []) (by kernel_rfl) (PureSim.ren (hc := [cl 27 [iv p1, iv p2]]) (fun i => List.getD [(1, 0)] i (0, 0)) (C81 _ _ _ _ _ h20) (.cons (At.blk (by kernel_rfl) (RnB.lit (.cons (.flat (by kernel_rfl)) (.cons (.flat (by kernel_rfl)) .nil)))) (.nil _)) (.cons (.flat (by kernel_rfl)) (.cons (Rn.ptr _ _ _ (Nat.le_of_ble_eq_true rfl) rfl) .nil)) (.flat (by kernel_rfl)) newflat_nil) [0, 1, 5, 7, 8, 16] [0, 1] (a2 := (st 19 [(0, .slice (some ⟨0, 0, none⟩) (List.length p0) ANY), (1, .func (.func 81) ⟨[]⟩ ⟨[pt 1 0]⟩), (5, iv v7), (7, iv (List.length p0 : Int)), (8, iv v7), (16, .bool r19)])) (h2 := (H84k1_3 p0 p1 p2)) (by kernel_rfl) (TI.dn (NX.sq ?_)))
    cases r19 with
    | true =>
      replace hF := of_pos hF rfl
      refine TS.cdT (.tmp 16) (TS.sq (TS.rg (TI.ra 2 [4] (st 19 [(4, iv v7)]) (TI.dn (NX.sq (TS.rt (NX.bkR (NX.sqR ?_))))))))
      have hF := Option.some.inj hF
      subst hF
      exact Rd.out (e := .ret) (by intro h; cases h) (And.intro rfl (Wk.anew (base := 2) (L := 2) (f := []) (by decide) (by decide) (Nat.le_of_ble_eq_true rfl) rfl (.cons (At.acc (by kernel_rfl) rfl (fun _ => rfl)) (.cons (At.blk (by kernel_rfl) (RnB.lit (.cons (.flat (by kernel_rfl)) (.cons (.flat (by kernel_rfl)) .nil)))) (.nil _))) (LRn.stx [4] [iv v7] [iv v7] (.cons (.flat (by kernel_rfl)) .nil) (by kernel_rfl) (by kernel_rfl) rfl) rfl rfl))
    | false =>
      replace hF := of_neg hF rfl
      refine TS.cdF (.tmp 16) (TS.sk (NX.bk (NX.sq (TS.rg (TI.ra 2 [0, 1, 7, 8] (S84k1_0 p0 v7) (TI.dn ?_))))))
      exact Rd.again (a2 := (S84k1_0 p0 v7)) (h2 := (H84k1_3 p0 p1 p2)) (Wk.anew (base := 2) (L := 2) (f := []) (by decide) (by decide) (Nat.le_of_ble_eq_true rfl) rfl (.cons (At.acc (by kernel_rfl) rfl (fun _ => rfl)) (.cons (At.blk (by kernel_rfl) (RnB.lit (.cons (.flat (by kernel_rfl)) (.cons (.flat (by kernel_rfl)) .nil)))) (.nil _))) (LRn.stx [0, 1, 7, 8] [.slice (some ⟨0, 0, none⟩) (List.length p0) ANY, .func (.func 81) ⟨[]⟩ ⟨[pt 1 0]⟩, iv (List.length p0 : Int), iv (w64 (v7 + 1))] [.slice (some ⟨0, 0, none⟩) (List.length p0) ANY, .func (.func 81) ⟨[]⟩ ⟨[pt 1 0]⟩, iv (List.length p0 : Int), iv (w64 (v7 + 1))] (.cons (Rn.slice0 _ _ _ _ (Nat.le_of_ble_eq_true rfl) rfl) (.cons (Rn.func' .nil (.cons (Rn.ptr _ _ _ (Nat.le_of_ble_eq_true rfl) rfl) .nil)) (.cons (.flat (by kernel_rfl)) (.cons (.flat (by kernel_rfl)) .nil)))) (by kernel_rfl) (by kernel_rfl) rfl) rfl rfl) (ih (w64 (v7 + 1)) _ hF)
  · replace hF := of_neg hF hc15
    refine TS.ex 0 (NX.sqX ?_)
    have hF := Option.some.inj hF
    subst hF
    exact Rd.out (e := .exit 0) (by intro h; cases h) (And.intro rfl (Wk.anew (base := 2) (L := 2) (f := []) (by decide) (by decide) (Nat.le_of_ble_eq_true rfl) rfl (.cons (At.acc (by kernel_rfl) rfl (fun _ => rfl)) (.cons (At.blk (by kernel_rfl) (RnB.lit (.cons (.flat (by kernel_rfl)) (.cons (.flat (by kernel_rfl)) .nil)))) (.nil _))) (LRn.stx [] [] [] .nil (by kernel_rfl) (by kernel_rfl) rfl) rfl rfl))
theorem B84k1 (p0 : (List (Int × Int))) (p1 : Int) (p2 : Int) (r : Int) (hF : F84k1 p0 p1 p2 = some r) : TS Try.prog 2 2 c84k1 (st 19 [(0, .slice (some ⟨0, 0, none⟩) (List.length p0) ANY), (1, .func (.func 81) ⟨[]⟩ ⟨[pt 1 0]⟩)]) (H84k1_3 p0 p1 p2) (NX Try.prog 2 2 [] (FinP Try.prog Try.f84 2 (V84k1 2 r) (N84k1 2 r))) := by
  unfold F84k1 at hF
  refine TS.sq (TS.rg (TI.ra 1 [0, 1] (st 19 [(0, .slice (some ⟨0, 0, none⟩) (List.length p0) ANY), (1, .func (.func 81) ⟨[]⟩ ⟨[pt 1 0]⟩)]) (TI.dn (NX.sq (TS.sq (TS.sq (TS.rg (TI.ra 3 [0, 1, 7, 8] (S84k1_2 p0) ?_))))))))
  refine TI.dn (NX.sq (TS.bk 0 ?_))
  have hX := of_do hF
  clear hF
  obtain ⟨r21, h22, hF⟩ := hX
  refine TS.lp (TL.weak (a2 := (S84k1_2 p0)) (h2 := (H84k1_3 p0 p1 p2)) (Wk.anew (base := 2) (L := 2) (f := []) (by decide) (by decide) (Nat.le_of_ble_eq_true rfl) rfl (.cons (At.acc (by kernel_rfl) rfl (fun _ => rfl)) (.cons (At.blk (by kernel_rfl) (RnB.lit (.cons (.flat (by kernel_rfl)) (.cons (.flat (by kernel_rfl)) .nil)))) (.nil _))) (LRn.stx [0, 1, 7, 8] [.slice (some ⟨0, 0, none⟩) (List.length p0) ANY, .func (.func 81) ⟨[]⟩ ⟨[pt 1 0]⟩, iv (List.length p0 : Int), iv 0] [.slice (some ⟨0, 0, none⟩) (List.length p0) ANY, .func (.func 81) ⟨[]⟩ ⟨[pt 1 0]⟩, iv (List.length p0 : Int), iv 0] (.cons (Rn.slice0 _ _ _ _ (Nat.le_of_ble_eq_true rfl) rfl) (.cons (Rn.func' .nil (.cons (Rn.ptr _ _ _ (Nat.le_of_ble_eq_true rfl) rfl) .nil)) (.cons (.flat (by kernel_rfl)) (.cons (.flat (by kernel_rfl)) .nil)))) (by kernel_rfl) (by kernel_rfl) rfl) rfl rfl) (TL.post (L84k1l0 p0 p1 p2 0 r21 h22) ?_))
  rintro e a1 h1 hp
  rcases r21 with o23 | o24
  · skip
    obtain ⟨rfl, hw⟩ := hp
    refine ⟨(st 19 [(4, iv o23)]), (H84k1_3 p0 p1 p2), (NX.bkR (NX.sqR ?_)), hw⟩
    have hF := Option.some.inj hF
    subst hF
    exact ⟨.inr rfl, rfl, iv o23, by kernel_rfl, WkV.flat0 (by kernel_rfl) (Nat.le_of_ble_eq_true rfl)⟩
  · skip
    obtain ⟨rfl, hw⟩ := hp
    refine ⟨(st 19 []), (H84k1_3 p0 p1 p2), (NX.bkX (NX.sq (TS.sq (TS.rg (TI.ra 1 [4] (st 19 [(4, iv (-1))]) (TI.dn (NX.sq (TS.rt ?_)))))))), hw⟩
    have hF := Option.some.inj hF
    subst hF
    exact ⟨.inr rfl, rfl, iv (-1), by kernel_rfl, WkV.flat0 (by kernel_rfl) (Nat.le_of_ble_eq_true rfl)⟩
theorem C84k1 (p0 : (List (Int × Int))) (p1 : Int) (p2 : Int) (r : Int) (hF : F84k1 p0 p1 p2 = some r) : PureSim Try.prog 84 [.slice (some ⟨0, 0, none⟩) (List.length p0) ANY, .func (.func 81) ⟨[]⟩ ⟨[pt 1 0]⟩] (H84k1_3 p0 p1 p2) (V84k1 2 r) (N84k1 2 r) :=
  PureSim.of_Fin Try.func84 (c := c84k1) (by kernel_rfl) (by kernel_rfl) 2 rfl [0, 1] [0, 1] (by kernel_rfl) (B84k1 p0 p1 p2 r hF)

-- slices.ContainsFunc[[]agonic/magnet.Choice,agonic/magnet.Choice]
noncomputable def c75k1 : Code := Try.f75.code
def F75k1 (p0 : (List (Int × Int))) (p1 : Int) (p2 : Int) : Option Bool :=
  F84k1 p0 p1 p2 >>= fun r1 =>
  some (decide (r1 ≥ 0))
def V75k1 (b : Nat) (r : Bool) : Value := .bool r
def N75k1 (b : Nat) (r : Bool) : List Blk := []
theorem B75k1 (p0 : (List (Int × Int))) (p1 : Int) (p2 : Int) (r : Bool) (hF : F75k1 p0 p1 p2 = some r) : TS Try.prog 2 2 c75k1 (st 9 [(0, .slice (some ⟨0, 0, none⟩) (List.length p0) ANY), (1, .func (.func 81) ⟨[]⟩ ⟨[pt 1 0]⟩)]) [accB 27 (List.length p0) (List.flatMap e27 p0), cl 27 [iv p1, iv p2]] (NX Try.prog 2 2 [] (FinP Try.prog Try.f75 2 (V75k1 2 r) (N75k1 2 r))) := by
  unfold F75k1 at hF
  refine TS.sq (TS.rg (TI.ra 1 [0, 1] (st 9 [(0, .slice (some ⟨0, 0, none⟩) (List.length p0) ANY), (1, .func (.func 81) ⟨[]⟩ ⟨[pt 1 0]⟩)]) (TI.dn (NX.sq (TS.sq ?_)))))
  have hX := of_do hF
  clear hF
  obtain ⟨r1, h2, hF⟩ := hX
  refine TS.rg (TI.ra 2 [5, 6] (st 9 [(5, .slice (some ⟨0, 0, none⟩) (List.length p0) ANY), (6, .func (.func 81) ⟨[]⟩ ⟨[pt 1 0]⟩)]) (TI.cp 84 [.slice (some ⟨0, 0, none⟩) (List.length p0) ANY, .func (.func 81) ⟨[]⟩ ⟨[pt 1 0]⟩] (iv r1) [] (PureSim.ren (hc := [accB 27 (List.length p0) (List.flatMap e27 p0), cl 27 [iv p1, iv p2]]) (fun i => List.getD [(0, 0), (1, 0)] i (0, 0)) (C84k1 _ _ _ _ h2) (.cons (At.acc (by kernel_rfl) rfl (fun _ => rfl)) (.cons (At.blk (by kernel_rfl) (RnB.lit (.cons (.flat (by kernel_rfl)) (.cons (.flat (by kernel_rfl)) .nil)))) (.nil _))) (.cons (Rn.any _ _ _ _ _ _ (Nat.le_of_ble_eq_true rfl) rfl rfl (by decide)) (.cons (Rn.func' .nil (.cons (Rn.ptr _ _ _ (Nat.le_of_ble_eq_true rfl) rfl) .nil)) .nil)) (.flat (by kernel_rfl)) newflat_nil) (TI.ra 2 [4] (st 9 [(4, .bool (decide (r1 ≥ 0)))]) (TI.dn (NX.sq (TS.rt ?_))))))
  have hF := Option.some.inj hF
  subst hF
  exact ⟨.inr rfl, rfl, .bool (decide (r1 ≥ 0)), by kernel_rfl, WkV.flat0 (by kernel_rfl) (Nat.le_of_ble_eq_true rfl)⟩
theorem C75k1 (p0 : (List (Int × Int))) (p1 : Int) (p2 : Int) (r : Bool) (hF : F75k1 p0 p1 p2 = some r) : PureSim Try.prog 75 [.slice (some ⟨0, 0, none⟩) (List.length p0) ANY, .func (.func 81) ⟨[]⟩ ⟨[pt 1 0]⟩] [accB 27 (List.length p0) (List.flatMap e27 p0), cl 27 [iv p1, iv p2]] (V75k1 2 r) (N75k1 2 r) :=
  PureSim.of_Fin Try.func75 (c := c75k1) (by kernel_rfl) (by kernel_rfl) 2 rfl [0, 1] [0, 1] (by kernel_rfl) (B75k1 p0 p1 p2 r hF)

-- (agonic/magnet.bundles).all
noncomputable def c66 : Code := Try.f66.code
def H66_0 (p0 : Int) (p1 : Int) (p2 : Int) (p3 : Int) (p4 : Int) (p5 : Int) (p6 : Int) (p7 : Int) (p12 : Int) (p13 : Int) (v357 : (List (Int × Int))) (r408 : (Int × Int)) (r410 : ((Int × Int) × (Int × Int) × (Int × Int) × (Int × Int) × (Int × Int) × (Int × Int))) : List Blk := [cl 108 [iv p0, iv p1, iv p2, iv p3, iv p4, iv p5, iv p6, iv p7], cl 23 [iv p12, iv p13], accB 27 (List.length v357) (List.flatMap e27 v357), cl 23 [iv r408.1, iv r408.2], .dead, .dead, .dead, .dead, .dead, cl 23 [iv r410.2.2.2.2.2.1, iv r410.2.2.2.2.2.2]]
def H66_1 (p0 : Int) (p1 : Int) (p2 : Int) (p3 : Int) (p4 : Int) (p5 : Int) (p6 : Int) (p7 : Int) (p12 : Int) (p13 : Int) (v357 : (List (Int × Int))) (r408 : (Int × Int)) (r410 : ((Int × Int) × (Int × Int) × (Int × Int) × (Int × Int) × (Int × Int) × (Int × Int))) : List Blk := [cl 108 [iv p0, iv p1, iv p2, iv p3, iv p4, iv p5, iv p6, iv p7], cl 23 [iv p12, iv p13], accB 27 (List.length v357) (List.flatMap e27 v357), cl 23 [iv r408.1, iv r408.2], .dead, .dead, .dead, .dead, cl 23 [iv r410.2.2.2.2.1.1, iv r410.2.2.2.2.1.2]]
def H66_2 (p0 : Int) (p1 : Int) (p2 : Int) (p3 : Int) (p4 : Int) (p5 : Int) (p6 : Int) (p7 : Int) (p12 : Int) (p13 : Int) (v357 : (List (Int × Int))) (r408 : (Int × Int)) (r410 : ((Int × Int) × (Int × Int) × (Int × Int) × (Int × Int) × (Int × Int) × (Int × Int))) : List Blk := [cl 108 [iv p0, iv p1, iv p2, iv p3, iv p4, iv p5, iv p6, iv p7], cl 23 [iv p12, iv p13], accB 27 (List.length v357) (List.flatMap e27 v357), cl 23 [iv r408.1, iv r408.2], .dead, .dead, .dead, cl 23 [iv r410.2.2.2.1.1, iv r410.2.2.2.1.2]]
def H66_3 (p0 : Int) (p1 : Int) (p2 : Int) (p3 : Int) (p4 : Int) (p5 : Int) (p6 : Int) (p7 : Int) (p12 : Int) (p13 : Int) (v357 : (List (Int × Int))) (r408 : (Int × Int)) (r410 : ((Int × Int) × (Int × Int) × (Int × Int) × (Int × Int) × (Int × Int) × (Int × Int))) : List Blk := [cl 108 [iv p0, iv p1, iv p2, iv p3, iv p4, iv p5, iv p6, iv p7], cl 23 [iv p12, iv p13], accB 27 (List.length v357) (List.flatMap e27 v357), cl 23 [iv r408.1, iv r408.2], .dead, .dead, cl 23 [iv r410.2.2.1.1, iv r410.2.2.1.2]]
def H66_4 (p0 : Int) (p1 : Int) (p2 : Int) (p3 : Int) (p4 : Int) (p5 : Int) (p6 : Int) (p7 : Int) (p12 : Int) (p13 : Int) (v357 : (List (Int × Int))) (r408 : (Int × Int)) (r410 : ((Int × Int) × (Int × Int) × (Int × Int) × (Int × Int) × (Int × Int) × (Int × Int))) : List Blk := [cl 108 [iv p0, iv p1, iv p2, iv p3, iv p4, iv p5, iv p6, iv p7], cl 23 [iv p12, iv p13], accB 27 (List.length v357) (List.flatMap e27 v357), cl 23 [iv r408.1, iv r408.2], .dead, cl 23 [iv r410.2.1.1, iv r410.2.1.2]]
def H66_5 (p0 : Int) (p1 : Int) (p2 : Int) (p3 : Int) (p4 : Int) (p5 : Int) (p6 : Int) (p7 : Int) (p12 : Int) (p13 : Int) (v357 : (List (Int × Int))) (r408 : (Int × Int)) : List Blk := [cl 108 [iv p0, iv p1, iv p2, iv p3, iv p4, iv p5, iv p6, iv p7], cl 23 [iv p12, iv p13], accB 27 (List.length v357) (List.flatMap e27 v357), cl 23 [iv r408.1, iv r408.2], .dead, .dead, .dead, .dead, .dead, .dead]
def S66_6 (r5 : Int) (r9 : Int) (v357 : (List (Int × Int))) (v158 : Int) (v356 : Int) : CAct := (st 100 [(3, pt 0 0), (5, pt 1 0), (8, iv r5), (9, iv r9), (10, accV 2 (List.length v357)), (11, iv v158), (12, iv v356), (16, pt 10 0), (89, accV 2 (List.length v357)), (90, .func (.func 81) ⟨[]⟩ ⟨[pt 10 0]⟩)])
def H66_7 (p0 : Int) (p1 : Int) (p2 : Int) (p3 : Int) (p4 : Int) (p5 : Int) (p6 : Int) (p7 : Int) (p12 : Int) (p13 : Int) (v357 : (List (Int × Int))) (r408 : (Int × Int)) (r410 : ((Int × Int) × (Int × Int) × (Int × Int) × (Int × Int) × (Int × Int) × (Int × Int))) : List Blk := [cl 108 [iv p0, iv p1, iv p2, iv p3, iv p4, iv p5, iv p6, iv p7], cl 23 [iv p12, iv p13], accB 27 (List.length v357) (List.flatMap e27 v357), cl 23 [iv r408.1, iv r408.2], cl 23 [iv r410.1.1, iv r410.1.2]]
def H66_8 (p0 : Int) (p1 : Int) (p2 : Int) (p3 : Int) (p4 : Int) (p5 : Int) (p6 : Int) (p7 : Int) (p12 : Int) (p13 : Int) (v357 : (List (Int × Int))) : List Blk := [cl 108 [iv p0, iv p1, iv p2, iv p3, iv p4, iv p5, iv p6, iv p7], cl 23 [iv p12, iv p13], accB 27 (List.length v357) (List.flatMap e27 v357)]
def S66_9 (r5 : Int) (r9 : Int) (v357 : (List (Int × Int))) (v158 : Int) (v356 : Int) : CAct := (st 100 [(3, pt 0 0), (5, pt 1 0), (8, iv r5), (9, iv r9), (10, accV 2 (List.length v357)), (11, iv v158), (12, iv (w64 (v356 + 1)))])
def H66_10 (p0 : Int) (p1 : Int) (p2 : Int) (p3 : Int) (p4 : Int) (p5 : Int) (p6 : Int) (p7 : Int) (p12 : Int) (p13 : Int) : List Blk := [cl 108 [iv p0, iv p1, iv p2, iv p3, iv p4, iv p5, iv p6, iv p7], .dead, cl 23 [iv p12, iv p13]]
def F66l1 (p0 : Int) (p1 : Int) (p2 : Int) (p3 : Int) (p4 : Int) (p5 : Int) (p6 : Int) (p7 : Int) (p12 : Int) (p13 : Int) (r5 : Int) (r9 : Int) (v158 : Int) (v356 : Int) (v357 : (List (Int × Int))) : Option (List (Int × Int)) :=
    if decide (v356 ≤ (w64 (r9 + 2))) then
      F53 p12 p13 v158 p0 p1 >>= fun r406 =>
      F53 r406.1 r406.2 v356 p2 p3 >>= fun r408 =>
      F80 p0 p1 p2 p3 p4 p5 p6 p7 >>= fun r410 =>
      F72 r408.1 r408.2 r410.1.1 r410.1.2 >>= fun r412 =>
      F63 r410.1.1 r410.1.2 >>= fun r414 =>
      if decide ((w64 (2 * r412)) > r414) then
        F66l1 p0 p1 p2 p3 p4 p5 p6 p7 p12 p13 r5 r9 v158 (w64 (v356 + 1)) v357
      else
        F72 r408.1 r408.2 r410.2.1.1 r410.2.1.2 >>= fun r417 =>
        F63 r410.2.1.1 r410.2.1.2 >>= fun r419 =>
        if decide ((w64 (2 * r417)) > r419) then
          F66l1 p0 p1 p2 p3 p4 p5 p6 p7 p12 p13 r5 r9 v158 (w64 (v356 + 1)) v357
        else
          F72 r408.1 r408.2 r410.2.2.1.1 r410.2.2.1.2 >>= fun r422 =>
          F63 r410.2.2.1.1 r410.2.2.1.2 >>= fun r424 =>
          if decide ((w64 (2 * r422)) > r424) then
            F66l1 p0 p1 p2 p3 p4 p5 p6 p7 p12 p13 r5 r9 v158 (w64 (v356 + 1)) v357
          else
            F72 r408.1 r408.2 r410.2.2.2.1.1 r410.2.2.2.1.2 >>= fun r427 =>
            F63 r410.2.2.2.1.1 r410.2.2.2.1.2 >>= fun r429 =>
            if decide ((w64 (2 * r427)) > r429) then
              F66l1 p0 p1 p2 p3 p4 p5 p6 p7 p12 p13 r5 r9 v158 (w64 (v356 + 1)) v357
            else
              F72 r408.1 r408.2 r410.2.2.2.2.1.1 r410.2.2.2.2.1.2 >>= fun r432 =>
              F63 r410.2.2.2.2.1.1 r410.2.2.2.2.1.2 >>= fun r434 =>
              if decide ((w64 (2 * r432)) > r434) then
                F66l1 p0 p1 p2 p3 p4 p5 p6 p7 p12 p13 r5 r9 v158 (w64 (v356 + 1)) v357
              else
                F72 r408.1 r408.2 r410.2.2.2.2.2.1 r410.2.2.2.2.2.2 >>= fun r437 =>
                F63 r410.2.2.2.2.2.1 r410.2.2.2.2.2.2 >>= fun r439 =>
                if decide ((w64 (2 * r437)) > r439) then
                  F66l1 p0 p1 p2 p3 p4 p5 p6 p7 p12 p13 r5 r9 v158 (w64 (v356 + 1)) v357
                else
                  F78 0 0 v158 p4 p5 >>= fun r442 =>
                  F78 r442.1 r442.2 v356 p6 p7 >>= fun r444 =>
                  F75k1 v357 r444.1 r444.2 >>= fun r446 =>
                  (
                    if r446 then
                      some (false)
                    else
                      some (true)
                  : Option Bool) >>= fun m448 =>
                  (
                    if m448 then
                      if List.length v357 ≤ 1000000000 then
                        some (v357 ++ [(r444.1, r444.2)])
                      else none
                    else
                      some v357
                  : Option (List (Int × Int))) >>= fun m451 =>
                  F66l1 p0 p1 p2 p3 p4 p5 p6 p7 p12 p13 r5 r9 v158 (w64 (v356 + 1)) m451
    else
      some v357
  partial_fixpoint
def F66l0 (p0 : Int) (p1 : Int) (p2 : Int) (p3 : Int) (p4 : Int) (p5 : Int) (p6 : Int) (p7 : Int) (p12 : Int) (p13 : Int) (r5 : Int) (r9 : Int) (v159 : (List (Int × Int))) (v158 : Int) : Option (List (Int × Int)) :=
    if decide (v158 ≤ (w64 (r5 + 2))) then
      F66l1 p0 p1 p2 p3 p4 p5 p6 p7 p12 p13 r5 r9 v158 (w64 (r9 - 1)) v159 >>= fun r455 =>
      F66l0 p0 p1 p2 p3 p4 p5 p6 p7 p12 p13 r5 r9 r455 (w64 (v158 + 1))
    else
      some v159
  partial_fixpoint
def F66 (p0 : Int) (p1 : Int) (p2 : Int) (p3 : Int) (p4 : Int) (p5 : Int) (p6 : Int) (p7 : Int) (p8 : Int) (p9 : Int) (p10 : Int) (p11 : Int) (p12 : Int) (p13 : Int) : Option (List (Int × Int)) :=
  F59 p0 p1 p2 p3 >>= fun r1 =>
  F59 p12 p13 p2 p3 >>= fun r3 =>
  F69 (w64 (0 - r3)) r1 >>= fun r5 =>
  F59 p0 p1 p12 p13 >>= fun r7 =>
  F69 (w64 (0 - r7)) r1 >>= fun r9 =>
  F66l0 p0 p1 p2 p3 p4 p5 p6 p7 p12 p13 r5 r9 ([]) (w64 (r5 - 1)) >>= fun r457 =>
  sort82 r457 >>= fun r459 =>
  some r459
def V66 (b : Nat) (r : (List (Int × Int))) : Value := accV (b + 0) (List.length r)
def N66 (b : Nat) (r : (List (Int × Int))) : List Blk := [accB 27 (List.length r) (List.flatMap e27 r)]
def P66l1 (p0 : Int) (p1 : Int) (p2 : Int) (p3 : Int) (p4 : Int) (p5 : Int) (p6 : Int) (p7 : Int) (p12 : Int) (p13 : Int) (r5 : Int) (r9 : Int) (v158 : Int) (r : (List (Int × Int))) : Post := fun e a h => e = .exit 2 ∧ Wk Try.prog 0 0 a h (st 100 [(3, pt 0 0), (5, pt 1 0), (8, iv r5), (9, iv r9), (10, accV 2 (List.length r)), (11, iv v158)]) [cl 108 [iv p0, iv p1, iv p2, iv p3, iv p4, iv p5, iv p6, iv p7], cl 23 [iv p12, iv p13], accB 27 (List.length r) (List.flatMap e27 r)]
theorem L66l1 (p0 : Int) (p1 : Int) (p2 : Int) (p3 : Int) (p4 : Int) (p5 : Int) (p6 : Int) (p7 : Int) (p12 : Int) (p13 : Int) (r5 : Int) (r9 : Int) (v158 : Int) (v356 : Int) (v357 : (List (Int × Int))) (r : (List (Int × Int))) (hF : F66l1 p0 p1 p2 p3 p4 p5 p6 p7 p12 p13 r5 r9 v158 v356 v357 = some r) : TL Try.prog 0 0 c66.s2.s2.s2.s2.s1.s2.bd.bd.s2.s1.bd.bd.s2.s2.bd.bd (st 100 [(3, pt 0 0), (5, pt 1 0), (8, iv r5), (9, iv r9), (10, accV 2 (List.length v357)), (11, iv v158), (12, iv v356)]) (H66_8 p0 p1 p2 p3 p4 p5 p6 p7 p12 p13 v357) (P66l1 p0 p1 p2 p3 p4 p5 p6 p7 p12 p13 r5 r9 v158 r) := by
  refine F66l1.partial_correctness p0 p1 p2 p3 p4 p5 p6 p7 p12 p13 r5 r9 v158 (motive := fun v356 v357 r => TL Try.prog 0 0 c66.s2.s2.s2.s2.s1.s2.bd.bd.s2.s1.bd.bd.s2.s2.bd.bd (st 100 [(3, pt 0 0), (5, pt 1 0), (8, iv r5), (9, iv r9), (10, accV 2 (List.length v357)), (11, iv v158), (12, iv v356)]) (H66_8 p0 p1 p2 p3 p4 p5 p6 p7 p12 p13 v357) (P66l1 p0 p1 p2 p3 p4 p5 p6 p7 p12 p13 r5 r9 v158 r)) ?_ v356 v357 r hF
  clear hF r v356 v357
  intro again ih v356 v357 r hF
  refine TL.round (TS.sq (TS.sq (TS.rg (TI.ra 4 [3, 5, 8, 9, 10, 11, 12, 53] (st 100 [(3, pt 0 0), (5, pt 1 0), (8, iv r5), (9, iv r9), (10, accV 2 (List.length v357)), (11, iv v158), (12, iv v356), (53, .bool (decide (v356 ≤ (w64 (r9 + 2)))))]) (TI.dn (NX.sq ?_))))))
  refine TS.cd (.tmp 53) (decide (v356 ≤ (w64 (r9 + 2)))) (fun hc405 => ?_) (fun hc405 => ?_)
  · replace hF := of_pos hF hc405
    refine TS.sk (NX.sq (TS.sq (TS.bk 3 (TS.sq ?_))))
    have hX := of_do hF
    clear hF
    obtain ⟨r406, h407, hF⟩ := hX
    have hX := of_do hF
    clear hF
    obtain ⟨r408, h409, hF⟩ := hX
    have hT : ∀ e ∈ ([⟨53, [ag [iv p12, iv p13], iv v158, ag [iv p0, iv p1]], (H66_8 p0 p1 p2 p3 p4 p5 p6 p7 p12 p13 v357), ag [iv r406.1, iv r406.2], []⟩, ⟨53, [ag [iv r406.1, iv r406.2], iv v356, ag [iv p2, iv p3]], (H66_8 p0 p1 p2 p3 p4 p5 p6 p7 p12 p13 v357), ag [iv r408.1, iv r408.2], []⟩] : List Entry), PureSim Try.prog e.g e.args e.h e.v e.new := by
      intro e he
      simp only [List.mem_cons, List.not_mem_nil, or_false] at he
      rcases he with rfl | rfl
      · exact PureSim.ak (C53 _ _ _ _ _ _ h407)
      · exact PureSim.ak (C53 _ _ _ _ _ _ h409)
    refine TS.dp [⟨53, [ag [iv p12, iv p13], iv v158, ag [iv p0, iv p1]], (H66_8 p0 p1 p2 p3 p4 p5 p6 p7 p12 p13 v357), ag [iv r406.1, iv r406.2], []⟩, ⟨53, [ag [iv r406.1, iv r406.2], iv v356, ag [iv p2, iv p3]], (H66_8 p0 p1 p2 p3 p4 p5 p6 p7 p12 p13 v357), ag [iv r408.1, iv r408.2], []⟩] hT mixed 12 [3, 5, 8, 9, 10, 11, 12, 13] [0, 1, 2, 3] (st 100 [(3, pt 0 0), (5, pt 1 0), (8, iv r5), (9, iv r9), (10, accV 2 (List.length v357)), (11, iv v158), (12, iv v356), (13, pt 3 0)]) [cl 108 [iv p0, iv p1, iv p2, iv p3, iv p4, iv p5, iv p6, iv p7], cl 23 [iv p12, iv p13], accB 27 (List.length v357) (List.flatMap e27 v357), cl 23 [iv r408.1, iv r408.2]] ?_ ?_
    · refine QJ.rn (qs (st 100 [(3, pt 0 0), (5, pt 1 0), (8, iv r5), (9, iv r9), (10, accV 2 (List.length v357)), (11, iv v158), (12, iv v356), (53, .bool (decide (v356 ≤ (w64 (r9 + 2))))), (56, ag [iv p12, iv p13]), (57, iv v158), (58, pt 0 0), (59, pt 0 0), (60, ag [iv p0, iv p1])]) (H66_8 p0 p1 p2 p3 p4 p5 p6 p7 p12 p13 v357) [] []) 5 (QJ.o { val := ag [iv r406.1, iv r406.2], new := [] } (qOf_call (g := 53) (args := [ag [iv p12, iv p13], iv v158, ag [iv p0, iv p1]]) (by kernel_rfl) lookC_hit) (QJ.rn (qs (st 100 [(3, pt 0 0), (5, pt 1 0), (8, iv r5), (9, iv r9), (10, accV 2 (List.length v357)), (11, iv v158), (12, iv v356), (53, .bool (decide (v356 ≤ (w64 (r9 + 2))))), (56, ag [iv p12, iv p13]), (57, iv v158), (58, pt 0 0), (59, pt 0 0), (60, ag [iv p0, iv p1]), (61, ag [iv r406.1, iv r406.2]), (62, iv v356), (63, pt 0 0), (64, pt 0 2), (65, ag [iv p2, iv p3])]) (H66_8 p0 p1 p2 p3 p4 p5 p6 p7 p12 p13 v357) [] []) 4 ?_))
      exact QJ.o { val := ag [iv r408.1, iv r408.2], new := [] } (qOf_call (g := 53) (args := [ag [iv r406.1, iv r406.2], iv v356, ag [iv p2, iv p3]]) (by kernel_rfl) (lookC_skip (by intro _ ha _; have hr := Option.some.inj (h407.symm.trans (Eq.trans (congr (congr (congr (congr (congrArg F53 (show p12 = r406.1 from congrArg (leafI 0) ha)) (show p13 = r406.2 from congrArg (leafI 1) ha)) (show v158 = v356 from congrArg (leafI 2) ha)) (show p0 = p2 from congrArg (leafI 3) ha)) (show p1 = p3 from congrArg (leafI 4) ha)) h409)); first | (subst hr; rfl) | (cases hr; done) | (cases hr; rfl)) lookC_hit)) (QJ.rn (qs (st 100 [(3, pt 0 0), (5, pt 1 0), (8, iv r5), (9, iv r9), (10, accV 2 (List.length v357)), (11, iv v158), (12, iv v356), (13, pt 3 0), (53, .bool (decide (v356 ≤ (w64 (r9 + 2))))), (56, ag [iv p12, iv p13]), (57, iv v158), (58, pt 0 0), (59, pt 0 0), (60, ag [iv p0, iv p1]), (61, ag [iv r406.1, iv r406.2]), (62, iv v356), (63, pt 0 0), (64, pt 0 2), (65, ag [iv p2, iv p3]), (66, ag [iv r408.1, iv r408.2])]) [cl 108 [iv p0, iv p1, iv p2, iv p3, iv p4, iv p5, iv p6, iv p7], cl 23 [iv p12, iv p13], accB 27 (List.length v357) (List.flatMap e27 v357), cl 23 [iv 0, iv 0]] [(11, 3, 4)] []) 1 (QJ.dn ⟨rfl, SJ.la⟩))
    refine TS.sq (TS.sq ?_)
    have hX := of_do hF
    clear hF
    obtain ⟨r410, h411, hF⟩ := hX
    refine TS.rg (TI.ra 1 [3, 5, 8, 9, 10, 11, 12, 13, 67] (st 100 [(3, pt 0 0), (5, pt 1 0), (8, iv r5), (9, iv r9), (10, accV 2 (List.length v357)), (11, iv v158), (12, iv v356), (13, pt 3 0), (67, ag [iv p0, iv p1, iv p2, iv p3, iv p4, iv p5, iv p6, iv p7])]) (TI.cf (C80 _ _ _ _ _ _ _ _ _ h411) (TI.ra 1 [3, 5, 8, 9, 10, 11, 12, 13, 68, 69] (st 100 [(3, pt 0 0), (5, pt 1 0), (8, iv r5), (9, iv r9), (10, accV 2 (List.length v357)), (11, iv v158), (12, iv v356), (13, pt 3 0), (68, ag [iv r410.1.1, iv r410.1.2, iv r410.2.1.1, iv r410.2.1.2, iv r410.2.2.1.1, iv r410.2.2.1.2, iv r410.2.2.2.1.1, iv r410.2.2.2.1.2, iv r410.2.2.2.2.1.1, iv r410.2.2.2.2.1.2, iv r410.2.2.2.2.2.1, iv r410.2.2.2.2.2.2]), (69, iv 0)]) (TI.dn (NX.sq (TS.bk 4 (TS.lp (TL.round ?_))))))))
    refine TS.sq (TS.rg (TI.ra 1 [3, 5, 8, 9, 10, 11, 12, 13, 68, 69, 70] (st 100 [(3, pt 0 0), (5, pt 1 0), (8, iv r5), (9, iv r9), (10, accV 2 (List.length v357)), (11, iv v158), (12, iv v356), (13, pt 3 0), (68, ag [iv r410.1.1, iv r410.1.2, iv r410.2.1.1, iv r410.2.1.2, iv r410.2.2.1.1, iv r410.2.2.1.2, iv r410.2.2.2.1.1, iv r410.2.2.2.1.2, iv r410.2.2.2.2.1.1, iv r410.2.2.2.2.1.2, iv r410.2.2.2.2.2.1, iv r410.2.2.2.2.2.2]), (69, iv 0), (70, .bool true)]) (TI.dn (NX.sq (TS.sq (TS.cdT (.tmp 70) (TS.sk (NX.sq ?_))))))))
    refine TS.sq (TS.bk 5 (TS.sq (TS.rg (TI.rn 3 [3, 5, 8, 9, 10, 11, 12, 13, 15, 68, 69] [0, 1, 2, 3, 4] (st 100 [(3, pt 0 0), (5, pt 1 0), (8, iv r5), (9, iv r9), (10, accV 2 (List.length v357)), (11, iv v158), (12, iv v356), (13, pt 3 0), (15, pt 4 0), (68, ag [iv r410.1.1, iv r410.1.2, iv r410.2.1.1, iv r410.2.1.2, iv r410.2.2.1.1, iv r410.2.2.1.2, iv r410.2.2.2.1.1, iv r410.2.2.2.1.2, iv r410.2.2.2.2.1.1, iv r410.2.2.2.2.1.2, iv r410.2.2.2.2.2.1, iv r410.2.2.2.2.2.2]), (69, iv 0)]) (H66_7 p0 p1 p2 p3 p4 p5 p6 p7 p12 p13 v357 r408 r410) (TI.dn (NX.sq (TS.sq ?_)))))))
    have hX := of_do hF
    clear hF
    obtain ⟨r412, h413, hF⟩ := hX
    have hX := of_do hF
    clear hF
    obtain ⟨r414, h415, hF⟩ := hX
    have hT : ∀ e ∈ ([⟨72, [ag [iv r408.1, iv r408.2], ag [iv r410.1.1, iv r410.1.2]], (H66_7 p0 p1 p2 p3 p4 p5 p6 p7 p12 p13 v357 r408 r410), iv r412, []⟩, ⟨63, [ag [iv r410.1.1, iv r410.1.2]], (H66_7 p0 p1 p2 p3 p4 p5 p6 p7 p12 p13 v357 r408 r410), iv r414, []⟩] : List Entry), PureSim Try.prog e.g e.args e.h e.v e.new := by
      intro e he
      simp only [List.mem_cons, List.not_mem_nil, or_false] at he
      rcases he with rfl | rfl
      · exact PureSim.ak (C72 _ _ _ _ _ h413)
      · exact PureSim.ak (C63 _ _ _ h415)
    refine TS.dp [⟨72, [ag [iv r408.1, iv r408.2], ag [iv r410.1.1, iv r410.1.2]], (H66_7 p0 p1 p2 p3 p4 p5 p6 p7 p12 p13 v357 r408 r410), iv r412, []⟩, ⟨63, [ag [iv r410.1.1, iv r410.1.2]], (H66_7 p0 p1 p2 p3 p4 p5 p6 p7 p12 p13 v357 r408 r410), iv r414, []⟩] hT mixed 6 [3, 5, 8, 9, 10, 11, 12, 13, 68, 69, 78] [0, 1, 2, 3] (st 100 [(3, pt 0 0), (5, pt 1 0), (8, iv r5), (9, iv r9), (10, accV 2 (List.length v357)), (11, iv v158), (12, iv v356), (13, pt 3 0), (68, ag [iv r410.1.1, iv r410.1.2, iv r410.2.1.1, iv r410.2.1.2, iv r410.2.2.1.1, iv r410.2.2.1.2, iv r410.2.2.2.1.1, iv r410.2.2.2.1.2, iv r410.2.2.2.2.1.1, iv r410.2.2.2.2.1.2, iv r410.2.2.2.2.2.1, iv r410.2.2.2.2.2.2]), (69, iv 0), (78, .bool (decide ((w64 (2 * r412)) > r414)))]) [cl 108 [iv p0, iv p1, iv p2, iv p3, iv p4, iv p5, iv p6, iv p7], cl 23 [iv p12, iv p13], accB 27 (List.length v357) (List.flatMap e27 v357), cl 23 [iv r408.1, iv r408.2], .dead] ?_ ?_
    · exact QJ.rn (qs (st 100 [(3, pt 0 0), (5, pt 1 0), (8, iv r5), (9, iv r9), (10, accV 2 (List.length v357)), (11, iv v158), (12, iv v356), (13, pt 3 0), (15, pt 4 0), (68, ag [iv r410.1.1, iv r410.1.2, iv r410.2.1.1, iv r410.2.1.2, iv r410.2.2.1.1, iv r410.2.2.1.2, iv r410.2.2.2.1.1, iv r410.2.2.2.1.2, iv r410.2.2.2.2.1.1, iv r410.2.2.2.2.1.2, iv r410.2.2.2.2.2.1, iv r410.2.2.2.2.2.2]), (69, iv 0), (72, ag [iv r408.1, iv r408.2]), (73, ag [iv r410.1.1, iv r410.1.2])]) (H66_7 p0 p1 p2 p3 p4 p5 p6 p7 p12 p13 v357 r408 r410) [] []) 2 (QJ.o { val := iv r412, new := [] } (qOf_call (g := 72) (args := [ag [iv r408.1, iv r408.2], ag [iv r410.1.1, iv r410.1.2]]) (by kernel_rfl) lookC_hit) (QJ.rn (qs (st 100 [(3, pt 0 0), (5, pt 1 0), (8, iv r5), (9, iv r9), (10, accV 2 (List.length v357)), (11, iv v158), (12, iv v356), (13, pt 3 0), (15, pt 4 0), (68, ag [iv r410.1.1, iv r410.1.2, iv r410.2.1.1, iv r410.2.1.2, iv r410.2.2.1.1, iv r410.2.2.1.2, iv r410.2.2.2.1.1, iv r410.2.2.2.1.2, iv r410.2.2.2.2.1.1, iv r410.2.2.2.2.1.2, iv r410.2.2.2.2.2.1, iv r410.2.2.2.2.2.2]), (69, iv 0), (72, ag [iv r408.1, iv r408.2]), (73, ag [iv r410.1.1, iv r410.1.2]), (74, iv r412), (75, iv (w64 (2 * r412))), (76, ag [iv r410.1.1, iv r410.1.2])]) (H66_7 p0 p1 p2 p3 p4 p5 p6 p7 p12 p13 v357 r408 r410) [] []) 2 (QJ.o { val := iv r414, new := [] } (qOf_call (g := 63) (args := [ag [iv r410.1.1, iv r410.1.2]]) (by kernel_rfl) (lookC_skip (fun hg => absurd (show (72 : Nat) = 63 from hg) (by decide)) lookC_hit)) (QJ.dn ⟨rfl, SJ.la⟩))))
    refine TS.cd (.tmp 78) (decide ((w64 (2 * r412)) > r414)) (fun hc416 => ?_) (fun hc416 => ?_)
    · replace hF := of_pos hF hc416
      refine TS.ex 3 (NX.bkY rfl (NX.sqX ?_))
      refine Rd.out (by simp) (NX.bkY rfl (NX.sqX (NX.bkX (NX.sq (TS.rg (TI.rn 3 [3, 5, 8, 9, 10, 11, 12] [0, 1, 2] (S66_9 r5 r9 v357 v158 v356) [cl 108 [iv p0, iv p1, iv p2, iv p3, iv p4, iv p5, iv p6, iv p7], cl 23 [iv p12, iv p13], accB 27 (List.length v357) (List.flatMap e27 v357), .dead, .dead] (TI.dn ?_)))))))
      exact Rd.again (a2 := (S66_9 r5 r9 v357 v158 v356)) (h2 := (H66_8 p0 p1 p2 p3 p4 p5 p6 p7 p12 p13 v357)) (Wk.anew (base := 0) (L := 0) (f := [0, 1, 2]) (by decide) (by decide) (Nat.le_of_ble_eq_true rfl) rfl (.cons (At.blk (by kernel_rfl) (RnB.lit (.cons (.flat (by kernel_rfl)) (.cons (.flat (by kernel_rfl)) (.cons (.flat (by kernel_rfl)) (.cons (.flat (by kernel_rfl)) (.cons (.flat (by kernel_rfl)) (.cons (.flat (by kernel_rfl)) (.cons (.flat (by kernel_rfl)) (.cons (.flat (by kernel_rfl)) .nil)))))))))) (.cons (At.blk (by kernel_rfl) (RnB.lit (.cons (.flat (by kernel_rfl)) (.cons (.flat (by kernel_rfl)) .nil)))) (.cons (At.acc (by kernel_rfl) rfl (fun _ => rfl)) (.nil _)))) (LRn.stx [3, 5, 8, 9, 10, 11, 12] [pt 0 0, pt 1 0, iv r5, iv r9, accV 2 (List.length v357), iv v158, iv (w64 (v356 + 1))] [pt 0 0, pt 1 0, iv r5, iv r9, accV 2 (List.length v357), iv v158, iv (w64 (v356 + 1))] (.cons (Rn.ptr _ _ _ (Nat.le_of_ble_eq_true rfl) rfl) (.cons (Rn.ptr _ _ _ (Nat.le_of_ble_eq_true rfl) rfl) (.cons (.flat (by kernel_rfl)) (.cons (.flat (by kernel_rfl)) (.cons (Rn.acc (Nat.le_of_ble_eq_true rfl) rfl) (.cons (.flat (by kernel_rfl)) (.cons (.flat (by kernel_rfl)) .nil))))))) (by kernel_rfl) (by kernel_rfl) rfl) rfl rfl) (ih (w64 (v356 + 1)) v357 _ hF)
    · replace hF := of_neg hF hc416
      refine TS.sk (NX.bk (NX.sq (TS.rg (TI.ra 2 [3, 5, 8, 9, 10, 11, 12, 13, 68, 69] (st 100 [(3, pt 0 0), (5, pt 1 0), (8, iv r5), (9, iv r9), (10, accV 2 (List.length v357)), (11, iv v158), (12, iv v356), (13, pt 3 0), (68, ag [iv r410.1.1, iv r410.1.2, iv r410.2.1.1, iv r410.2.1.2, iv r410.2.2.1.1, iv r410.2.2.1.2, iv r410.2.2.2.1.1, iv r410.2.2.2.1.2, iv r410.2.2.2.2.1.1, iv r410.2.2.2.2.1.2, iv r410.2.2.2.2.2.1, iv r410.2.2.2.2.2.2]), (69, iv 1)]) (TI.dn ?_)))))
      refine Rd.again Wk.refl (TL.round (TS.sq (TS.rg (TI.ra 1 [3, 5, 8, 9, 10, 11, 12, 13, 68, 69, 70] (st 100 [(3, pt 0 0), (5, pt 1 0), (8, iv r5), (9, iv r9), (10, accV 2 (List.length v357)), (11, iv v158), (12, iv v356), (13, pt 3 0), (68, ag [iv r410.1.1, iv r410.1.2, iv r410.2.1.1, iv r410.2.1.2, iv r410.2.2.1.1, iv r410.2.2.1.2, iv r410.2.2.2.1.1, iv r410.2.2.2.1.2, iv r410.2.2.2.2.1.1, iv r410.2.2.2.2.1.2, iv r410.2.2.2.2.2.1, iv r410.2.2.2.2.2.2]), (69, iv 1), (70, .bool true)]) (TI.dn (NX.sq (TS.sq (TS.cdT (.tmp 70) (TS.sk ?_)))))))))
      refine NX.sq (TS.sq (TS.bk 5 (TS.sq (TS.rg (TI.rn 3 [3, 5, 8, 9, 10, 11, 12, 13, 15, 68, 69] [0, 1, 2, 3, 5] (st 100 [(3, pt 0 0), (5, pt 1 0), (8, iv r5), (9, iv r9), (10, accV 2 (List.length v357)), (11, iv v158), (12, iv v356), (13, pt 3 0), (15, pt 5 0), (68, ag [iv r410.1.1, iv r410.1.2, iv r410.2.1.1, iv r410.2.1.2, iv r410.2.2.1.1, iv r410.2.2.1.2, iv r410.2.2.2.1.1, iv r410.2.2.2.1.2, iv r410.2.2.2.2.1.1, iv r410.2.2.2.2.1.2, iv r410.2.2.2.2.2.1, iv r410.2.2.2.2.2.2]), (69, iv 1)]) (H66_4 p0 p1 p2 p3 p4 p5 p6 p7 p12 p13 v357 r408 r410) (TI.dn (NX.sq (TS.sq ?_))))))))
      have hX := of_do hF
      clear hF
      obtain ⟨r417, h418, hF⟩ := hX
      have hX := of_do hF
      clear hF
      obtain ⟨r419, h420, hF⟩ := hX
      have hT : ∀ e ∈ ([⟨72, [ag [iv r408.1, iv r408.2], ag [iv r410.2.1.1, iv r410.2.1.2]], (H66_4 p0 p1 p2 p3 p4 p5 p6 p7 p12 p13 v357 r408 r410), iv r417, []⟩, ⟨63, [ag [iv r410.2.1.1, iv r410.2.1.2]], (H66_4 p0 p1 p2 p3 p4 p5 p6 p7 p12 p13 v357 r408 r410), iv r419, []⟩] : List Entry), PureSim Try.prog e.g e.args e.h e.v e.new := by
        intro e he
        simp only [List.mem_cons, List.not_mem_nil, or_false] at he
        rcases he with rfl | rfl
        · exact PureSim.ak (C72 _ _ _ _ _ h418)
        · exact PureSim.ak (C63 _ _ _ h420)
      refine TS.dp [⟨72, [ag [iv r408.1, iv r408.2], ag [iv r410.2.1.1, iv r410.2.1.2]], (H66_4 p0 p1 p2 p3 p4 p5 p6 p7 p12 p13 v357 r408 r410), iv r417, []⟩, ⟨63, [ag [iv r410.2.1.1, iv r410.2.1.2]], (H66_4 p0 p1 p2 p3 p4 p5 p6 p7 p12 p13 v357 r408 r410), iv r419, []⟩] hT mixed 6 [3, 5, 8, 9, 10, 11, 12, 13, 68, 69, 78] [0, 1, 2, 3] (st 100 [(3, pt 0 0), (5, pt 1 0), (8, iv r5), (9, iv r9), (10, accV 2 (List.length v357)), (11, iv v158), (12, iv v356), (13, pt 3 0), (68, ag [iv r410.1.1, iv r410.1.2, iv r410.2.1.1, iv r410.2.1.2, iv r410.2.2.1.1, iv r410.2.2.1.2, iv r410.2.2.2.1.1, iv r410.2.2.2.1.2, iv r410.2.2.2.2.1.1, iv r410.2.2.2.2.1.2, iv r410.2.2.2.2.2.1, iv r410.2.2.2.2.2.2]), (69, iv 1), (78, .bool (decide ((w64 (2 * r417)) > r419)))]) [cl 108 [iv p0, iv p1, iv p2, iv p3, iv p4, iv p5, iv p6, iv p7], cl 23 [iv p12, iv p13], accB 27 (List.length v357) (List.flatMap e27 v357), cl 23 [iv r408.1, iv r408.2], .dead, .dead] ?_ ?_
      · exact QJ.rn (qs (st 100 [(3, pt 0 0), (5, pt 1 0), (8, iv r5), (9, iv r9), (10, accV 2 (List.length v357)), (11, iv v158), (12, iv v356), (13, pt 3 0), (15, pt 5 0), (68, ag [iv r410.1.1, iv r410.1.2, iv r410.2.1.1, iv r410.2.1.2, iv r410.2.2.1.1, iv r410.2.2.1.2, iv r410.2.2.2.1.1, iv r410.2.2.2.1.2, iv r410.2.2.2.2.1.1, iv r410.2.2.2.2.1.2, iv r410.2.2.2.2.2.1, iv r410.2.2.2.2.2.2]), (69, iv 1), (72, ag [iv r408.1, iv r408.2]), (73, ag [iv r410.2.1.1, iv r410.2.1.2])]) (H66_4 p0 p1 p2 p3 p4 p5 p6 p7 p12 p13 v357 r408 r410) [] []) 2 (QJ.o { val := iv r417, new := [] } (qOf_call (g := 72) (args := [ag [iv r408.1, iv r408.2], ag [iv r410.2.1.1, iv r410.2.1.2]]) (by kernel_rfl) lookC_hit) (QJ.rn (qs (st 100 [(3, pt 0 0), (5, pt 1 0), (8, iv r5), (9, iv r9), (10, accV 2 (List.length v357)), (11, iv v158), (12, iv v356), (13, pt 3 0), (15, pt 5 0), (68, ag [iv r410.1.1, iv r410.1.2, iv r410.2.1.1, iv r410.2.1.2, iv r410.2.2.1.1, iv r410.2.2.1.2, iv r410.2.2.2.1.1, iv r410.2.2.2.1.2, iv r410.2.2.2.2.1.1, iv r410.2.2.2.2.1.2, iv r410.2.2.2.2.2.1, iv r410.2.2.2.2.2.2]), (69, iv 1), (72, ag [iv r408.1, iv r408.2]), (73, ag [iv r410.2.1.1, iv r410.2.1.2]), (74, iv r417), (75, iv (w64 (2 * r417))), (76, ag [iv r410.2.1.1, iv r410.2.1.2])]) (H66_4 p0 p1 p2 p3 p4 p5 p6 p7 p12 p13 v357 r408 r410) [] []) 2 (QJ.o { val := iv r419, new := [] } (qOf_call (g := 63) (args := [ag [iv r410.2.1.1, iv r410.2.1.2]]) (by kernel_rfl) (lookC_skip (fun hg => absurd (show (72 : Nat) = 63 from hg) (by decide)) lookC_hit)) (QJ.dn ⟨rfl, SJ.la⟩))))
      refine TS.cd (.tmp 78) (decide ((w64 (2 * r417)) > r419)) (fun hc421 => ?_) (fun hc421 => ?_)
      · replace hF := of_pos hF hc421
        refine TS.ex 3 (NX.bkY rfl (NX.sqX ?_))
        refine Rd.out (by simp) (NX.bkY rfl (NX.sqX (NX.bkX (NX.sq (TS.rg (TI.rn 3 [3, 5, 8, 9, 10, 11, 12] [0, 1, 2] (S66_9 r5 r9 v357 v158 v356) [cl 108 [iv p0, iv p1, iv p2, iv p3, iv p4, iv p5, iv p6, iv p7], cl 23 [iv p12, iv p13], accB 27 (List.length v357) (List.flatMap e27 v357), .dead, .dead, .dead] (TI.dn ?_)))))))
        exact Rd.again (a2 := (S66_9 r5 r9 v357 v158 v356)) (h2 := (H66_8 p0 p1 p2 p3 p4 p5 p6 p7 p12 p13 v357)) (Wk.anew (base := 0) (L := 0) (f := [0, 1, 2]) (by decide) (by decide) (Nat.le_of_ble_eq_true rfl) rfl (.cons (At.blk (by kernel_rfl) (RnB.lit (.cons (.flat (by kernel_rfl)) (.cons (.flat (by kernel_rfl)) (.cons (.flat (by kernel_rfl)) (.cons (.flat (by kernel_rfl)) (.cons (.flat (by kernel_rfl)) (.cons (.flat (by kernel_rfl)) (.cons (.flat (by kernel_rfl)) (.cons (.flat (by kernel_rfl)) .nil)))))))))) (.cons (At.blk (by kernel_rfl) (RnB.lit (.cons (.flat (by kernel_rfl)) (.cons (.flat (by kernel_rfl)) .nil)))) (.cons (At.acc (by kernel_rfl) rfl (fun _ => rfl)) (.nil _)))) (LRn.stx [3, 5, 8, 9, 10, 11, 12] [pt 0 0, pt 1 0, iv r5, iv r9, accV 2 (List.length v357), iv v158, iv (w64 (v356 + 1))] [pt 0 0, pt 1 0, iv r5, iv r9, accV 2 (List.length v357), iv v158, iv (w64 (v356 + 1))] (.cons (Rn.ptr _ _ _ (Nat.le_of_ble_eq_true rfl) rfl) (.cons (Rn.ptr _ _ _ (Nat.le_of_ble_eq_true rfl) rfl) (.cons (.flat (by kernel_rfl)) (.cons (.flat (by kernel_rfl)) (.cons (Rn.acc (Nat.le_of_ble_eq_true rfl) rfl) (.cons (.flat (by kernel_rfl)) (.cons (.flat (by kernel_rfl)) .nil))))))) (by kernel_rfl) (by kernel_rfl) rfl) rfl rfl) (ih (w64 (v356 + 1)) v357 _ hF)
      · replace hF := of_neg hF hc421
        refine TS.sk (NX.bk (NX.sq (TS.rg (TI.ra 2 [3, 5, 8, 9, 10, 11, 12, 13, 68, 69] (st 100 [(3, pt 0 0), (5, pt 1 0), (8, iv r5), (9, iv r9), (10, accV 2 (List.length v357)), (11, iv v158), (12, iv v356), (13, pt 3 0), (68, ag [iv r410.1.1, iv r410.1.2, iv r410.2.1.1, iv r410.2.1.2, iv r410.2.2.1.1, iv r410.2.2.1.2, iv r410.2.2.2.1.1, iv r410.2.2.2.1.2, iv r410.2.2.2.2.1.1, iv r410.2.2.2.2.1.2, iv r410.2.2.2.2.2.1, iv r410.2.2.2.2.2.2]), (69, iv 2)]) (TI.dn ?_)))))
        refine Rd.again Wk.refl (TL.round (TS.sq (TS.rg (TI.ra 1 [3, 5, 8, 9, 10, 11, 12, 13, 68, 69, 70] (st 100 [(3, pt 0 0), (5, pt 1 0), (8, iv r5), (9, iv r9), (10, accV 2 (List.length v357)), (11, iv v158), (12, iv v356), (13, pt 3 0), (68, ag [iv r410.1.1, iv r410.1.2, iv r410.2.1.1, iv r410.2.1.2, iv r410.2.2.1.1, iv r410.2.2.1.2, iv r410.2.2.2.1.1, iv r410.2.2.2.1.2, iv r410.2.2.2.2.1.1, iv r410.2.2.2.2.1.2, iv r410.2.2.2.2.2.1, iv r410.2.2.2.2.2.2]), (69, iv 2), (70, .bool true)]) (TI.dn (NX.sq (TS.sq (TS.cdT (.tmp 70) (TS.sk ?_)))))))))
        refine NX.sq (TS.sq (TS.bk 5 (TS.sq (TS.rg (TI.rn 3 [3, 5, 8, 9, 10, 11, 12, 13, 15, 68, 69] [0, 1, 2, 3, 6] (st 100 [(3, pt 0 0), (5, pt 1 0), (8, iv r5), (9, iv r9), (10, accV 2 (List.length v357)), (11, iv v158), (12, iv v356), (13, pt 3 0), (15, pt 6 0), (68, ag [iv r410.1.1, iv r410.1.2, iv r410.2.1.1, iv r410.2.1.2, iv r410.2.2.1.1, iv r410.2.2.1.2, iv r410.2.2.2.1.1, iv r410.2.2.2.1.2, iv r410.2.2.2.2.1.1, iv r410.2.2.2.2.1.2, iv r410.2.2.2.2.2.1, iv r410.2.2.2.2.2.2]), (69, iv 2)]) (H66_3 p0 p1 p2 p3 p4 p5 p6 p7 p12 p13 v357 r408 r410) (TI.dn (NX.sq (TS.sq ?_))))))))
        have hX := of_do hF
        clear hF
        obtain ⟨r422, h423, hF⟩ := hX
        have hX := of_do hF
        clear hF
        obtain ⟨r424, h425, hF⟩ := hX
        have hT : ∀ e ∈ ([⟨72, [ag [iv r408.1, iv r408.2], ag [iv r410.2.2.1.1, iv r410.2.2.1.2]], (H66_3 p0 p1 p2 p3 p4 p5 p6 p7 p12 p13 v357 r408 r410), iv r422, []⟩, ⟨63, [ag [iv r410.2.2.1.1, iv r410.2.2.1.2]], (H66_3 p0 p1 p2 p3 p4 p5 p6 p7 p12 p13 v357 r408 r410), iv r424, []⟩] : List Entry), PureSim Try.prog e.g e.args e.h e.v e.new := by
          intro e he
          simp only [List.mem_cons, List.not_mem_nil, or_false] at he
          rcases he with rfl | rfl
          · exact PureSim.ak (C72 _ _ _ _ _ h423)
          · exact PureSim.ak (C63 _ _ _ h425)
        refine TS.dp [⟨72, [ag [iv r408.1, iv r408.2], ag [iv r410.2.2.1.1, iv r410.2.2.1.2]], (H66_3 p0 p1 p2 p3 p4 p5 p6 p7 p12 p13 v357 r408 r410), iv r422, []⟩, ⟨63, [ag [iv r410.2.2.1.1, iv r410.2.2.1.2]], (H66_3 p0 p1 p2 p3 p4 p5 p6 p7 p12 p13 v357 r408 r410), iv r424, []⟩] hT mixed 6 [3, 5, 8, 9, 10, 11, 12, 13, 68, 69, 78] [0, 1, 2, 3] (st 100 [(3, pt 0 0), (5, pt 1 0), (8, iv r5), (9, iv r9), (10, accV 2 (List.length v357)), (11, iv v158), (12, iv v356), (13, pt 3 0), (68, ag [iv r410.1.1, iv r410.1.2, iv r410.2.1.1, iv r410.2.1.2, iv r410.2.2.1.1, iv r410.2.2.1.2, iv r410.2.2.2.1.1, iv r410.2.2.2.1.2, iv r410.2.2.2.2.1.1, iv r410.2.2.2.2.1.2, iv r410.2.2.2.2.2.1, iv r410.2.2.2.2.2.2]), (69, iv 2), (78, .bool (decide ((w64 (2 * r422)) > r424)))]) [cl 108 [iv p0, iv p1, iv p2, iv p3, iv p4, iv p5, iv p6, iv p7], cl 23 [iv p12, iv p13], accB 27 (List.length v357) (List.flatMap e27 v357), cl 23 [iv r408.1, iv r408.2], .dead, .dead, .dead] ?_ ?_
        · exact QJ.rn (qs (st 100 [(3, pt 0 0), (5, pt 1 0), (8, iv r5), (9, iv r9), (10, accV 2 (List.length v357)), (11, iv v158), (12, iv v356), (13, pt 3 0), (15, pt 6 0), (68, ag [iv r410.1.1, iv r410.1.2, iv r410.2.1.1, iv r410.2.1.2, iv r410.2.2.1.1, iv r410.2.2.1.2, iv r410.2.2.2.1.1, iv r410.2.2.2.1.2, iv r410.2.2.2.2.1.1, iv r410.2.2.2.2.1.2, iv r410.2.2.2.2.2.1, iv r410.2.2.2.2.2.2]), (69, iv 2), (72, ag [iv r408.1, iv r408.2]), (73, ag [iv r410.2.2.1.1, iv r410.2.2.1.2])]) (H66_3 p0 p1 p2 p3 p4 p5 p6 p7 p12 p13 v357 r408 r410) [] []) 2 (QJ.o { val := iv r422, new := [] } (qOf_call (g := 72) (args := [ag [iv r408.1, iv r408.2], ag [iv r410.2.2.1.1, iv r410.2.2.1.2]]) (by kernel_rfl) lookC_hit) (QJ.rn (qs (st 100 [(3, pt 0 0), (5, pt 1 0), (8, iv r5), (9, iv r9), (10, accV 2 (List.length v357)), (11, iv v158), (12, iv v356), (13, pt 3 0), (15, pt 6 0), (68, ag [iv r410.1.1, iv r410.1.2, iv r410.2.1.1, iv r410.2.1.2, iv r410.2.2.1.1, iv r410.2.2.1.2, iv r410.2.2.2.1.1, iv r410.2.2.2.1.2, iv r410.2.2.2.2.1.1, iv r410.2.2.2.2.1.2, iv r410.2.2.2.2.2.1, iv r410.2.2.2.2.2.2]), (69, iv 2), (72, ag [iv r408.1, iv r408.2]), (73, ag [iv r410.2.2.1.1, iv r410.2.2.1.2]), (74, iv r422), (75, iv (w64 (2 * r422))), (76, ag [iv r410.2.2.1.1, iv r410.2.2.1.2])]) (H66_3 p0 p1 p2 p3 p4 p5 p6 p7 p12 p13 v357 r408 r410) [] []) 2 (QJ.o { val := iv r424, new := [] } (qOf_call (g := 63) (args := [ag [iv r410.2.2.1.1, iv r410.2.2.1.2]]) (by kernel_rfl) (lookC_skip (fun hg => absurd (show (72 : Nat) = 63 from hg) (by decide)) lookC_hit)) (QJ.dn ⟨rfl, SJ.la⟩))))
        refine TS.cd (.tmp 78) (decide ((w64 (2 * r422)) > r424)) (fun hc426 => ?_) (fun hc426 => ?_)
        · replace hF := of_pos hF hc426
          refine TS.ex 3 (NX.bkY rfl (NX.sqX ?_))
          refine Rd.out (by simp) (NX.bkY rfl (NX.sqX (NX.bkX (NX.sq (TS.rg (TI.rn 3 [3, 5, 8, 9, 10, 11, 12] [0, 1, 2] (S66_9 r5 r9 v357 v158 v356) [cl 108 [iv p0, iv p1, iv p2, iv p3, iv p4, iv p5, iv p6, iv p7], cl 23 [iv p12, iv p13], accB 27 (List.length v357) (List.flatMap e27 v357), .dead, .dead, .dead, .dead] (TI.dn ?_)))))))
          exact Rd.again (a2 := (S66_9 r5 r9 v357 v158 v356)) (h2 := (H66_8 p0 p1 p2 p3 p4 p5 p6 p7 p12 p13 v357)) (Wk.anew (base := 0) (L := 0) (f := [0, 1, 2]) (by decide) (by decide) (Nat.le_of_ble_eq_true rfl) rfl (.cons (At.blk (by kernel_rfl) (RnB.lit (.cons (.flat (by kernel_rfl)) (.cons (.flat (by kernel_rfl)) (.cons (.flat (by kernel_rfl)) (.cons (.flat (by kernel_rfl)) (.cons (.flat (by kernel_rfl)) (.cons (.flat (by kernel_rfl)) (.cons (.flat (by kernel_rfl)) (.cons (.flat (by kernel_rfl)) .nil)))))))))) (.cons (At.blk (by kernel_rfl) (RnB.lit (.cons (.flat (by kernel_rfl)) (.cons (.flat (by kernel_rfl)) .nil)))) (.cons (At.acc (by kernel_rfl) rfl (fun _ => rfl)) (.nil _)))) (LRn.stx [3, 5, 8, 9, 10, 11, 12] [pt 0 0, pt 1 0, iv r5, iv r9, accV 2 (List.length v357), iv v158, iv (w64 (v356 + 1))] [pt 0 0, pt 1 0, iv r5, iv r9, accV 2 (List.length v357), iv v158, iv (w64 (v356 + 1))] (.cons (Rn.ptr _ _ _ (Nat.le_of_ble_eq_true rfl) rfl) (.cons (Rn.ptr _ _ _ (Nat.le_of_ble_eq_true rfl) rfl) (.cons (.flat (by kernel_rfl)) (.cons (.flat (by kernel_rfl)) (.cons (Rn.acc (Nat.le_of_ble_eq_true rfl) rfl) (.cons (.flat (by kernel_rfl)) (.cons (.flat (by kernel_rfl)) .nil))))))) (by kernel_rfl) (by kernel_rfl) rfl) rfl rfl) (ih (w64 (v356 + 1)) v357 _ hF)
        · replace hF := of_neg hF hc426
          refine TS.sk (NX.bk (NX.sq (TS.rg (TI.ra 2 [3, 5, 8, 9, 10, 11, 12, 13, 68, 69] (st 100 [(3, pt 0 0), (5, pt 1 0), (8, iv r5), (9, iv r9), (10, accV 2 (List.length v357)), (11, iv v158), (12, iv v356), (13, pt 3 0), (68, ag [iv r410.1.1, iv r410.1.2, iv r410.2.1.1, iv r410.2.1.2, iv r410.2.2.1.1, iv r410.2.2.1.2, iv r410.2.2.2.1.1, iv r410.2.2.2.1.2, iv r410.2.2.2.2.1.1, iv r410.2.2.2.2.1.2, iv r410.2.2.2.2.2.1, iv r410.2.2.2.2.2.2]), (69, iv 3)]) (TI.dn ?_)))))
          refine Rd.again Wk.refl (TL.round (TS.sq (TS.rg (TI.ra 1 [3, 5, 8, 9, 10, 11, 12, 13, 68, 69, 70] (st 100 [(3, pt 0 0), (5, pt 1 0), (8, iv r5), (9, iv r9), (10, accV 2 (List.length v357)), (11, iv v158), (12, iv v356), (13, pt 3 0), (68, ag [iv r410.1.1, iv r410.1.2, iv r410.2.1.1, iv r410.2.1.2, iv r410.2.2.1.1, iv r410.2.2.1.2, iv r410.2.2.2.1.1, iv r410.2.2.2.1.2, iv r410.2.2.2.2.1.1, iv r410.2.2.2.2.1.2, iv r410.2.2.2.2.2.1, iv r410.2.2.2.2.2.2]), (69, iv 3), (70, .bool true)]) (TI.dn (NX.sq (TS.sq (TS.cdT (.tmp 70) (TS.sk ?_)))))))))
          refine NX.sq (TS.sq (TS.bk 5 (TS.sq (TS.rg (TI.rn 3 [3, 5, 8, 9, 10, 11, 12, 13, 15, 68, 69] [0, 1, 2, 3, 7] (st 100 [(3, pt 0 0), (5, pt 1 0), (8, iv r5), (9, iv r9), (10, accV 2 (List.length v357)), (11, iv v158), (12, iv v356), (13, pt 3 0), (15, pt 7 0), (68, ag [iv r410.1.1, iv r410.1.2, iv r410.2.1.1, iv r410.2.1.2, iv r410.2.2.1.1, iv r410.2.2.1.2, iv r410.2.2.2.1.1, iv r410.2.2.2.1.2, iv r410.2.2.2.2.1.1, iv r410.2.2.2.2.1.2, iv r410.2.2.2.2.2.1, iv r410.2.2.2.2.2.2]), (69, iv 3)]) (H66_2 p0 p1 p2 p3 p4 p5 p6 p7 p12 p13 v357 r408 r410) (TI.dn (NX.sq (TS.sq ?_))))))))
          have hX := of_do hF
          clear hF
          obtain ⟨r427, h428, hF⟩ := hX
          have hX := of_do hF
          clear hF
          obtain ⟨r429, h430, hF⟩ := hX
          have hT : ∀ e ∈ ([⟨72, [ag [iv r408.1, iv r408.2], ag [iv r410.2.2.2.1.1, iv r410.2.2.2.1.2]], (H66_2 p0 p1 p2 p3 p4 p5 p6 p7 p12 p13 v357 r408 r410), iv r427, []⟩, ⟨63, [ag [iv r410.2.2.2.1.1, iv r410.2.2.2.1.2]], (H66_2 p0 p1 p2 p3 p4 p5 p6 p7 p12 p13 v357 r408 r410), iv r429, []⟩] : List Entry), PureSim Try.prog e.g e.args e.h e.v e.new := by
            intro e he
            simp only [List.mem_cons, List.not_mem_nil, or_false] at he
            rcases he with rfl | rfl
            · exact PureSim.ak (C72 _ _ _ _ _ h428)
            · exact PureSim.ak (C63 _ _ _ h430)
          refine TS.dp [⟨72, [ag [iv r408.1, iv r408.2], ag [iv r410.2.2.2.1.1, iv r410.2.2.2.1.2]], (H66_2 p0 p1 p2 p3 p4 p5 p6 p7 p12 p13 v357 r408 r410), iv r427, []⟩, ⟨63, [ag [iv r410.2.2.2.1.1, iv r410.2.2.2.1.2]], (H66_2 p0 p1 p2 p3 p4 p5 p6 p7 p12 p13 v357 r408 r410), iv r429, []⟩] hT mixed 6 [3, 5, 8, 9, 10, 11, 12, 13, 68, 69, 78] [0, 1, 2, 3] (st 100 [(3, pt 0 0), (5, pt 1 0), (8, iv r5), (9, iv r9), (10, accV 2 (List.length v357)), (11, iv v158), (12, iv v356), (13, pt 3 0), (68, ag [iv r410.1.1, iv r410.1.2, iv r410.2.1.1, iv r410.2.1.2, iv r410.2.2.1.1, iv r410.2.2.1.2, iv r410.2.2.2.1.1, iv r410.2.2.2.1.2, iv r410.2.2.2.2.1.1, iv r410.2.2.2.2.1.2, iv r410.2.2.2.2.2.1, iv r410.2.2.2.2.2.2]), (69, iv 3), (78, .bool (decide ((w64 (2 * r427)) > r429)))]) [cl 108 [iv p0, iv p1, iv p2, iv p3, iv p4, iv p5, iv p6, iv p7], cl 23 [iv p12, iv p13], accB 27 (List.length v357) (List.flatMap e27 v357), cl 23 [iv r408.1, iv r408.2], .dead, .dead, .dead, .dead] ?_ ?_
          · exact QJ.rn (qs (st 100 [(3, pt 0 0), (5, pt 1 0), (8, iv r5), (9, iv r9), (10, accV 2 (List.length v357)), (11, iv v158), (12, iv v356), (13, pt 3 0), (15, pt 7 0), (68, ag [iv r410.1.1, iv r410.1.2, iv r410.2.1.1, iv r410.2.1.2, iv r410.2.2.1.1, iv r410.2.2.1.2, iv r410.2.2.2.1.1, iv r410.2.2.2.1.2, iv r410.2.2.2.2.1.1, iv r410.2.2.2.2.1.2, iv r410.2.2.2.2.2.1, iv r410.2.2.2.2.2.2]), (69, iv 3), (72, ag [iv r408.1, iv r408.2]), (73, ag [iv r410.2.2.2.1.1, iv r410.2.2.2.1.2])]) (H66_2 p0 p1 p2 p3 p4 p5 p6 p7 p12 p13 v357 r408 r410) [] []) 2 (QJ.o { val := iv r427, new := [] } (qOf_call (g := 72) (args := [ag [iv r408.1, iv r408.2], ag [iv r410.2.2.2.1.1, iv r410.2.2.2.1.2]]) (by kernel_rfl) lookC_hit) (QJ.rn (qs (st 100 [(3, pt 0 0), (5, pt 1 0), (8, iv r5), (9, iv r9), (10, accV 2 (List.length v357)), (11, iv v158), (12, iv v356), (13, pt 3 0), (15, pt 7 0), (68, ag [iv r410.1.1, iv r410.1.2, iv r410.2.1.1, iv r410.2.1.2, iv r410.2.2.1.1, iv r410.2.2.1.2, iv r410.2.2.2.1.1, iv r410.2.2.2.1.2, iv r410.2.2.2.2.1.1, iv r410.2.2.2.2.1.2, iv r410.2.2.2.2.2.1, iv r410.2.2.2.2.2.2]), (69, iv 3), (72, ag [iv r408.1, iv r408.2]), (73, ag [iv r410.2.2.2.1.1, iv r410.2.2.2.1.2]), (74, iv r427), (75, iv (w64 (2 * r427))), (76, ag [iv r410.2.2.2.1.1, iv r410.2.2.2.1.2])]) (H66_2 p0 p1 p2 p3 p4 p5 p6 p7 p12 p13 v357 r408 r410) [] []) 2 (QJ.o { val := iv r429, new := [] } (qOf_call (g := 63) (args := [ag [iv r410.2.2.2.1.1, iv r410.2.2.2.1.2]]) (by kernel_rfl) (lookC_skip (fun hg => absurd (show (72 : Nat) = 63 from hg) (by decide)) lookC_hit)) (QJ.dn ⟨rfl, SJ.la⟩))))
          refine TS.cd (.tmp 78) (decide ((w64 (2 * r427)) > r429)) (fun hc431 => ?_) (fun hc431 => ?_)
          · replace hF := of_pos hF hc431
            refine TS.ex 3 (NX.bkY rfl (NX.sqX ?_))
            refine Rd.out (by simp) (NX.bkY rfl (NX.sqX (NX.bkX (NX.sq (TS.rg (TI.rn 3 [3, 5, 8, 9, 10, 11, 12] [0, 1, 2] (S66_9 r5 r9 v357 v158 v356) [cl 108 [iv p0, iv p1, iv p2, iv p3, iv p4, iv p5, iv p6, iv p7], cl 23 [iv p12, iv p13], accB 27 (List.length v357) (List.flatMap e27 v357), .dead, .dead, .dead, .dead, .dead] (TI.dn ?_)))))))
            exact Rd.again (a2 := (S66_9 r5 r9 v357 v158 v356)) (h2 := (H66_8 p0 p1 p2 p3 p4 p5 p6 p7 p12 p13 v357)) (Wk.anew (base := 0) (L := 0) (f := [0, 1, 2]) (by decide) (by decide) (Nat.le_of_ble_eq_true rfl) rfl (.cons (At.blk (by kernel_rfl) (RnB.lit (.cons (.flat (by kernel_rfl)) (.cons (.flat (by kernel_rfl)) (.cons (.flat (by kernel_rfl)) (.cons (.flat (by kernel_rfl)) (.cons (.flat (by kernel_rfl)) (.cons (.flat (by kernel_rfl)) (.cons (.flat (by kernel_rfl)) (.cons (.flat (by kernel_rfl)) .nil)))))))))) (.cons (At.blk (by kernel_rfl) (RnB.lit (.cons (.flat (by kernel_rfl)) (.cons (.flat (by kernel_rfl)) .nil)))) (.cons (At.acc (by kernel_rfl) rfl (fun _ => rfl)) (.nil _)))) (LRn.stx [3, 5, 8, 9, 10, 11, 12] [pt 0 0, pt 1 0, iv r5, iv r9, accV 2 (List.length v357), iv v158, iv (w64 (v356 + 1))] [pt 0 0, pt 1 0, iv r5, iv r9, accV 2 (List.length v357), iv v158, iv (w64 (v356 + 1))] (.cons (Rn.ptr _ _ _ (Nat.le_of_ble_eq_true rfl) rfl) (.cons (Rn.ptr _ _ _ (Nat.le_of_ble_eq_true rfl) rfl) (.cons (.flat (by kernel_rfl)) (.cons (.flat (by kernel_rfl)) (.cons (Rn.acc (Nat.le_of_ble_eq_true rfl) rfl) (.cons (.flat (by kernel_rfl)) (.cons (.flat (by kernel_rfl)) .nil))))))) (by kernel_rfl) (by kernel_rfl) rfl) rfl rfl) (ih (w64 (v356 + 1)) v357 _ hF)
          · replace hF := of_neg hF hc431
            refine TS.sk (NX.bk (NX.sq (TS.rg (TI.ra 2 [3, 5, 8, 9, 10, 11, 12, 13, 68, 69] (st 100 [(3, pt 0 0), (5, pt 1 0), (8, iv r5), (9, iv r9), (10, accV 2 (List.length v357)), (11, iv v158), (12, iv v356), (13, pt 3 0), (68, ag [iv r410.1.1, iv r410.1.2, iv r410.2.1.1, iv r410.2.1.2, iv r410.2.2.1.1, iv r410.2.2.1.2, iv r410.2.2.2.1.1, iv r410.2.2.2.1.2, iv r410.2.2.2.2.1.1, iv r410.2.2.2.2.1.2, iv r410.2.2.2.2.2.1, iv r410.2.2.2.2.2.2]), (69, iv 4)]) (TI.dn ?_)))))
            refine Rd.again Wk.refl (TL.round (TS.sq (TS.rg (TI.ra 1 [3, 5, 8, 9, 10, 11, 12, 13, 68, 69, 70] (st 100 [(3, pt 0 0), (5, pt 1 0), (8, iv r5), (9, iv r9), (10, accV 2 (List.length v357)), (11, iv v158), (12, iv v356), (13, pt 3 0), (68, ag [iv r410.1.1, iv r410.1.2, iv r410.2.1.1, iv r410.2.1.2, iv r410.2.2.1.1, iv r410.2.2.1.2, iv r410.2.2.2.1.1, iv r410.2.2.2.1.2, iv r410.2.2.2.2.1.1, iv r410.2.2.2.2.1.2, iv r410.2.2.2.2.2.1, iv r410.2.2.2.2.2.2]), (69, iv 4), (70, .bool true)]) (TI.dn (NX.sq (TS.sq (TS.cdT (.tmp 70) (TS.sk ?_)))))))))
            refine NX.sq (TS.sq (TS.bk 5 (TS.sq (TS.rg (TI.rn 3 [3, 5, 8, 9, 10, 11, 12, 13, 15, 68, 69] [0, 1, 2, 3, 8] (st 100 [(3, pt 0 0), (5, pt 1 0), (8, iv r5), (9, iv r9), (10, accV 2 (List.length v357)), (11, iv v158), (12, iv v356), (13, pt 3 0), (15, pt 8 0), (68, ag [iv r410.1.1, iv r410.1.2, iv r410.2.1.1, iv r410.2.1.2, iv r410.2.2.1.1, iv r410.2.2.1.2, iv r410.2.2.2.1.1, iv r410.2.2.2.1.2, iv r410.2.2.2.2.1.1, iv r410.2.2.2.2.1.2, iv r410.2.2.2.2.2.1, iv r410.2.2.2.2.2.2]), (69, iv 4)]) (H66_1 p0 p1 p2 p3 p4 p5 p6 p7 p12 p13 v357 r408 r410) (TI.dn (NX.sq (TS.sq ?_))))))))
            have hX := of_do hF
            clear hF
            obtain ⟨r432, h433, hF⟩ := hX
            have hX := of_do hF
            clear hF
            obtain ⟨r434, h435, hF⟩ := hX
            have hT : ∀ e ∈ ([⟨72, [ag [iv r408.1, iv r408.2], ag [iv r410.2.2.2.2.1.1, iv r410.2.2.2.2.1.2]], (H66_1 p0 p1 p2 p3 p4 p5 p6 p7 p12 p13 v357 r408 r410), iv r432, []⟩, ⟨63, [ag [iv r410.2.2.2.2.1.1, iv r410.2.2.2.2.1.2]], (H66_1 p0 p1 p2 p3 p4 p5 p6 p7 p12 p13 v357 r408 r410), iv r434, []⟩] : List Entry), PureSim Try.prog e.g e.args e.h e.v e.new := by
              intro e he
              simp only [List.mem_cons, List.not_mem_nil, or_false] at he
              rcases he with rfl | rfl
              · exact PureSim.ak (C72 _ _ _ _ _ h433)
              · exact PureSim.ak (C63 _ _ _ h435)
            refine TS.dp [⟨72, [ag [iv r408.1, iv r408.2], ag [iv r410.2.2.2.2.1.1, iv r410.2.2.2.2.1.2]], (H66_1 p0 p1 p2 p3 p4 p5 p6 p7 p12 p13 v357 r408 r410), iv r432, []⟩, ⟨63, [ag [iv r410.2.2.2.2.1.1, iv r410.2.2.2.2.1.2]], (H66_1 p0 p1 p2 p3 p4 p5 p6 p7 p12 p13 v357 r408 r410), iv r434, []⟩] hT mixed 6 [3, 5, 8, 9, 10, 11, 12, 13, 68, 69, 78] [0, 1, 2, 3] (st 100 [(3, pt 0 0), (5, pt 1 0), (8, iv r5), (9, iv r9), (10, accV 2 (List.length v357)), (11, iv v158), (12, iv v356), (13, pt 3 0), (68, ag [iv r410.1.1, iv r410.1.2, iv r410.2.1.1, iv r410.2.1.2, iv r410.2.2.1.1, iv r410.2.2.1.2, iv r410.2.2.2.1.1, iv r410.2.2.2.1.2, iv r410.2.2.2.2.1.1, iv r410.2.2.2.2.1.2, iv r410.2.2.2.2.2.1, iv r410.2.2.2.2.2.2]), (69, iv 4), (78, .bool (decide ((w64 (2 * r432)) > r434)))]) [cl 108 [iv p0, iv p1, iv p2, iv p3, iv p4, iv p5, iv p6, iv p7], cl 23 [iv p12, iv p13], accB 27 (List.length v357) (List.flatMap e27 v357), cl 23 [iv r408.1, iv r408.2], .dead, .dead, .dead, .dead, .dead] ?_ ?_
            · exact QJ.rn (qs (st 100 [(3, pt 0 0), (5, pt 1 0), (8, iv r5), (9, iv r9), (10, accV 2 (List.length v357)), (11, iv v158), (12, iv v356), (13, pt 3 0), (15, pt 8 0), (68, ag [iv r410.1.1, iv r410.1.2, iv r410.2.1.1, iv r410.2.1.2, iv r410.2.2.1.1, iv r410.2.2.1.2, iv r410.2.2.2.1.1, iv r410.2.2.2.1.2, iv r410.2.2.2.2.1.1, iv r410.2.2.2.2.1.2, iv r410.2.2.2.2.2.1, iv r410.2.2.2.2.2.2]), (69, iv 4), (72, ag [iv r408.1, iv r408.2]), (73, ag [iv r410.2.2.2.2.1.1, iv r410.2.2.2.2.1.2])]) (H66_1 p0 p1 p2 p3 p4 p5 p6 p7 p12 p13 v357 r408 r410) [] []) 2 (QJ.o { val := iv r432, new := [] } (qOf_call (g := 72) (args := [ag [iv r408.1, iv r408.2], ag [iv r410.2.2.2.2.1.1, iv r410.2.2.2.2.1.2]]) (by kernel_rfl) lookC_hit) (QJ.rn (qs (st 100 [(3, pt 0 0), (5, pt 1 0), (8, iv r5), (9, iv r9), (10, accV 2 (List.length v357)), (11, iv v158), (12, iv v356), (13, pt 3 0), (15, pt 8 0), (68, ag [iv r410.1.1, iv r410.1.2, iv r410.2.1.1, iv r410.2.1.2, iv r410.2.2.1.1, iv r410.2.2.1.2, iv r410.2.2.2.1.1, iv r410.2.2.2.1.2, iv r410.2.2.2.2.1.1, iv r410.2.2.2.2.1.2, iv r410.2.2.2.2.2.1, iv r410.2.2.2.2.2.2]), (69, iv 4), (72, ag [iv r408.1, iv r408.2]), (73, ag [iv r410.2.2.2.2.1.1, iv r410.2.2.2.2.1.2]), (74, iv r432), (75, iv (w64 (2 * r432))), (76, ag [iv r410.2.2.2.2.1.1, iv r410.2.2.2.2.1.2])]) (H66_1 p0 p1 p2 p3 p4 p5 p6 p7 p12 p13 v357 r408 r410) [] []) 2 (QJ.o { val := iv r434, new := [] } (qOf_call (g := 63) (args := [ag [iv r410.2.2.2.2.1.1, iv r410.2.2.2.2.1.2]]) (by kernel_rfl) (lookC_skip (fun hg => absurd (show (72 : Nat) = 63 from hg) (by decide)) lookC_hit)) (QJ.dn ⟨rfl, SJ.la⟩))))
            refine TS.cd (.tmp 78) (decide ((w64 (2 * r432)) > r434)) (fun hc436 => ?_) (fun hc436 => ?_)
            · replace hF := of_pos hF hc436
              refine TS.ex 3 (NX.bkY rfl (NX.sqX ?_))
              refine Rd.out (by simp) (NX.bkY rfl (NX.sqX (NX.bkX (NX.sq (TS.rg (TI.rn 3 [3, 5, 8, 9, 10, 11, 12] [0, 1, 2] (S66_9 r5 r9 v357 v158 v356) [cl 108 [iv p0, iv p1, iv p2, iv p3, iv p4, iv p5, iv p6, iv p7], cl 23 [iv p12, iv p13], accB 27 (List.length v357) (List.flatMap e27 v357), .dead, .dead, .dead, .dead, .dead, .dead] (TI.dn ?_)))))))
              exact Rd.again (a2 := (S66_9 r5 r9 v357 v158 v356)) (h2 := (H66_8 p0 p1 p2 p3 p4 p5 p6 p7 p12 p13 v357)) (Wk.anew (base := 0) (L := 0) (f := [0, 1, 2]) (by decide) (by decide) (Nat.le_of_ble_eq_true rfl) rfl (.cons (At.blk (by kernel_rfl) (RnB.lit (.cons (.flat (by kernel_rfl)) (.cons (.flat (by kernel_rfl)) (.cons (.flat (by kernel_rfl)) (.cons (.flat (by kernel_rfl)) (.cons (.flat (by kernel_rfl)) (.cons (.flat (by kernel_rfl)) (.cons (.flat (by kernel_rfl)) (.cons (.flat (by kernel_rfl)) .nil)))))))))) (.cons (At.blk (by kernel_rfl) (RnB.lit (.cons (.flat (by kernel_rfl)) (.cons (.flat (by kernel_rfl)) .nil)))) (.cons (At.acc (by kernel_rfl) rfl (fun _ => rfl)) (.nil _)))) (LRn.stx [3, 5, 8, 9, 10, 11, 12] [pt 0 0, pt 1 0, iv r5, iv r9, accV 2 (List.length v357), iv v158, iv (w64 (v356 + 1))] [pt 0 0, pt 1 0, iv r5, iv r9, accV 2 (List.length v357), iv v158, iv (w64 (v356 + 1))] (.cons (Rn.ptr _ _ _ (Nat.le_of_ble_eq_true rfl) rfl) (.cons (Rn.ptr _ _ _ (Nat.le_of_ble_eq_true rfl) rfl) (.cons (.flat (by kernel_rfl)) (.cons (.flat (by kernel_rfl)) (.cons (Rn.acc (Nat.le_of_ble_eq_true rfl) rfl) (.cons (.flat (by kernel_rfl)) (.cons (.flat (by kernel_rfl)) .nil))))))) (by kernel_rfl) (by kernel_rfl) rfl) rfl rfl) (ih (w64 (v356 + 1)) v357 _ hF)
            · replace hF := of_neg hF hc436
              refine TS.sk (NX.bk (NX.sq (TS.rg (TI.ra 2 [3, 5, 8, 9, 10, 11, 12, 13, 68, 69] (st 100 [(3, pt 0 0), (5, pt 1 0), (8, iv r5), (9, iv r9), (10, accV 2 (List.length v357)), (11, iv v158), (12, iv v356), (13, pt 3 0), (68, ag [iv r410.1.1, iv r410.1.2, iv r410.2.1.1, iv r410.2.1.2, iv r410.2.2.1.1, iv r410.2.2.1.2, iv r410.2.2.2.1.1, iv r410.2.2.2.1.2, iv r410.2.2.2.2.1.1, iv r410.2.2.2.2.1.2, iv r410.2.2.2.2.2.1, iv r410.2.2.2.2.2.2]), (69, iv 5)]) (TI.dn ?_)))))
              refine Rd.again Wk.refl (TL.round (TS.sq (TS.rg (TI.ra 1 [3, 5, 8, 9, 10, 11, 12, 13, 68, 69, 70] (st 100 [(3, pt 0 0), (5, pt 1 0), (8, iv r5), (9, iv r9), (10, accV 2 (List.length v357)), (11, iv v158), (12, iv v356), (13, pt 3 0), (68, ag [iv r410.1.1, iv r410.1.2, iv r410.2.1.1, iv r410.2.1.2, iv r410.2.2.1.1, iv r410.2.2.1.2, iv r410.2.2.2.1.1, iv r410.2.2.2.1.2, iv r410.2.2.2.2.1.1, iv r410.2.2.2.2.1.2, iv r410.2.2.2.2.2.1, iv r410.2.2.2.2.2.2]), (69, iv 5), (70, .bool true)]) (TI.dn (NX.sq (TS.sq (TS.cdT (.tmp 70) (TS.sk ?_)))))))))
              refine NX.sq (TS.sq (TS.bk 5 (TS.sq (TS.rg (TI.rn 3 [3, 5, 8, 9, 10, 11, 12, 13, 15, 68, 69] [0, 1, 2, 3, 9] (st 100 [(3, pt 0 0), (5, pt 1 0), (8, iv r5), (9, iv r9), (10, accV 2 (List.length v357)), (11, iv v158), (12, iv v356), (13, pt 3 0), (15, pt 9 0), (68, ag [iv r410.1.1, iv r410.1.2, iv r410.2.1.1, iv r410.2.1.2, iv r410.2.2.1.1, iv r410.2.2.1.2, iv r410.2.2.2.1.1, iv r410.2.2.2.1.2, iv r410.2.2.2.2.1.1, iv r410.2.2.2.2.1.2, iv r410.2.2.2.2.2.1, iv r410.2.2.2.2.2.2]), (69, iv 5)]) (H66_0 p0 p1 p2 p3 p4 p5 p6 p7 p12 p13 v357 r408 r410) (TI.dn (NX.sq (TS.sq ?_))))))))
              have hX := of_do hF
              clear hF
              obtain ⟨r437, h438, hF⟩ := hX
              have hX := of_do hF
              clear hF
              obtain ⟨r439, h440, hF⟩ := hX
              have hT : ∀ e ∈ ([⟨72, [ag [iv r408.1, iv r408.2], ag [iv r410.2.2.2.2.2.1, iv r410.2.2.2.2.2.2]], (H66_0 p0 p1 p2 p3 p4 p5 p6 p7 p12 p13 v357 r408 r410), iv r437, []⟩, ⟨63, [ag [iv r410.2.2.2.2.2.1, iv r410.2.2.2.2.2.2]], (H66_0 p0 p1 p2 p3 p4 p5 p6 p7 p12 p13 v357 r408 r410), iv r439, []⟩] : List Entry), PureSim Try.prog e.g e.args e.h e.v e.new := by
                intro e he
                simp only [List.mem_cons, List.not_mem_nil, or_false] at he
                rcases he with rfl | rfl
                · exact PureSim.ak (C72 _ _ _ _ _ h438)
                · exact PureSim.ak (C63 _ _ _ h440)
              refine TS.dp [⟨72, [ag [iv r408.1, iv r408.2], ag [iv r410.2.2.2.2.2.1, iv r410.2.2.2.2.2.2]], (H66_0 p0 p1 p2 p3 p4 p5 p6 p7 p12 p13 v357 r408 r410), iv r437, []⟩, ⟨63, [ag [iv r410.2.2.2.2.2.1, iv r410.2.2.2.2.2.2]], (H66_0 p0 p1 p2 p3 p4 p5 p6 p7 p12 p13 v357 r408 r410), iv r439, []⟩] hT mixed 6 [3, 5, 8, 9, 10, 11, 12, 13, 68, 69, 78] [0, 1, 2, 3] (st 100 [(3, pt 0 0), (5, pt 1 0), (8, iv r5), (9, iv r9), (10, accV 2 (List.length v357)), (11, iv v158), (12, iv v356), (13, pt 3 0), (68, ag [iv r410.1.1, iv r410.1.2, iv r410.2.1.1, iv r410.2.1.2, iv r410.2.2.1.1, iv r410.2.2.1.2, iv r410.2.2.2.1.1, iv r410.2.2.2.1.2, iv r410.2.2.2.2.1.1, iv r410.2.2.2.2.1.2, iv r410.2.2.2.2.2.1, iv r410.2.2.2.2.2.2]), (69, iv 5), (78, .bool (decide ((w64 (2 * r437)) > r439)))]) (H66_5 p0 p1 p2 p3 p4 p5 p6 p7 p12 p13 v357 r408) ?_ ?_
              · exact QJ.rn (qs (st 100 [(3, pt 0 0), (5, pt 1 0), (8, iv r5), (9, iv r9), (10, accV 2 (List.length v357)), (11, iv v158), (12, iv v356), (13, pt 3 0), (15, pt 9 0), (68, ag [iv r410.1.1, iv r410.1.2, iv r410.2.1.1, iv r410.2.1.2, iv r410.2.2.1.1, iv r410.2.2.1.2, iv r410.2.2.2.1.1, iv r410.2.2.2.1.2, iv r410.2.2.2.2.1.1, iv r410.2.2.2.2.1.2, iv r410.2.2.2.2.2.1, iv r410.2.2.2.2.2.2]), (69, iv 5), (72, ag [iv r408.1, iv r408.2]), (73, ag [iv r410.2.2.2.2.2.1, iv r410.2.2.2.2.2.2])]) (H66_0 p0 p1 p2 p3 p4 p5 p6 p7 p12 p13 v357 r408 r410) [] []) 2 (QJ.o { val := iv r437, new := [] } (qOf_call (g := 72) (args := [ag [iv r408.1, iv r408.2], ag [iv r410.2.2.2.2.2.1, iv r410.2.2.2.2.2.2]]) (by kernel_rfl) lookC_hit) (QJ.rn (qs (st 100 [(3, pt 0 0), (5, pt 1 0), (8, iv r5), (9, iv r9), (10, accV 2 (List.length v357)), (11, iv v158), (12, iv v356), (13, pt 3 0), (15, pt 9 0), (68, ag [iv r410.1.1, iv r410.1.2, iv r410.2.1.1, iv r410.2.1.2, iv r410.2.2.1.1, iv r410.2.2.1.2, iv r410.2.2.2.1.1, iv r410.2.2.2.1.2, iv r410.2.2.2.2.1.1, iv r410.2.2.2.2.1.2, iv r410.2.2.2.2.2.1, iv r410.2.2.2.2.2.2]), (69, iv 5), (72, ag [iv r408.1, iv r408.2]), (73, ag [iv r410.2.2.2.2.2.1, iv r410.2.2.2.2.2.2]), (74, iv r437), (75, iv (w64 (2 * r437))), (76, ag [iv r410.2.2.2.2.2.1, iv r410.2.2.2.2.2.2])]) (H66_0 p0 p1 p2 p3 p4 p5 p6 p7 p12 p13 v357 r408 r410) [] []) 2 (QJ.o { val := iv r439, new := [] } (qOf_call (g := 63) (args := [ag [iv r410.2.2.2.2.2.1, iv r410.2.2.2.2.2.2]]) (by kernel_rfl) (lookC_skip (fun hg => absurd (show (72 : Nat) = 63 from hg) (by decide)) lookC_hit)) (QJ.dn ⟨rfl, SJ.la⟩))))
              refine TS.cd (.tmp 78) (decide ((w64 (2 * r437)) > r439)) (fun hc441 => ?_) (fun hc441 => ?_)
              · replace hF := of_pos hF hc441
                refine TS.ex 3 (NX.bkY rfl (NX.sqX ?_))
                refine Rd.out (by simp) (NX.bkY rfl (NX.sqX (NX.bkX (NX.sq (TS.rg (TI.rn 3 [3, 5, 8, 9, 10, 11, 12] [0, 1, 2] (S66_9 r5 r9 v357 v158 v356) [cl 108 [iv p0, iv p1, iv p2, iv p3, iv p4, iv p5, iv p6, iv p7], cl 23 [iv p12, iv p13], accB 27 (List.length v357) (List.flatMap e27 v357), .dead, .dead, .dead, .dead, .dead, .dead, .dead] (TI.dn ?_)))))))
                exact Rd.again (a2 := (S66_9 r5 r9 v357 v158 v356)) (h2 := (H66_8 p0 p1 p2 p3 p4 p5 p6 p7 p12 p13 v357)) (Wk.anew (base := 0) (L := 0) (f := [0, 1, 2]) (by decide) (by decide) (Nat.le_of_ble_eq_true rfl) rfl (.cons (At.blk (by kernel_rfl) (RnB.lit (.cons (.flat (by kernel_rfl)) (.cons (.flat (by kernel_rfl)) (.cons (.flat (by kernel_rfl)) (.cons (.flat (by kernel_rfl)) (.cons (.flat (by kernel_rfl)) (.cons (.flat (by kernel_rfl)) (.cons (.flat (by kernel_rfl)) (.cons (.flat (by kernel_rfl)) .nil)))))))))) (.cons (At.blk (by kernel_rfl) (RnB.lit (.cons (.flat (by kernel_rfl)) (.cons (.flat (by kernel_rfl)) .nil)))) (.cons (At.acc (by kernel_rfl) rfl (fun _ => rfl)) (.nil _)))) (LRn.stx [3, 5, 8, 9, 10, 11, 12] [pt 0 0, pt 1 0, iv r5, iv r9, accV 2 (List.length v357), iv v158, iv (w64 (v356 + 1))] [pt 0 0, pt 1 0, iv r5, iv r9, accV 2 (List.length v357), iv v158, iv (w64 (v356 + 1))] (.cons (Rn.ptr _ _ _ (Nat.le_of_ble_eq_true rfl) rfl) (.cons (Rn.ptr _ _ _ (Nat.le_of_ble_eq_true rfl) rfl) (.cons (.flat (by kernel_rfl)) (.cons (.flat (by kernel_rfl)) (.cons (Rn.acc (Nat.le_of_ble_eq_true rfl) rfl) (.cons (.flat (by kernel_rfl)) (.cons (.flat (by kernel_rfl)) .nil))))))) (by kernel_rfl) (by kernel_rfl) rfl) rfl rfl) (ih (w64 (v356 + 1)) v357 _ hF)
              · replace hF := of_neg hF hc441
                refine TS.sk (NX.bk (NX.sq (TS.rg (TI.ra 2 [3, 5, 8, 9, 10, 11, 12, 13, 68, 69] (st 100 [(3, pt 0 0), (5, pt 1 0), (8, iv r5), (9, iv r9), (10, accV 2 (List.length v357)), (11, iv v158), (12, iv v356), (13, pt 3 0), (68, ag [iv r410.1.1, iv r410.1.2, iv r410.2.1.1, iv r410.2.1.2, iv r410.2.2.1.1, iv r410.2.2.1.2, iv r410.2.2.2.1.1, iv r410.2.2.2.1.2, iv r410.2.2.2.2.1.1, iv r410.2.2.2.2.1.2, iv r410.2.2.2.2.2.1, iv r410.2.2.2.2.2.2]), (69, iv 6)]) (TI.dn ?_)))))
                refine Rd.again Wk.refl (TL.round (TS.sq (TS.rg (TI.ra 1 [3, 5, 8, 9, 10, 11, 12, 13, 68, 69, 70] (st 100 [(3, pt 0 0), (5, pt 1 0), (8, iv r5), (9, iv r9), (10, accV 2 (List.length v357)), (11, iv v158), (12, iv v356), (13, pt 3 0), (68, ag [iv r410.1.1, iv r410.1.2, iv r410.2.1.1, iv r410.2.1.2, iv r410.2.2.1.1, iv r410.2.2.1.2, iv r410.2.2.2.1.1, iv r410.2.2.2.1.2, iv r410.2.2.2.2.1.1, iv r410.2.2.2.2.1.2, iv r410.2.2.2.2.2.1, iv r410.2.2.2.2.2.2]), (69, iv 6), (70, .bool false)]) (TI.dn (NX.sq (TS.sq (TS.cdF (.tmp 70) (TS.ex 4 ?_)))))))))
                refine NX.sqX ?_
                refine Rd.out (by simp) (NX.bkX (NX.sq (TS.sq ?_)))
                have hX := of_do hF
                clear hF
                obtain ⟨r442, h443, hF⟩ := hX
                have hX := of_do hF
                clear hF
                obtain ⟨r444, h445, hF⟩ := hX
                have hT : ∀ e ∈ ([⟨78, [ag [iv 0, iv 0], iv v158, ag [iv p4, iv p5]], (H66_5 p0 p1 p2 p3 p4 p5 p6 p7 p12 p13 v357 r408), ag [iv r442.1, iv r442.2], []⟩, ⟨78, [ag [iv r442.1, iv r442.2], iv v356, ag [iv p6, iv p7]], (H66_5 p0 p1 p2 p3 p4 p5 p6 p7 p12 p13 v357 r408), ag [iv r444.1, iv r444.2], []⟩] : List Entry), PureSim Try.prog e.g e.args e.h e.v e.new := by
                  intro e he
                  simp only [List.mem_cons, List.not_mem_nil, or_false] at he
                  rcases he with rfl | rfl
                  · exact PureSim.ak (C78 _ _ _ _ _ _ h443)
                  · exact PureSim.ak (C78 _ _ _ _ _ _ h445)
                refine TS.dp [⟨78, [ag [iv 0, iv 0], iv v158, ag [iv p4, iv p5]], (H66_5 p0 p1 p2 p3 p4 p5 p6 p7 p12 p13 v357 r408), ag [iv r442.1, iv r442.2], []⟩, ⟨78, [ag [iv r442.1, iv r442.2], iv v356, ag [iv p6, iv p7]], (H66_5 p0 p1 p2 p3 p4 p5 p6 p7 p12 p13 v357 r408), ag [iv r444.1, iv r444.2], []⟩] hT mixed 10 [3, 5, 8, 9, 10, 11, 12, 16] [0, 1, 2, 10] (st 100 [(3, pt 0 0), (5, pt 1 0), (8, iv r5), (9, iv r9), (10, accV 2 (List.length v357)), (11, iv v158), (12, iv v356), (16, pt 10 0)]) [cl 108 [iv p0, iv p1, iv p2, iv p3, iv p4, iv p5, iv p6, iv p7], cl 23 [iv p12, iv p13], accB 27 (List.length v357) (List.flatMap e27 v357), .dead, .dead, .dead, .dead, .dead, .dead, .dead, cl 27 [iv r444.1, iv r444.2]] ?_ ?_
                · refine QJ.rn (qs (st 100 [(3, pt 0 0), (5, pt 1 0), (8, iv r5), (9, iv r9), (10, accV 2 (List.length v357)), (11, iv v158), (12, iv v356), (13, pt 3 0), (68, ag [iv r410.1.1, iv r410.1.2, iv r410.2.1.1, iv r410.2.1.2, iv r410.2.2.1.1, iv r410.2.2.1.2, iv r410.2.2.2.1.1, iv r410.2.2.2.1.2, iv r410.2.2.2.2.1.1, iv r410.2.2.2.2.1.2, iv r410.2.2.2.2.2.1, iv r410.2.2.2.2.2.2]), (69, iv 6), (70, .bool false), (80, ag [iv 0, iv 0]), (81, iv v158), (82, pt 0 4), (83, ag [iv p4, iv p5])]) (H66_5 p0 p1 p2 p3 p4 p5 p6 p7 p12 p13 v357 r408) [] []) 4 (QJ.o { val := ag [iv r442.1, iv r442.2], new := [] } (qOf_call (g := 78) (args := [ag [iv 0, iv 0], iv v158, ag [iv p4, iv p5]]) (by kernel_rfl) lookC_hit) (QJ.rn (qs (st 100 [(3, pt 0 0), (5, pt 1 0), (8, iv r5), (9, iv r9), (10, accV 2 (List.length v357)), (11, iv v158), (12, iv v356), (13, pt 3 0), (68, ag [iv r410.1.1, iv r410.1.2, iv r410.2.1.1, iv r410.2.1.2, iv r410.2.2.1.1, iv r410.2.2.1.2, iv r410.2.2.2.1.1, iv r410.2.2.2.1.2, iv r410.2.2.2.2.1.1, iv r410.2.2.2.2.1.2, iv r410.2.2.2.2.2.1, iv r410.2.2.2.2.2.2]), (69, iv 6), (70, .bool false), (80, ag [iv 0, iv 0]), (81, iv v158), (82, pt 0 4), (83, ag [iv p4, iv p5]), (84, ag [iv r442.1, iv r442.2]), (85, iv v356), (86, pt 0 6), (87, ag [iv p6, iv p7])]) (H66_5 p0 p1 p2 p3 p4 p5 p6 p7 p12 p13 v357 r408) [] []) 3 ?_))
                  exact QJ.o { val := ag [iv r444.1, iv r444.2], new := [] } (qOf_call (g := 78) (args := [ag [iv r442.1, iv r442.2], iv v356, ag [iv p6, iv p7]]) (by kernel_rfl) (lookC_skip (by intro _ ha _; have hr := Option.some.inj (h443.symm.trans (Eq.trans (congr (congr (congr (congr (congrArg F78 (show 0 = r442.1 from congrArg (leafI 0) ha)) (show 0 = r442.2 from congrArg (leafI 1) ha)) (show v158 = v356 from congrArg (leafI 2) ha)) (show p4 = p6 from congrArg (leafI 3) ha)) (show p5 = p7 from congrArg (leafI 4) ha)) h445)); first | (subst hr; rfl) | (cases hr; done) | (cases hr; rfl)) lookC_hit)) (QJ.rn (qs (st 100 [(3, pt 0 0), (5, pt 1 0), (8, iv r5), (9, iv r9), (10, accV 2 (List.length v357)), (11, iv v158), (12, iv v356), (13, pt 3 0), (16, pt 10 0), (68, ag [iv r410.1.1, iv r410.1.2, iv r410.2.1.1, iv r410.2.1.2, iv r410.2.2.1.1, iv r410.2.2.1.2, iv r410.2.2.2.1.1, iv r410.2.2.2.1.2, iv r410.2.2.2.2.1.1, iv r410.2.2.2.2.1.2, iv r410.2.2.2.2.2.1, iv r410.2.2.2.2.2.2]), (69, iv 6), (70, .bool false), (80, ag [iv 0, iv 0]), (81, iv v158), (82, pt 0 4), (83, ag [iv p4, iv p5]), (84, ag [iv r442.1, iv r442.2]), (85, iv v356), (86, pt 0 6), (87, ag [iv p6, iv p7]), (88, ag [iv r444.1, iv r444.2])]) [cl 108 [iv p0, iv p1, iv p2, iv p3, iv p4, iv p5, iv p6, iv p7], cl 23 [iv p12, iv p13], accB 27 (List.length v357) (List.flatMap e27 v357), cl 23 [iv r408.1, iv r408.2], .dead, .dead, .dead, .dead, .dead, .dead, cl 27 [iv 0, iv 0]] [(9, 10, 11)] []) 1 (QJ.dn ⟨rfl, SJ.la⟩))
                refine TS.sq ?_
                have hX := of_do hF
                clear hF
                obtain ⟨r446, h447, hF⟩ := hX
                have hX := of_do hF
                clear hF
                obtain ⟨m448, hm454, hF⟩ := hX
                have hK : NX Try.prog 0 0 [.sq c66.s2.s2.s2.s2.s1.s2.bd.bd.s2.s1.bd.bd.s2.s2.bd.bd.s2.s1.bd.s2.s2.s2.s2, .bk 3, .sq c66.s2.s2.s2.s2.s1.s2.bd.bd.s2.s1.bd.bd.s2.s2.bd.bd.s2.s2] (Rd Try.prog 0 0 c66.s2.s2.s2.s2.s1.s2.bd.bd.s2.s1.bd.bd.s2.s2.bd.bd (P66l1 p0 p1 p2 p3 p4 p5 p6 p7 p12 p13 r5 r9 v158 r)) .normal (st 100 [(3, pt 0 0), (5, pt 1 0), (8, iv r5), (9, iv r9), (10, accV 2 (List.length v357)), (11, iv v158), (12, iv v356), (16, pt 10 0), (92, .bool m448)]) [cl 108 [iv p0, iv p1, iv p2, iv p3, iv p4, iv p5, iv p6, iv p7], cl 23 [iv p12, iv p13], accB 27 (List.length v357) (List.flatMap e27 v357), .dead, .dead, .dead, .dead, .dead, .dead, .dead, cl 27 [iv r444.1, iv r444.2]] := by
                  refine NX.sq ?_
                  have hX := of_do hF
                  clear hF
                  obtain ⟨m451, hm452, hF⟩ := hX
                  have hK : NX Try.prog 0 0 [.bk 3, .sq c66.s2.s2.s2.s2.s1.s2.bd.bd.s2.s1.bd.bd.s2.s2.bd.bd.s2.s2] (Rd Try.prog 0 0 c66.s2.s2.s2.s2.s1.s2.bd.bd.s2.s1.bd.bd.s2.s2.bd.bd (P66l1 p0 p1 p2 p3 p4 p5 p6 p7 p12 p13 r5 r9 v158 r)) .normal (st 100 [(3, pt 0 0), (5, pt 1 0), (8, iv r5), (9, iv r9), (10, accV 2 (List.length m451)), (11, iv v158), (12, iv v356)]) [cl 108 [iv p0, iv p1, iv p2, iv p3, iv p4, iv p5, iv p6, iv p7], cl 23 [iv p12, iv p13], accB 27 (List.length m451) (List.flatMap e27 m451)] := by
                    refine NX.bk (NX.sq (TS.rg (TI.ra 3 [3, 5, 8, 9, 10, 11, 12] (st 100 [(3, pt 0 0), (5, pt 1 0), (8, iv r5), (9, iv r9), (10, accV 2 (List.length m451)), (11, iv v158), (12, iv (w64 (v356 + 1)))]) (TI.dn ?_))))
                    exact Rd.again (a2 := (st 100 [(3, pt 0 0), (5, pt 1 0), (8, iv r5), (9, iv r9), (10, accV 2 (List.length m451)), (11, iv v158), (12, iv (w64 (v356 + 1)))])) (h2 := [cl 108 [iv p0, iv p1, iv p2, iv p3, iv p4, iv p5, iv p6, iv p7], cl 23 [iv p12, iv p13], accB 27 (List.length m451) (List.flatMap e27 m451)]) (Wk.anew (base := 0) (L := 0) (f := [0, 1, 2]) (by decide) (by decide) (Nat.le_of_ble_eq_true rfl) rfl (.cons (At.blk (by kernel_rfl) (RnB.lit (.cons (.flat (by kernel_rfl)) (.cons (.flat (by kernel_rfl)) (.cons (.flat (by kernel_rfl)) (.cons (.flat (by kernel_rfl)) (.cons (.flat (by kernel_rfl)) (.cons (.flat (by kernel_rfl)) (.cons (.flat (by kernel_rfl)) (.cons (.flat (by kernel_rfl)) .nil)))))))))) (.cons (At.blk (by kernel_rfl) (RnB.lit (.cons (.flat (by kernel_rfl)) (.cons (.flat (by kernel_rfl)) .nil)))) (.cons (At.acc (by kernel_rfl) rfl (fun _ => rfl)) (.nil _)))) (LRn.stx [3, 5, 8, 9, 10, 11, 12] [pt 0 0, pt 1 0, iv r5, iv r9, accV 2 (List.length m451), iv v158, iv (w64 (v356 + 1))] [pt 0 0, pt 1 0, iv r5, iv r9, accV 2 (List.length m451), iv v158, iv (w64 (v356 + 1))] (.cons (Rn.ptr _ _ _ (Nat.le_of_ble_eq_true rfl) rfl) (.cons (Rn.ptr _ _ _ (Nat.le_of_ble_eq_true rfl) rfl) (.cons (.flat (by kernel_rfl)) (.cons (.flat (by kernel_rfl)) (.cons (Rn.acc (Nat.le_of_ble_eq_true rfl) rfl) (.cons (.flat (by kernel_rfl)) (.cons (.flat (by kernel_rfl)) .nil))))))) (by kernel_rfl) (by kernel_rfl) rfl) rfl rfl) (ih (w64 (v356 + 1)) m451 _ hF)
                  clear hF
                  have hF := hm452
                  clear hm452
                  refine TS.start ?_
                  cases m448 with
                  | true =>
                    replace hF := of_pos hF rfl
                    refine TS.cdT (.tmp 92) ?_
                    have hX := of_guard hF
                    clear hF
                    obtain ⟨hg453, hF⟩ := hX
                    refine TS.rg (TI.rn 3 [3, 5, 8, 9, 11, 12, 93, 95] [0, 1, 2, 11] (st 100 [(3, pt 0 0), (5, pt 1 0), (8, iv r5), (9, iv r9), (11, iv v158), (12, iv v356), (93, accV 2 (List.length v357)), (95, .slice (some ⟨11, 0, none⟩) 1 1)]) [cl 108 [iv p0, iv p1, iv p2, iv p3, iv p4, iv p5, iv p6, iv p7], cl 23 [iv p12, iv p13], accB 27 (List.length v357) (List.flatMap e27 v357), .dead, .dead, .dead, .dead, .dead, .dead, .dead, .dead, cl 27 [iv r444.1, iv r444.2]] (TI.acc (l := v357) (b := 2) (ts := #[60, 60]) (e := 27) (bytes := 16) (z := ag [iv 0, iv 0]) (y := .slice (some ⟨11, 0, none⟩) 1 1) (ys := [(r444.1, r444.2)]) (xs := List.flatMap e27 ([(r444.1, r444.2)])) (m := 1) (s := 2) (enc := e27) (by kernel_rfl) (by kernel_rfl) (by decide) (by kernel_rfl) (by kernel_rfl) (by kernel_rfl) (by kernel_rfl) (by kernel_rfl) (by kernel_rfl) (by kernel_rfl) (by kernel_rfl) (fun _ => rfl) rfl rfl (by omega) [3, 5, 8, 9, 11, 12, 96] [0, 1, 12] (a2 := (st 100 [(3, pt 0 0), (5, pt 1 0), (8, iv r5), (9, iv r9), (11, iv v158), (12, iv v356), (96, .slice (some ⟨12, 0, none⟩) (List.length (v357 ++ [(r444.1, r444.2)])) UNK)])) (h2 := [cl 108 [iv p0, iv p1, iv p2, iv p3, iv p4, iv p5, iv p6, iv p7], cl 23 [iv p12, iv p13], .dead, .dead, .dead, .dead, .dead, .dead, .dead, .dead, .dead, .dead, .cells 27 (List.flatMap e27 (v357 ++ [(r444.1, r444.2)]))]) (by kernel_rfl) (TI.ra 1 [3, 5, 8, 9, 10, 11, 12] (st 100 [(3, pt 0 0), (5, pt 1 0), (8, iv r5), (9, iv r9), (10, .slice (some ⟨12, 0, none⟩) (List.length (v357 ++ [(r444.1, r444.2)])) UNK), (11, iv v158), (12, iv v356)]) (TI.dn ?_))))
                    have hF := Option.some.inj hF
                    subst hF
                    exact TS.weak (Wk.anew (base := 0) (L := 0) (f := [0, 1, 12]) (by decide) (by decide) (Nat.le_of_ble_eq_true rfl) rfl (.cons (At.blk (by kernel_rfl) (RnB.lit (.cons (.flat (by kernel_rfl)) (.cons (.flat (by kernel_rfl)) (.cons (.flat (by kernel_rfl)) (.cons (.flat (by kernel_rfl)) (.cons (.flat (by kernel_rfl)) (.cons (.flat (by kernel_rfl)) (.cons (.flat (by kernel_rfl)) (.cons (.flat (by kernel_rfl)) .nil)))))))))) (.cons (At.blk (by kernel_rfl) (RnB.lit (.cons (.flat (by kernel_rfl)) (.cons (.flat (by kernel_rfl)) .nil)))) (.cons (At.accU (by kernel_rfl) rfl (fun _ => rfl)) (.nil _)))) (LRn.stx [3, 5, 8, 9, 10, 11, 12] [pt 0 0, pt 1 0, iv r5, iv r9, accV 2 (List.length (v357 ++ [(r444.1, r444.2)])), iv v158, iv v356] [pt 0 0, pt 1 0, iv r5, iv r9, .slice (some ⟨12, 0, none⟩) (List.length (v357 ++ [(r444.1, r444.2)])) UNK, iv v158, iv v356] (.cons (Rn.ptr _ _ _ (Nat.le_of_ble_eq_true rfl) rfl) (.cons (Rn.ptr _ _ _ (Nat.le_of_ble_eq_true rfl) rfl) (.cons (.flat (by kernel_rfl)) (.cons (.flat (by kernel_rfl)) (.cons (Rn.accU (Nat.le_of_ble_eq_true rfl) rfl (by simp)) (.cons (.flat (by kernel_rfl)) (.cons (.flat (by kernel_rfl)) .nil))))))) (by kernel_rfl) (by kernel_rfl) rfl) rfl rfl) hK
                  | false =>
                    replace hF := of_neg hF rfl
                    refine TS.cdF (.tmp 92) (TS.sk ?_)
                    have hF := Option.some.inj hF
                    subst hF
                    exact TS.weak (Wk.anew (base := 0) (L := 0) (f := [0, 1, 2]) (by decide) (by decide) (Nat.le_of_ble_eq_true rfl) rfl (.cons (At.blk (by kernel_rfl) (RnB.lit (.cons (.flat (by kernel_rfl)) (.cons (.flat (by kernel_rfl)) (.cons (.flat (by kernel_rfl)) (.cons (.flat (by kernel_rfl)) (.cons (.flat (by kernel_rfl)) (.cons (.flat (by kernel_rfl)) (.cons (.flat (by kernel_rfl)) (.cons (.flat (by kernel_rfl)) .nil)))))))))) (.cons (At.blk (by kernel_rfl) (RnB.lit (.cons (.flat (by kernel_rfl)) (.cons (.flat (by kernel_rfl)) .nil)))) (.cons (At.acc (by kernel_rfl) rfl (fun _ => rfl)) (.nil _)))) (LRn.stx [3, 5, 8, 9, 10, 11, 12] [pt 0 0, pt 1 0, iv r5, iv r9, accV 2 (List.length v357), iv v158, iv v356] [pt 0 0, pt 1 0, iv r5, iv r9, accV 2 (List.length v357), iv v158, iv v356] (.cons (Rn.ptr _ _ _ (Nat.le_of_ble_eq_true rfl) rfl) (.cons (Rn.ptr _ _ _ (Nat.le_of_ble_eq_true rfl) rfl) (.cons (.flat (by kernel_rfl)) (.cons (.flat (by kernel_rfl)) (.cons (Rn.acc (Nat.le_of_ble_eq_true rfl) rfl) (.cons (.flat (by kernel_rfl)) (.cons (.flat (by kernel_rfl)) .nil))))))) (by kernel_rfl) (by kernel_rfl) rfl) rfl rfl) hK
                cases r446 with
                | true =>
                  replace hm454 := of_pos hm454 rfl
                  have hm454 := Option.some.inj hm454
                  subst hm454
                  exact TS.rg (TI.ra 2 [3, 5, 8, 9, 10, 11, 12, 16, 89, 90] (S66_6 r5 r9 v357 v158 v356) (TI.cp 75 [accV 2 (List.length v357), .func (.func 81) ⟨[]⟩ ⟨[pt 10 0]⟩] (.bool true) [] (PureSim.ren (hc := [accB 27 (List.length v357) (List.flatMap e27 v357), cl 27 [iv r444.1, iv r444.2]]) (fun i => List.getD [(2, 0), (10, 0)] i (0, 0)) (C75k1 _ _ _ _ h447) (.cons (At.acc (by kernel_rfl) rfl (fun _ => rfl)) (.cons (At.blk (by kernel_rfl) (RnB.lit (.cons (.flat (by kernel_rfl)) (.cons (.flat (by kernel_rfl)) .nil)))) (.nil _))) (.cons (Rn.accA (i' := 2) (Nat.le_of_ble_eq_true rfl) rfl) (.cons (Rn.func' .nil (.cons (Rn.ptr _ _ _ (Nat.le_of_ble_eq_true rfl) rfl) .nil)) .nil)) (.flat (by kernel_rfl)) newflat_nil) (TI.ra 1 [3, 5, 8, 9, 10, 11, 12, 16, 92] (st 100 [(3, pt 0 0), (5, pt 1 0), (8, iv r5), (9, iv r9), (10, accV 2 (List.length v357)), (11, iv v158), (12, iv v356), (16, pt 10 0), (92, .bool false)]) (TI.dn hK))))
                | false =>
                  replace hm454 := of_neg hm454 rfl
                  have hm454 := Option.some.inj hm454
                  subst hm454
                  exact TS.rg (TI.ra 2 [3, 5, 8, 9, 10, 11, 12, 16, 89, 90] (S66_6 r5 r9 v357 v158 v356) (TI.cp 75 [accV 2 (List.length v357), .func (.func 81) ⟨[]⟩ ⟨[pt 10 0]⟩] (.bool false) [] (PureSim.ren (hc := [accB 27 (List.length v357) (List.flatMap e27 v357), cl 27 [iv r444.1, iv r444.2]]) (fun i => List.getD [(2, 0), (10, 0)] i (0, 0)) (C75k1 _ _ _ _ h447) (.cons (At.acc (by kernel_rfl) rfl (fun _ => rfl)) (.cons (At.blk (by kernel_rfl) (RnB.lit (.cons (.flat (by kernel_rfl)) (.cons (.flat (by kernel_rfl)) .nil)))) (.nil _))) (.cons (Rn.accA (i' := 2) (Nat.le_of_ble_eq_true rfl) rfl) (.cons (Rn.func' .nil (.cons (Rn.ptr _ _ _ (Nat.le_of_ble_eq_true rfl) rfl) .nil)) .nil)) (.flat (by kernel_rfl)) newflat_nil) (TI.ra 1 [3, 5, 8, 9, 10, 11, 12, 16, 92] (st 100 [(3, pt 0 0), (5, pt 1 0), (8, iv r5), (9, iv r9), (10, accV 2 (List.length v357)), (11, iv v158), (12, iv v356), (16, pt 10 0), (92, .bool true)]) (TI.dn hK))))
  · replace hF := of_neg hF hc405
    refine TS.ex 2 (NX.sqX ?_)
    have hF := Option.some.inj hF
    subst hF
    exact Rd.out (e := .exit 2) (by intro h; cases h) (And.intro rfl (Wk.anew (base := 0) (L := 0) (f := [0, 1, 2]) (by decide) (by decide) (Nat.le_of_ble_eq_true rfl) rfl (.cons (At.blk (by kernel_rfl) (RnB.lit (.cons (.flat (by kernel_rfl)) (.cons (.flat (by kernel_rfl)) (.cons (.flat (by kernel_rfl)) (.cons (.flat (by kernel_rfl)) (.cons (.flat (by kernel_rfl)) (.cons (.flat (by kernel_rfl)) (.cons (.flat (by kernel_rfl)) (.cons (.flat (by kernel_rfl)) .nil)))))))))) (.cons (At.blk (by kernel_rfl) (RnB.lit (.cons (.flat (by kernel_rfl)) (.cons (.flat (by kernel_rfl)) .nil)))) (.cons (At.acc (by kernel_rfl) rfl (fun _ => rfl)) (.nil _)))) (LRn.stx [3, 5, 8, 9, 10, 11] [pt 0 0, pt 1 0, iv r5, iv r9, accV 2 (List.length v357), iv v158] [pt 0 0, pt 1 0, iv r5, iv r9, accV 2 (List.length v357), iv v158] (.cons (Rn.ptr _ _ _ (Nat.le_of_ble_eq_true rfl) rfl) (.cons (Rn.ptr _ _ _ (Nat.le_of_ble_eq_true rfl) rfl) (.cons (.flat (by kernel_rfl)) (.cons (.flat (by kernel_rfl)) (.cons (Rn.acc (Nat.le_of_ble_eq_true rfl) rfl) (.cons (.flat (by kernel_rfl)) .nil)))))) (by kernel_rfl) (by kernel_rfl) rfl) rfl rfl))
def P66l0 (p0 : Int) (p1 : Int) (p2 : Int) (p3 : Int) (p4 : Int) (p5 : Int) (p6 : Int) (p7 : Int) (p12 : Int) (p13 : Int) (r5 : Int) (r9 : Int) (r : (List (Int × Int))) : Post := fun e a h => e = .exit 0 ∧ Wk Try.prog 0 0 a h (st 100 [(10, accV 0 (List.length r))]) [accB 27 (List.length r) (List.flatMap e27 r)]
theorem L66l0 (p0 : Int) (p1 : Int) (p2 : Int) (p3 : Int) (p4 : Int) (p5 : Int) (p6 : Int) (p7 : Int) (p12 : Int) (p13 : Int) (r5 : Int) (r9 : Int) (v159 : (List (Int × Int))) (v158 : Int) (r : (List (Int × Int))) (hF : F66l0 p0 p1 p2 p3 p4 p5 p6 p7 p12 p13 r5 r9 v159 v158 = some r) : TL Try.prog 0 0 c66.s2.s2.s2.s2.s1.s2.bd.bd (st 100 [(3, pt 0 0), (5, pt 1 0), (8, iv r5), (9, iv r9), (10, accV 2 (List.length v159)), (11, iv v158)]) [cl 108 [iv p0, iv p1, iv p2, iv p3, iv p4, iv p5, iv p6, iv p7], cl 23 [iv p12, iv p13], accB 27 (List.length v159) (List.flatMap e27 v159)] (P66l0 p0 p1 p2 p3 p4 p5 p6 p7 p12 p13 r5 r9 r) := by
  refine F66l0.partial_correctness p0 p1 p2 p3 p4 p5 p6 p7 p12 p13 r5 r9 (motive := fun v159 v158 r => TL Try.prog 0 0 c66.s2.s2.s2.s2.s1.s2.bd.bd (st 100 [(3, pt 0 0), (5, pt 1 0), (8, iv r5), (9, iv r9), (10, accV 2 (List.length v159)), (11, iv v158)]) [cl 108 [iv p0, iv p1, iv p2, iv p3, iv p4, iv p5, iv p6, iv p7], cl 23 [iv p12, iv p13], accB 27 (List.length v159) (List.flatMap e27 v159)] (P66l0 p0 p1 p2 p3 p4 p5 p6 p7 p12 p13 r5 r9 r)) ?_ v159 v158 r hF
  clear hF r v159 v158
  intro again ih v159 v158 r hF
  refine TL.round (TS.sq (TS.sq (TS.rg (TI.ra 4 [3, 5, 8, 9, 10, 11, 45] (st 100 [(3, pt 0 0), (5, pt 1 0), (8, iv r5), (9, iv r9), (10, accV 2 (List.length v159)), (11, iv v158), (45, .bool (decide (v158 ≤ (w64 (r5 + 2)))))]) (TI.dn (NX.sq ?_))))))
  refine TS.cd (.tmp 45) (decide (v158 ≤ (w64 (r5 + 2)))) (fun hc309 => ?_) (fun hc309 => ?_)
  · replace hF := of_pos hF hc309
    refine TS.sk (NX.sq (TS.sq (TS.bk 1 (TS.sc (TS.sq (TS.label' (l := 0) (by kernel_rfl) (NX.sq (TS.sq ?_))))))))
    refine TS.rg (TI.ra 3 [3, 5, 8, 9, 10, 11, 12] (st 100 [(3, pt 0 0), (5, pt 1 0), (8, iv r5), (9, iv r9), (10, accV 2 (List.length v159)), (11, iv v158), (12, iv (w64 (r9 - 1)))]) (TI.dn (NX.sq (TS.bk 2 ?_))))
    have hX := of_do hF
    clear hF
    obtain ⟨r455, h456, hF⟩ := hX
    refine TS.lp (TL.weak (a2 := (st 100 [(3, pt 0 0), (5, pt 1 0), (8, iv r5), (9, iv r9), (10, accV 2 (List.length v159)), (11, iv v158), (12, iv (w64 (r9 - 1)))])) (h2 := [cl 108 [iv p0, iv p1, iv p2, iv p3, iv p4, iv p5, iv p6, iv p7], cl 23 [iv p12, iv p13], accB 27 (List.length v159) (List.flatMap e27 v159)]) (Wk.anew (base := 0) (L := 0) (f := [0, 1, 2]) (by decide) (by decide) (Nat.le_of_ble_eq_true rfl) rfl (.cons (At.blk (by kernel_rfl) (RnB.lit (.cons (.flat (by kernel_rfl)) (.cons (.flat (by kernel_rfl)) (.cons (.flat (by kernel_rfl)) (.cons (.flat (by kernel_rfl)) (.cons (.flat (by kernel_rfl)) (.cons (.flat (by kernel_rfl)) (.cons (.flat (by kernel_rfl)) (.cons (.flat (by kernel_rfl)) .nil)))))))))) (.cons (At.blk (by kernel_rfl) (RnB.lit (.cons (.flat (by kernel_rfl)) (.cons (.flat (by kernel_rfl)) .nil)))) (.cons (At.acc (by kernel_rfl) rfl (fun _ => rfl)) (.nil _)))) (LRn.stx [3, 5, 8, 9, 10, 11, 12] [pt 0 0, pt 1 0, iv r5, iv r9, accV 2 (List.length v159), iv v158, iv (w64 (r9 - 1))] [pt 0 0, pt 1 0, iv r5, iv r9, accV 2 (List.length v159), iv v158, iv (w64 (r9 - 1))] (.cons (Rn.ptr _ _ _ (Nat.le_of_ble_eq_true rfl) rfl) (.cons (Rn.ptr _ _ _ (Nat.le_of_ble_eq_true rfl) rfl) (.cons (.flat (by kernel_rfl)) (.cons (.flat (by kernel_rfl)) (.cons (Rn.acc (Nat.le_of_ble_eq_true rfl) rfl) (.cons (.flat (by kernel_rfl)) (.cons (.flat (by kernel_rfl)) .nil))))))) (by kernel_rfl) (by kernel_rfl) rfl) rfl rfl) (TL.post (L66l1 p0 p1 p2 p3 p4 p5 p6 p7 p12 p13 r5 r9 v158 (w64 (r9 - 1)) v159 r455 h456) ?_))
    rintro e a1 h1 hp
    obtain ⟨rfl, hw⟩ := hp
    refine ⟨(st 100 [(3, pt 0 0), (5, pt 1 0), (8, iv r5), (9, iv r9), (10, accV 2 (List.length r455)), (11, iv v158)]), [cl 108 [iv p0, iv p1, iv p2, iv p3, iv p4, iv p5, iv p6, iv p7], cl 23 [iv p12, iv p13], accB 27 (List.length r455) (List.flatMap e27 r455)], (NX.bkX (NX.scN (NX.bk (NX.sq (TS.rg (TI.ra 3 [3, 5, 8, 9, 10, 11] (st 100 [(3, pt 0 0), (5, pt 1 0), (8, iv r5), (9, iv r9), (10, accV 2 (List.length r455)), (11, iv (w64 (v158 + 1)))]) (TI.dn ?_))))))), hw⟩
    exact Rd.again (a2 := (st 100 [(3, pt 0 0), (5, pt 1 0), (8, iv r5), (9, iv r9), (10, accV 2 (List.length r455)), (11, iv (w64 (v158 + 1)))])) (h2 := [cl 108 [iv p0, iv p1, iv p2, iv p3, iv p4, iv p5, iv p6, iv p7], cl 23 [iv p12, iv p13], accB 27 (List.length r455) (List.flatMap e27 r455)]) (Wk.anew (base := 0) (L := 0) (f := [0, 1, 2]) (by decide) (by decide) (Nat.le_of_ble_eq_true rfl) rfl (.cons (At.blk (by kernel_rfl) (RnB.lit (.cons (.flat (by kernel_rfl)) (.cons (.flat (by kernel_rfl)) (.cons (.flat (by kernel_rfl)) (.cons (.flat (by kernel_rfl)) (.cons (.flat (by kernel_rfl)) (.cons (.flat (by kernel_rfl)) (.cons (.flat (by kernel_rfl)) (.cons (.flat (by kernel_rfl)) .nil)))))))))) (.cons (At.blk (by kernel_rfl) (RnB.lit (.cons (.flat (by kernel_rfl)) (.cons (.flat (by kernel_rfl)) .nil)))) (.cons (At.acc (by kernel_rfl) rfl (fun _ => rfl)) (.nil _)))) (LRn.stx [3, 5, 8, 9, 10, 11] [pt 0 0, pt 1 0, iv r5, iv r9, accV 2 (List.length r455), iv (w64 (v158 + 1))] [pt 0 0, pt 1 0, iv r5, iv r9, accV 2 (List.length r455), iv (w64 (v158 + 1))] (.cons (Rn.ptr _ _ _ (Nat.le_of_ble_eq_true rfl) rfl) (.cons (Rn.ptr _ _ _ (Nat.le_of_ble_eq_true rfl) rfl) (.cons (.flat (by kernel_rfl)) (.cons (.flat (by kernel_rfl)) (.cons (Rn.acc (Nat.le_of_ble_eq_true rfl) rfl) (.cons (.flat (by kernel_rfl)) .nil)))))) (by kernel_rfl) (by kernel_rfl) rfl) rfl rfl) (ih r455 (w64 (v158 + 1)) _ hF)
  · replace hF := of_neg hF hc309
    refine TS.ex 0 (NX.sqX ?_)
    have hF := Option.some.inj hF
    subst hF
    exact Rd.out (e := .exit 0) (by intro h; cases h) (And.intro rfl (Wk.anew (base := 0) (L := 0) (f := [2]) (by decide) (by decide) (Nat.le_of_ble_eq_true rfl) rfl (.cons (At.acc (by kernel_rfl) rfl (fun _ => rfl)) (.nil _)) (LRn.stx [10] [accV 0 (List.length v159)] [accV 2 (List.length v159)] (.cons (Rn.acc (Nat.le_of_ble_eq_true rfl) rfl) .nil) (by kernel_rfl) (by kernel_rfl) rfl) rfl rfl))
theorem B66 (p0 : Int) (p1 : Int) (p2 : Int) (p3 : Int) (p4 : Int) (p5 : Int) (p6 : Int) (p7 : Int) (p8 : Int) (p9 : Int) (p10 : Int) (p11 : Int) (p12 : Int) (p13 : Int) (r : (List (Int × Int))) (hF : F66 p0 p1 p2 p3 p4 p5 p6 p7 p8 p9 p10 p11 p12 p13 = some r) : TS Try.prog 0 0 c66 (st 100 [(0, ag [iv p0, iv p1, iv p2, iv p3, iv p4, iv p5, iv p6, iv p7]), (1, ag [iv p8, iv p9, iv p10, iv p11]), (2, ag [iv p12, iv p13])]) [] (NX Try.prog 0 0 [] (FinP Try.prog Try.f66 0 (V66 0 r) (N66 0 r))) := by
  unfold F66 at hF
  refine TS.sq (TS.rg (TI.rn 4 [3, 5] [0, 2] (st 100 [(3, pt 0 0), (5, pt 2 0)]) (H66_10 p0 p1 p2 p3 p4 p5 p6 p7 p12 p13) (TI.dn (NX.sq (TS.sq ?_)))))
  have hX := of_do hF
  clear hF
  obtain ⟨r1, h2, hF⟩ := hX
  refine TS.rg (TI.ra 6 [3, 5, 19, 22] (st 100 [(3, pt 0 0), (5, pt 2 0), (19, ag [iv p0, iv p1]), (22, ag [iv p2, iv p3])]) (TI.cf (C59 _ _ _ _ _ h2) (TI.ra 1 [3, 5, 7] (st 100 [(3, pt 0 0), (5, pt 2 0), (7, iv r1)]) (TI.dn (NX.sq (TS.sq ?_))))))
  have hX := of_do hF
  clear hF
  obtain ⟨r3, h4, hF⟩ := hX
  have hX := of_do hF
  clear hF
  obtain ⟨r5, h6, hF⟩ := hX
  have hX := of_do hF
  clear hF
  obtain ⟨r7, h8, hF⟩ := hX
  have hX := of_do hF
  clear hF
  obtain ⟨r9, h10, hF⟩ := hX
  have hT : ∀ e ∈ ([⟨59, [ag [iv p12, iv p13], ag [iv p2, iv p3]], (H66_10 p0 p1 p2 p3 p4 p5 p6 p7 p12 p13), iv r3, []⟩, ⟨69, [iv (w64 (0 - r3)), iv r1], (H66_10 p0 p1 p2 p3 p4 p5 p6 p7 p12 p13), iv r5, []⟩, ⟨59, [ag [iv p0, iv p1], ag [iv p12, iv p13]], (H66_10 p0 p1 p2 p3 p4 p5 p6 p7 p12 p13), iv r7, []⟩, ⟨69, [iv (w64 (0 - r7)), iv r1], (H66_10 p0 p1 p2 p3 p4 p5 p6 p7 p12 p13), iv r9, []⟩] : List Entry), PureSim Try.prog e.g e.args e.h e.v e.new := by
    intro e he
    simp only [List.mem_cons, List.not_mem_nil, or_false] at he
    rcases he with rfl | rfl | rfl | rfl
    · exact PureSim.ak (C59 _ _ _ _ _ h4)
    · exact PureSim.ak (C69 _ _ _ h6)
    · exact PureSim.ak (C59 _ _ _ _ _ h8)
    · exact PureSim.ak (C69 _ _ _ h10)
  refine TS.dp [⟨59, [ag [iv p12, iv p13], ag [iv p2, iv p3]], (H66_10 p0 p1 p2 p3 p4 p5 p6 p7 p12 p13), iv r3, []⟩, ⟨69, [iv (w64 (0 - r3)), iv r1], (H66_10 p0 p1 p2 p3 p4 p5 p6 p7 p12 p13), iv r5, []⟩, ⟨59, [ag [iv p0, iv p1], ag [iv p12, iv p13]], (H66_10 p0 p1 p2 p3 p4 p5 p6 p7 p12 p13), iv r7, []⟩, ⟨69, [iv (w64 (0 - r7)), iv r1], (H66_10 p0 p1 p2 p3 p4 p5 p6 p7 p12 p13), iv r9, []⟩] hT mixed 15 [3, 5, 8, 9] [0, 2] (st 100 [(3, pt 0 0), (5, pt 2 0), (8, iv r5), (9, iv r9)]) (H66_10 p0 p1 p2 p3 p4 p5 p6 p7 p12 p13) ?_ ?_
  · refine QJ.rn (qs (st 100 [(3, pt 0 0), (5, pt 2 0), (7, iv r1), (24, ag [iv p12, iv p13]), (25, pt 0 0), (26, pt 0 2), (27, ag [iv p2, iv p3])]) (H66_10 p0 p1 p2 p3 p4 p5 p6 p7 p12 p13) [] []) 4 (QJ.o { val := iv r3, new := [] } (qOf_call (g := 59) (args := [ag [iv p12, iv p13], ag [iv p2, iv p3]]) (by kernel_rfl) lookC_hit) (QJ.rn (qs (st 100 [(3, pt 0 0), (5, pt 2 0), (7, iv r1), (24, ag [iv p12, iv p13]), (25, pt 0 0), (26, pt 0 2), (27, ag [iv p2, iv p3]), (28, iv r3), (29, iv (w64 (0 - r3))), (30, iv r1)]) (H66_10 p0 p1 p2 p3 p4 p5 p6 p7 p12 p13) [] []) 2 (QJ.o { val := iv r5, new := [] } (qOf_call (g := 69) (args := [iv (w64 (0 - r3)), iv r1]) (by kernel_rfl) (lookC_skip (fun hg => absurd (show (59 : Nat) = 69 from hg) (by decide)) lookC_hit)) (QJ.rn (qs (st 100 [(3, pt 0 0), (5, pt 2 0), (7, iv r1), (24, ag [iv p12, iv p13]), (25, pt 0 0), (26, pt 0 2), (27, ag [iv p2, iv p3]), (28, iv r3), (29, iv (w64 (0 - r3))), (30, iv r1), (31, iv r5), (32, pt 0 0), (33, pt 0 0), (34, ag [iv p0, iv p1]), (35, ag [iv p12, iv p13])]) (H66_10 p0 p1 p2 p3 p4 p5 p6 p7 p12 p13) [] []) 4 ?_))))
    refine QJ.o { val := iv r7, new := [] } (qOf_call (g := 59) (args := [ag [iv p0, iv p1], ag [iv p12, iv p13]]) (by kernel_rfl) (lookC_skip (by intro _ ha _; have hr := Option.some.inj (h4.symm.trans (Eq.trans (congr (congr (congr (congrArg F59 (show p12 = p0 from congrArg (leafI 0) ha)) (show p13 = p1 from congrArg (leafI 1) ha)) (show p2 = p12 from congrArg (leafI 2) ha)) (show p3 = p13 from congrArg (leafI 3) ha)) h8)); first | (subst hr; rfl) | (cases hr; done) | (cases hr; rfl)) (lookC_skip (fun hg => absurd (show (69 : Nat) = 59 from hg) (by decide)) lookC_hit))) (QJ.rn (qs (st 100 [(3, pt 0 0), (5, pt 2 0), (7, iv r1), (24, ag [iv p12, iv p13]), (25, pt 0 0), (26, pt 0 2), (27, ag [iv p2, iv p3]), (28, iv r3), (29, iv (w64 (0 - r3))), (30, iv r1), (31, iv r5), (32, pt 0 0), (33, pt 0 0), (34, ag [iv p0, iv p1]), (35, ag [iv p12, iv p13]), (36, iv r7), (37, iv (w64 (0 - r7))), (38, iv r1)]) (H66_10 p0 p1 p2 p3 p4 p5 p6 p7 p12 p13) [] []) 2 (QJ.dn ⟨rfl, ?_⟩))
    exact SJ.o { val := iv r9, new := [] } (qOf_call (g := 69) (args := [iv (w64 (0 - r7)), iv r1]) (by kernel_rfl) (lookC_skip (fun hg => absurd (show (59 : Nat) = 69 from hg) (by decide)) (lookC_skip (by intro _ ha _; have hr := Option.some.inj (h6.symm.trans (Eq.trans (congr (congrArg F69 (show (w64 (0 - r3)) = (w64 (0 - r7)) from congrArg (leafI 0) ha)) (Eq.refl r1)) h10)); first | (subst hr; rfl) | (cases hr; done) | (cases hr; rfl)) (lookC_skip (fun hg => absurd (show (59 : Nat) = 69 from hg) (by decide)) lookC_hit)))) SJ.la
  refine TS.sq (TS.rg (TI.ra 1 [3, 5, 8, 9, 10] (st 100 [(3, pt 0 0), (5, pt 2 0), (8, iv r5), (9, iv r9), (10, .slice none 0 0)]) (TI.dn (NX.sq (TS.sq (TS.sq (TS.rg (TI.ra 3 [3, 5, 8, 9, 10, 11] (st 100 [(3, pt 0 0), (5, pt 2 0), (8, iv r5), (9, iv r9), (10, .slice none 0 0), (11, iv (w64 (r5 - 1)))]) ?_))))))))
  refine TI.dn (NX.sq (TS.bk 0 ?_))
  have hX := of_do hF
  clear hF
  obtain ⟨r457, h458, hF⟩ := hX
  refine TS.lp (TL.weak (a2 := (st 100 [(3, pt 0 0), (5, pt 1 0), (8, iv r5), (9, iv r9), (10, accV 2 (List.length ([]))), (11, iv (w64 (r5 - 1)))])) (h2 := [cl 108 [iv p0, iv p1, iv p2, iv p3, iv p4, iv p5, iv p6, iv p7], cl 23 [iv p12, iv p13], accB 27 (List.length ([])) (List.flatMap e27 ([]))]) (Wk.anew (base := 0) (L := 0) (f := [0, 2, 3]) (by decide) (by decide) (Nat.le_of_ble_eq_true rfl) rfl (.cons (At.blk (by kernel_rfl) (RnB.lit (.cons (.flat (by kernel_rfl)) (.cons (.flat (by kernel_rfl)) (.cons (.flat (by kernel_rfl)) (.cons (.flat (by kernel_rfl)) (.cons (.flat (by kernel_rfl)) (.cons (.flat (by kernel_rfl)) (.cons (.flat (by kernel_rfl)) (.cons (.flat (by kernel_rfl)) .nil)))))))))) (.cons (At.blk (by kernel_rfl) (RnB.lit (.cons (.flat (by kernel_rfl)) (.cons (.flat (by kernel_rfl)) .nil)))) (.cons At.accN (.nil _)))) (LRn.stx [3, 5, 8, 9, 10, 11] [pt 0 0, pt 1 0, iv r5, iv r9, accV 2 (List.length ([])), iv (w64 (r5 - 1))] [pt 0 0, pt 2 0, iv r5, iv r9, .slice none 0 0, iv (w64 (r5 - 1))] (.cons (Rn.ptr _ _ _ (Nat.le_of_ble_eq_true rfl) rfl) (.cons (Rn.ptr _ _ _ (Nat.le_of_ble_eq_true rfl) rfl) (.cons (.flat (by kernel_rfl)) (.cons (.flat (by kernel_rfl)) (.cons (Rn.accN) (.cons (.flat (by kernel_rfl)) .nil)))))) (by kernel_rfl) (by kernel_rfl) rfl) rfl rfl) (TL.post (L66l0 p0 p1 p2 p3 p4 p5 p6 p7 p12 p13 r5 r9 ([]) (w64 (r5 - 1)) r457 h458) ?_))
  rintro e a1 h1 hp
  obtain ⟨rfl, hw⟩ := hp
  refine ⟨(st 100 [(10, accV 0 (List.length r457))]), [accB 27 (List.length r457) (List.flatMap e27 r457)], (NX.bkX (NX.sq (TS.sq ?_))), hw⟩
  have hX := of_do hF
  clear hF
  obtain ⟨r459, h460, hF⟩ := hX
  refine TS.rg (TI.ra 1 [10, 97] (st 100 [(10, accV 0 (List.length r457)), (97, accV 0 (List.length r457))]) (TI.rn 0 [10, 97] [0] (st 100 [(10, accV 0 (List.length r457)), (97, accV 0 (List.length r457))]) [accB 27 (List.length r457) (List.flatMap e27 r457)] ?_))
  have hl461 := sort82_len h460
  refine TI.sort82 (k := 0) h460 (by kernel_rfl) (by kernel_rfl) (by decide) (by kernel_rfl) rfl [10] [0] (a2 := (st 100 [(10, accV 0 (List.length r459))])) (h2 := [accB 27 (List.length r459) (List.flatMap e27 r459)]) (by rw [hl461]; kernel_rfl) (TI.dn (NX.sq (TS.sq (TS.rg (TI.ra 2 [6] (st 100 [(6, accV 0 (List.length r459))]) (TI.dn (NX.sq (TS.rt ?_))))))))
  have hF := Option.some.inj hF
  subst hF
  exact ⟨.inr rfl, rfl, accV 0 (List.length r459), by kernel_rfl, WkV.made (L := 0) (f := [0]) (by decide) (by decide) rfl (.cons (At.acc (by kernel_rfl) rfl (fun _ => rfl)) (.nil _)) (Rn.acc (Nat.le_of_ble_eq_true rfl) rfl)⟩
theorem C66 (p0 : Int) (p1 : Int) (p2 : Int) (p3 : Int) (p4 : Int) (p5 : Int) (p6 : Int) (p7 : Int) (p8 : Int) (p9 : Int) (p10 : Int) (p11 : Int) (p12 : Int) (p13 : Int) (r : (List (Int × Int))) (hF : F66 p0 p1 p2 p3 p4 p5 p6 p7 p8 p9 p10 p11 p12 p13 = some r) : PureSim Try.prog 66 [ag [iv p0, iv p1, iv p2, iv p3, iv p4, iv p5, iv p6, iv p7], ag [iv p8, iv p9, iv p10, iv p11], ag [iv p12, iv p13]] [] (V66 0 r) (N66 0 r) :=
  PureSim.of_Fin Try.func66 (c := c66) (by kernel_rfl) (by kernel_rfl) 0 rfl [0, 1, 2] [] (by kernel_rfl) (B66 p0 p1 p2 p3 p4 p5 p6 p7 p8 p9 p10 p11 p12 p13 r hF)

-- agonic/magnet.All
noncomputable def c30 : Code := Try.f30.code
def F30 (p0 : Int) (p1 : Int) (p2 : Int) (p3 : Int) (p4 : Int) (p5 : Int) : Option ((List (Int × Int)) × Int) :=
  F52 p0 p1 p2 p3 p4 p5 ([]) >>= fun r1 =>
  if r1 != 0 then
    some ([], r1)
  else
    F61 p0 p1 p2 p3 >>= fun r4 =>
    F66 r4.1.1.1 r4.1.1.2 r4.1.2.1 r4.1.2.2 r4.2.1.1 r4.2.1.2 r4.2.2.1 r4.2.2.2 p0 p1 p2 p3 p4 p5 >>= fun r6 =>
    some (r6, 0)
def V30 (b : Nat) (r : ((List (Int × Int)) × Int)) : Value := .tuple ⟨[accV (b + 0) (List.length r.1), iv r.2]⟩
def N30 (b : Nat) (r : ((List (Int × Int)) × Int)) : List Blk := [accB 27 (List.length r.1) (List.flatMap e27 r.1)]
theorem B30 (p0 : Int) (p1 : Int) (p2 : Int) (p3 : Int) (p4 : Int) (p5 : Int) (r : ((List (Int × Int)) × Int)) (hF : F30 p0 p1 p2 p3 p4 p5 = some r) : TS Try.prog 0 0 c30 (st 18 [(0, ag [iv p0, iv p1, iv p2, iv p3]), (1, ag [iv p4, iv p5])]) [] (NX Try.prog 0 0 [] (FinP Try.prog Try.f30 0 (V30 0 r) (N30 0 r))) := by
  unfold F30 at hF
  refine TS.sq (TS.rg (TI.rn 4 [2, 3] [0, 1] (st 18 [(2, pt 0 0), (3, pt 1 0)]) [cl 25 [iv p0, iv p1, iv p2, iv p3], cl 23 [iv p4, iv p5]] (TI.dn (NX.sq (TS.sq (TS.sq ?_))))))
  have hX := of_do hF
  clear hF
  obtain ⟨r1, h2, hF⟩ := hX
  refine TS.rg (TI.ra 2 [2, 3, 7, 8] (st 18 [(2, pt 0 0), (3, pt 1 0), (7, ag [iv p0, iv p1, iv p2, iv p3]), (8, ag [iv p4, iv p5])]) (TI.cp 52 [ag [iv p0, iv p1, iv p2, iv p3], ag [iv p4, iv p5], .slice none 0 0] (iv r1) [] (PureSim.ren (hc := [accB 27 (List.length ([])) (List.flatMap e27 ([]))]) (fun i => List.getD [(0, 0)] i (0, 0)) (C52 _ _ _ _ _ _ _ _ h2) (.cons At.accN (.nil _)) (.cons (.flat (by kernel_rfl)) (.cons (.flat (by kernel_rfl)) (.cons (Rn.anyN _ _ _ rfl (by decide)) .nil))) (.flat (by kernel_rfl)) newflat_nil) (TI.ra 1 [2, 3, 6] (st 18 [(2, pt 0 0), (3, pt 1 0), (6, iv r1)]) (TI.dn (NX.sq (TS.sq (TS.rg (TI.ra 2 [2, 3, 6, 11] (st 18 [(2, pt 0 0), (3, pt 1 0), (6, iv r1), (11, .bool (r1 != 0))]) ?_))))))))
  refine TI.dn (NX.sq ?_)
  refine TS.cd (.tmp 11) (r1 != 0) (fun hc3 => ?_) (fun hc3 => ?_)
  · replace hF := of_pos hF hc3
    refine TS.sq (TS.rg (TI.rn 3 [4, 5] [] (st 18 [(4, .slice none 0 0), (5, iv r1)]) [.dead, .dead] (TI.dn (NX.sq (TS.rt (NX.sqR ?_))))))
    have hF := Option.some.inj hF
    subst hF
    exact ⟨.inr rfl, rfl, .tuple ⟨[.slice none 0 0, iv r1]⟩, by kernel_rfl, WkV.made (L := 0) (f := [2]) (by decide) (by decide) rfl (.cons At.accN (.nil _)) (Rn.tuple' (.cons Rn.accN (.cons (.flat (by kernel_rfl)) .nil)))⟩
  · replace hF := of_neg hF hc3
    refine TS.sk (NX.sq (TS.sq ?_))
    have hX := of_do hF
    clear hF
    obtain ⟨r4, h5, hF⟩ := hX
    have hX := of_do hF
    clear hF
    obtain ⟨r6, h7, hF⟩ := hX
    have hT : ∀ e ∈ ([⟨61, [ag [iv p0, iv p1, iv p2, iv p3]], [cl 25 [iv p0, iv p1, iv p2, iv p3], cl 23 [iv p4, iv p5]], ag [iv r4.1.1.1, iv r4.1.1.2, iv r4.1.2.1, iv r4.1.2.2, iv r4.2.1.1, iv r4.2.1.2, iv r4.2.2.1, iv r4.2.2.2], []⟩, ⟨66, [ag [iv r4.1.1.1, iv r4.1.1.2, iv r4.1.2.1, iv r4.1.2.2, iv r4.2.1.1, iv r4.2.1.2, iv r4.2.2.1, iv r4.2.2.2], ag [iv p0, iv p1, iv p2, iv p3], ag [iv p4, iv p5]], [cl 25 [iv p0, iv p1, iv p2, iv p3], cl 23 [iv p4, iv p5]], accV 2 (List.length r6), [accB 27 (List.length r6) (List.flatMap e27 r6)]⟩] : List Entry), PureSim Try.prog e.g e.args e.h e.v e.new := by
      intro e he
      simp only [List.mem_cons, List.not_mem_nil, or_false] at he
      rcases he with rfl | rfl
      · exact PureSim.ak (C61 _ _ _ _ _ h5)
      · exact (PureSim.ren (hc := []) (fun i => List.getD [] i (0, 0)) (C66 _ _ _ _ _ _ _ _ _ _ _ _ _ _ _ h7) (.nil _) (.cons (.flat (by kernel_rfl)) (.cons (.flat (by kernel_rfl)) (.cons (.flat (by kernel_rfl)) .nil))) (Rn.acc (i' := 2) (Nat.le_of_ble_eq_true rfl) rfl) (newflat_cons (accB_flat (fun _ => rfl)) newflat_nil))
    refine TS.dp [⟨61, [ag [iv p0, iv p1, iv p2, iv p3]], [cl 25 [iv p0, iv p1, iv p2, iv p3], cl 23 [iv p4, iv p5]], ag [iv r4.1.1.1, iv r4.1.1.2, iv r4.1.2.1, iv r4.1.2.2, iv r4.2.1.1, iv r4.2.1.2, iv r4.2.2.1, iv r4.2.2.2], []⟩, ⟨66, [ag [iv r4.1.1.1, iv r4.1.1.2, iv r4.1.2.1, iv r4.1.2.2, iv r4.2.1.1, iv r4.2.1.2, iv r4.2.2.1, iv r4.2.2.2], ag [iv p0, iv p1, iv p2, iv p3], ag [iv p4, iv p5]], [cl 25 [iv p0, iv p1, iv p2, iv p3], cl 23 [iv p4, iv p5]], accV 2 (List.length r6), [accB 27 (List.length r6) (List.flatMap e27 r6)]⟩] hT mixed 4 [4, 5] [2] (st 18 [(4, accV 2 (List.length r6)), (5, iv 0)]) [.dead, .dead, accB 27 (List.length r6) (List.flatMap e27 r6)] ?_ ?_
    · exact QJ.rn (qs (st 18 [(2, pt 0 0), (3, pt 1 0), (6, iv r1), (11, .bool (r1 != 0)), (13, ag [iv p0, iv p1, iv p2, iv p3])]) [cl 25 [iv p0, iv p1, iv p2, iv p3], cl 23 [iv p4, iv p5]] [] []) 1 (QJ.o { val := ag [iv r4.1.1.1, iv r4.1.1.2, iv r4.1.2.1, iv r4.1.2.2, iv r4.2.1.1, iv r4.2.1.2, iv r4.2.2.1, iv r4.2.2.2], new := [] } (qOf_call (g := 61) (args := [ag [iv p0, iv p1, iv p2, iv p3]]) (by kernel_rfl) lookC_hit) (QJ.rn (qs (st 18 [(2, pt 0 0), (3, pt 1 0), (6, iv r1), (11, .bool (r1 != 0)), (13, ag [iv p0, iv p1, iv p2, iv p3]), (14, ag [iv r4.1.1.1, iv r4.1.1.2, iv r4.1.2.1, iv r4.1.2.2, iv r4.2.1.1, iv r4.2.1.2, iv r4.2.2.1, iv r4.2.2.2]), (15, ag [iv p0, iv p1, iv p2, iv p3]), (16, ag [iv p4, iv p5])]) [cl 25 [iv p0, iv p1, iv p2, iv p3], cl 23 [iv p4, iv p5]] [] []) 2 (QJ.dn ⟨rfl, (SJ.o { val := accV 2 (List.length r6), new := [accB 27 (List.length r6) (List.flatMap e27 r6)] } (qOf_call (g := 66) (args := [ag [iv r4.1.1.1, iv r4.1.1.2, iv r4.1.2.1, iv r4.1.2.2, iv r4.2.1.1, iv r4.2.1.2, iv r4.2.2.1, iv r4.2.2.2], ag [iv p0, iv p1, iv p2, iv p3], ag [iv p4, iv p5]]) (by kernel_rfl) (lookC_skip (fun hg => absurd (show (61 : Nat) = 66 from hg) (by decide)) lookC_hit)) SJ.la)⟩)))
    refine TS.rt ?_
    have hF := Option.some.inj hF
    subst hF
    exact ⟨.inr rfl, rfl, .tuple ⟨[accV 2 (List.length r6), iv 0]⟩, by kernel_rfl, WkV.made (L := 0) (f := [2]) (by decide) (by decide) rfl (.cons (At.acc (by kernel_rfl) rfl (fun _ => rfl)) (.nil _)) (Rn.tuple' (.cons (Rn.acc (Nat.le_of_ble_eq_true rfl) rfl) (.cons (.flat (by kernel_rfl)) .nil)))⟩
theorem C30 (p0 : Int) (p1 : Int) (p2 : Int) (p3 : Int) (p4 : Int) (p5 : Int) (r : ((List (Int × Int)) × Int)) (hF : F30 p0 p1 p2 p3 p4 p5 = some r) : PureSim Try.prog 30 [ag [iv p0, iv p1, iv p2, iv p3], ag [iv p4, iv p5]] [] (V30 0 r) (N30 0 r) :=
  PureSim.of_Fin Try.func30 (c := c30) (by kernel_rfl) (by kernel_rfl) 0 rfl [0, 1] [] (by kernel_rfl) (B30 p0 p1 p2 p3 p4 p5 r hF)

-- (agonic/magnet.Kit).pull
noncomputable def c54 : Code := Try.f54.code
def H54_0 (p0 : Int) (p1 : Int) (p2 : Int) (p3 : Int) (p4 : Int) (p5 : Int) : List Blk := [cl 25 [iv p0, iv p1, iv p2, iv p3], cl 27 [iv p4, iv p5], cl 23 [iv 0, iv 0]]
def F54 (p0 : Int) (p1 : Int) (p2 : Int) (p3 : Int) (p4 : Int) (p5 : Int) : Option (Int × Int) :=
  F53 0 0 p4 p0 p1 >>= fun r1 =>
  F53 r1.1 r1.2 p5 p2 p3 >>= fun r3 =>
  some (r3.1, r3.2)
def V54 (b : Nat) (r : (Int × Int)) : Value := ag [iv r.1, iv r.2]
def N54 (b : Nat) (r : (Int × Int)) : List Blk := []
theorem B54 (p0 : Int) (p1 : Int) (p2 : Int) (p3 : Int) (p4 : Int) (p5 : Int) (r : (Int × Int)) (hF : F54 p0 p1 p2 p3 p4 p5 = some r) : TS Try.prog 0 0 c54 (st 16 [(0, ag [iv p0, iv p1, iv p2, iv p3]), (1, ag [iv p4, iv p5])]) [] (NX Try.prog 0 0 [] (FinP Try.prog Try.f54 0 (V54 0 r) (N54 0 r))) := by
  unfold F54 at hF
  refine TS.sq (TS.rg (TI.rn 3 [2, 3, 4] [0, 1, 2] (st 16 [(2, pt 0 0), (3, pt 1 0), (4, pt 2 0)]) (H54_0 p0 p1 p2 p3 p4 p5) (TI.dn (NX.sq (TS.sq ?_)))))
  have hX := of_do hF
  clear hF
  obtain ⟨r1, h2, hF⟩ := hX
  have hX := of_do hF
  clear hF
  obtain ⟨r3, h4, hF⟩ := hX
  have hT : ∀ e ∈ ([⟨53, [ag [iv 0, iv 0], iv p4, ag [iv p0, iv p1]], (H54_0 p0 p1 p2 p3 p4 p5), ag [iv r1.1, iv r1.2], []⟩, ⟨53, [ag [iv r1.1, iv r1.2], iv p5, ag [iv p2, iv p3]], (H54_0 p0 p1 p2 p3 p4 p5), ag [iv r3.1, iv r3.2], []⟩] : List Entry), PureSim Try.prog e.g e.args e.h e.v e.new := by
    intro e he
    simp only [List.mem_cons, List.not_mem_nil, or_false] at he
    rcases he with rfl | rfl
    · exact PureSim.ak (C53 _ _ _ _ _ _ h2)
    · exact PureSim.ak (C53 _ _ _ _ _ _ h4)
  refine TS.dp [⟨53, [ag [iv 0, iv 0], iv p4, ag [iv p0, iv p1]], (H54_0 p0 p1 p2 p3 p4 p5), ag [iv r1.1, iv r1.2], []⟩, ⟨53, [ag [iv r1.1, iv r1.2], iv p5, ag [iv p2, iv p3]], (H54_0 p0 p1 p2 p3 p4 p5), ag [iv r3.1, iv r3.2], []⟩] hT mixed 10 [4] [2] (st 16 [(4, pt 2 0)]) [.dead, .dead, cl 23 [iv r3.1, iv r3.2]] ?_ ?_
  · refine QJ.rn (qs (st 16 [(2, pt 0 0), (3, pt 1 0), (4, pt 2 0), (5, ag [iv 0, iv 0]), (6, pt 1 0), (7, iv p4), (8, pt 0 0), (9, ag [iv p0, iv p1])]) (H54_0 p0 p1 p2 p3 p4 p5) [] []) 5 (QJ.o { val := ag [iv r1.1, iv r1.2], new := [] } (qOf_call (g := 53) (args := [ag [iv 0, iv 0], iv p4, ag [iv p0, iv p1]]) (by kernel_rfl) lookC_hit) (QJ.rn (qs (st 16 [(2, pt 0 0), (3, pt 1 0), (4, pt 2 0), (5, ag [iv 0, iv 0]), (6, pt 1 0), (7, iv p4), (8, pt 0 0), (9, ag [iv p0, iv p1]), (10, ag [iv r1.1, iv r1.2]), (11, pt 1 1), (12, iv p5), (13, pt 0 2), (14, ag [iv p2, iv p3])]) (H54_0 p0 p1 p2 p3 p4 p5) [] []) 4 (QJ.dn ⟨rfl, ?_⟩)))
    exact SJ.o { val := ag [iv r3.1, iv r3.2], new := [] } (qOf_call (g := 53) (args := [ag [iv r1.1, iv r1.2], iv p5, ag [iv p2, iv p3]]) (by kernel_rfl) (lookC_skip (by intro _ ha _; have hr := Option.some.inj (h2.symm.trans (Eq.trans (congr (congr (congr (congr (congrArg F53 (show 0 = r1.1 from congrArg (leafI 0) ha)) (show 0 = r1.2 from congrArg (leafI 1) ha)) (show p4 = p5 from congrArg (leafI 2) ha)) (show p0 = p2 from congrArg (leafI 3) ha)) (show p1 = p3 from congrArg (leafI 4) ha)) h4)); first | (subst hr; rfl) | (cases hr; done) | (cases hr; rfl)) lookC_hit)) SJ.la
  refine TS.rt ?_
  have hF := Option.some.inj hF
  subst hF
  exact ⟨.inr rfl, rfl, ag [iv r3.1, iv r3.2], by kernel_rfl, WkV.flat0 (by kernel_rfl) (Nat.le_of_ble_eq_true rfl)⟩
theorem C54 (p0 : Int) (p1 : Int) (p2 : Int) (p3 : Int) (p4 : Int) (p5 : Int) (r : (Int × Int)) (hF : F54 p0 p1 p2 p3 p4 p5 = some r) : PureSim Try.prog 54 [ag [iv p0, iv p1, iv p2, iv p3], ag [iv p4, iv p5]] [] (V54 0 r) (N54 0 r) :=
  PureSim.of_Fin Try.func54 (c := c54) (by kernel_rfl) (by kernel_rfl) 0 rfl [0, 1] [] (by kernel_rfl) (B54 p0 p1 p2 p3 p4 p5 r hF)

-- agonic/magnet.Best
noncomputable def c28 : Code := Try.f28.code
def H28_0 (p0 : Int) (p1 : Int) (p2 : Int) (p3 : Int) (p4 : Int) (p5 : Int) (r1 : ((List (Int × Int)) × Int)) : List Blk := [cl 25 [iv p0, iv p1, iv p2, iv p3], cl 23 [iv p4, iv p5], cl 27 [iv 0, iv 0], cl 23 [iv 0, iv 0], accB 27 (List.length r1.1) (List.flatMap e27 r1.1)]
def F28 (p0 : Int) (p1 : Int) (p2 : Int) (p3 : Int) (p4 : Int) (p5 : Int) : Option ((Int × Int) × (Int × Int) × Int) :=
  F30 p0 p1 p2 p3 p4 p5 >>= fun r1 =>
  if r1.2 != 0 then
    some ((0, 0), (0, 0), r1.2)
  else
    if (0 : Int) ≤ 0 ∧ 0 < (List.length r1.1 : Int) then
      some (List.getD r1.1 (Int.toNat 0) (0, 0)) >>= fun o5 =>
      F54 p0 p1 p2 p3 o5.1 o5.2 >>= fun r7 =>
      F53 p4 p5 1 r7.1 r7.2 >>= fun r9 =>
      some ((o5.1, o5.2), (r9.1, r9.2), 0)
    else none
def V28 (b : Nat) (r : ((Int × Int) × (Int × Int) × Int)) : Value := .tuple ⟨[ag [iv r.1.1, iv r.1.2], ag [iv r.2.1.1, iv r.2.1.2], iv r.2.2]⟩
def N28 (b : Nat) (r : ((Int × Int) × (Int × Int) × Int)) : List Blk := []
theorem B28 (p0 : Int) (p1 : Int) (p2 : Int) (p3 : Int) (p4 : Int) (p5 : Int) (r : ((Int × Int) × (Int × Int) × Int)) (hF : F28 p0 p1 p2 p3 p4 p5 = some r) : TS Try.prog 0 0 c28 (st 29 [(0, ag [iv p0, iv p1, iv p2, iv p3]), (1, ag [iv p4, iv p5])]) [] (NX Try.prog 0 0 [] (FinP Try.prog Try.f28 0 (V28 0 r) (N28 0 r))) := by
  unfold F28 at hF
  refine TS.sq (TS.rg (TI.rn 5 [2, 3, 4, 5] [0, 1, 2, 3] (st 29 [(2, pt 0 0), (3, pt 1 0), (4, pt 2 0), (5, pt 3 0)]) [cl 25 [iv p0, iv p1, iv p2, iv p3], cl 23 [iv p4, iv p5], cl 27 [iv 0, iv 0], cl 23 [iv 0, iv 0]] (TI.dn (NX.sq (TS.sq ?_)))))
  have hX := of_do hF
  clear hF
  obtain ⟨r1, h2, hF⟩ := hX
  refine TS.rg (TI.ra 2 [2, 3, 4, 5, 9, 10] (st 29 [(2, pt 0 0), (3, pt 1 0), (4, pt 2 0), (5, pt 3 0), (9, ag [iv p0, iv p1, iv p2, iv p3]), (10, ag [iv p4, iv p5])]) (TI.cp 30 [ag [iv p0, iv p1, iv p2, iv p3], ag [iv p4, iv p5]] (.tuple ⟨[accV 4 (List.length r1.1), iv r1.2]⟩) [accB 27 (List.length r1.1) (List.flatMap e27 r1.1)] (PureSim.ren (hc := []) (fun i => List.getD [] i (0, 0)) (C30 _ _ _ _ _ _ _ h2) (.nil _) (.cons (.flat (by kernel_rfl)) (.cons (.flat (by kernel_rfl)) .nil)) (Rn.tuple' (.cons (Rn.acc (i' := 4) (Nat.le_of_ble_eq_true rfl) rfl) (.cons (.flat (by kernel_rfl)) .nil))) (newflat_cons (accB_flat (fun _ => rfl)) newflat_nil)) (TI.rn 5 [2, 3, 4, 5, 6, 7] [0, 1, 2, 3, 4] (st 29 [(2, pt 0 0), (3, pt 1 0), (4, pt 2 0), (5, pt 3 0), (6, iv r1.2), (7, accV 4 (List.length r1.1))]) (H28_0 p0 p1 p2 p3 p4 p5 r1) (TI.dn (NX.sq (TS.sq (TS.sq (TS.rg ?_))))))))
  refine TI.ra 2 [2, 3, 4, 5, 6, 7, 15] (st 29 [(2, pt 0 0), (3, pt 1 0), (4, pt 2 0), (5, pt 3 0), (6, iv r1.2), (7, accV 4 (List.length r1.1)), (15, .bool (r1.2 != 0))]) (TI.dn (NX.sq ?_))
  refine TS.cd (.tmp 15) (r1.2 != 0) (fun hc3 => ?_) (fun hc3 => ?_)
  · replace hF := of_pos hF hc3
    refine TS.sq (TS.rg (TI.rn 6 [4, 5, 6] [2, 3] (st 29 [(4, pt 2 0), (5, pt 3 0), (6, iv r1.2)]) [.dead, .dead, cl 27 [iv 0, iv 0], cl 23 [iv 0, iv 0], .dead] (TI.dn (NX.sq (TS.rt (NX.sqR ?_))))))
    have hF := Option.some.inj hF
    subst hF
    exact ⟨.inr rfl, rfl, .tuple ⟨[ag [iv 0, iv 0], ag [iv 0, iv 0], iv r1.2]⟩, by kernel_rfl, WkV.flat0 (by kernel_rfl) (Nat.le_of_ble_eq_true rfl)⟩
  · replace hF := of_neg hF hc3
    refine TS.sk (NX.sq (TS.sq ?_))
    have hX := of_guard hF
    clear hF
    obtain ⟨hg4, hF⟩ := hX
    have hX := of_do hF
    clear hF
    obtain ⟨o5, h6, hF⟩ := hX
    replace h6 := Option.some.inj h6
    have hX := of_do hF
    clear hF
    obtain ⟨r7, h8, hF⟩ := hX
    have hX := of_do hF
    clear hF
    obtain ⟨r9, h10, hF⟩ := hX
    have hT : ∀ e ∈ ([⟨54, [ag [iv p0, iv p1, iv p2, iv p3], ag [iv o5.1, iv o5.2]], (H28_0 p0 p1 p2 p3 p4 p5 r1), ag [iv r7.1, iv r7.2], []⟩, ⟨53, [ag [iv p4, iv p5], iv 1, ag [iv r7.1, iv r7.2]], (H28_0 p0 p1 p2 p3 p4 p5 r1), ag [iv r9.1, iv r9.2], []⟩] : List Entry), PureSim Try.prog e.g e.args e.h e.v e.new := by
      intro e he
      simp only [List.mem_cons, List.not_mem_nil, or_false] at he
      rcases he with rfl | rfl
      · exact PureSim.ak (C54 _ _ _ _ _ _ _ h8)
      · exact PureSim.ak (C53 _ _ _ _ _ _ h10)
    refine TS.dp [⟨54, [ag [iv p0, iv p1, iv p2, iv p3], ag [iv o5.1, iv o5.2]], (H28_0 p0 p1 p2 p3 p4 p5 r1), ag [iv r7.1, iv r7.2], []⟩, ⟨53, [ag [iv p4, iv p5], iv 1, ag [iv r7.1, iv r7.2]], (H28_0 p0 p1 p2 p3 p4 p5 r1), ag [iv r9.1, iv r9.2], []⟩] hT mixed 10 [4, 5, 6] [2, 3] (st 29 [(4, pt 2 0), (5, pt 3 0), (6, iv 0)]) [.dead, .dead, cl 27 [iv o5.1, iv o5.2], cl 23 [iv r9.1, iv r9.2], .dead] ?_ ?_
    · refine QJ.rn (qs (st 29 [(2, pt 0 0), (3, pt 1 0), (4, pt 2 0), (5, pt 3 0), (6, iv r1.2), (7, accV 4 (List.length r1.1)), (15, .bool (r1.2 != 0)), (19, accV 4 (List.length r1.1))]) (H28_0 p0 p1 p2 p3 p4 p5 r1) [] []) 1 (QJ.o { val := .pointer (some ⟨4, 0 + (Int.toNat 0) * 2, none⟩) } (q_ixAcc (P := Try.prog) (t := 60) (s := 2) (e := 27) 4 (List.length r1.1) (by kernel_rfl) hg4 (by kernel_rfl) (by kernel_rfl)) ?_)
      refine QJ.o { val := ag [iv o5.1, iv o5.2] } (q_eqv (q_ldA (P := Try.prog) (hp := (H28_0 p0 p1 p2 p3 p4 p5 r1)) (t := 27) (b := 4) (off := 0 + (Int.toNat 0) * 2) (l := r1.1) (enc := e27) (s := 2) (T := 27) (i := Int.toNat 0) (by kernel_rfl) (accB_at (h := (H28_0 p0 p1 p2 p3 p4 p5 r1)) (n := List.length r1.1) (i := Int.toNat 0) (by kernel_rfl) (by first | omega | (simp only [List.length_set, List.length_replicate, List.length_cons, List.length_nil, List.length_append]; omega))) (by kernel_rfl) (by kernel_rfl) (fun _ => rfl) (by omega) (by first | omega | (simp only [List.length_set, List.length_replicate, List.length_cons, List.length_nil, List.length_append]; omega)) (0, 0)) (congrArg (fun (z : (Int × Int)) => ({ val := ag [iv z.1, iv z.2] } : QRes)) h6)) (QJ.rn (qs (st 29 [(2, pt 0 0), (3, pt 1 0), (4, pt 2 0), (5, pt 3 0), (6, iv r1.2), (7, accV 4 (List.length r1.1)), (15, .bool (r1.2 != 0)), (19, accV 4 (List.length r1.1)), (20, .pointer (some ⟨4, 0 + (Int.toNat 0) * 2, none⟩)), (21, ag [iv o5.1, iv o5.2]), (22, ag [iv p4, iv p5]), (23, ag [iv p0, iv p1, iv p2, iv p3]), (24, accV 4 (List.length r1.1))]) (H28_0 p0 p1 p2 p3 p4 p5 r1) [] []) 3 (QJ.o { val := .pointer (some ⟨4, 0 + (Int.toNat 0) * 2, none⟩) } (q_ixAcc (P := Try.prog) (t := 60) (s := 2) (e := 27) 4 (List.length r1.1) (by kernel_rfl) hg4 (by kernel_rfl) (by kernel_rfl)) ?_))
      exact QJ.o { val := ag [iv o5.1, iv o5.2] } (q_eqv (q_ldA (P := Try.prog) (hp := (H28_0 p0 p1 p2 p3 p4 p5 r1)) (t := 27) (b := 4) (off := 0 + (Int.toNat 0) * 2) (l := r1.1) (enc := e27) (s := 2) (T := 27) (i := Int.toNat 0) (by kernel_rfl) (accB_at (h := (H28_0 p0 p1 p2 p3 p4 p5 r1)) (n := List.length r1.1) (i := Int.toNat 0) (by kernel_rfl) (by first | omega | (simp only [List.length_set, List.length_replicate, List.length_cons, List.length_nil, List.length_append]; omega))) (by kernel_rfl) (by kernel_rfl) (fun _ => rfl) (by omega) (by first | omega | (simp only [List.length_set, List.length_replicate, List.length_cons, List.length_nil, List.length_append]; omega)) (0, 0)) (congrArg (fun (z : (Int × Int)) => ({ val := ag [iv z.1, iv z.2] } : QRes)) h6)) (QJ.o { val := ag [iv r7.1, iv r7.2], new := [] } (qOf_call (g := 54) (args := [ag [iv p0, iv p1, iv p2, iv p3], ag [iv o5.1, iv o5.2]]) (by kernel_rfl) lookC_hit) (QJ.o { val := ag [iv r9.1, iv r9.2], new := [] } (qOf_call (g := 53) (args := [ag [iv p4, iv p5], iv 1, ag [iv r7.1, iv r7.2]]) (by kernel_rfl) (lookC_skip (fun hg => absurd (show (54 : Nat) = 53 from hg) (by decide)) lookC_hit)) (QJ.dn ⟨rfl, SJ.la⟩)))
    refine TS.rt ?_
    have hF := Option.some.inj hF
    subst hF
    exact ⟨.inr rfl, rfl, .tuple ⟨[ag [iv o5.1, iv o5.2], ag [iv r9.1, iv r9.2], iv 0]⟩, by kernel_rfl, WkV.flat0 (by kernel_rfl) (Nat.le_of_ble_eq_true rfl)⟩
theorem C28 (p0 : Int) (p1 : Int) (p2 : Int) (p3 : Int) (p4 : Int) (p5 : Int) (r : ((Int × Int) × (Int × Int) × Int)) (hF : F28 p0 p1 p2 p3 p4 p5 = some r) : PureSim Try.prog 28 [ag [iv p0, iv p1, iv p2, iv p3], ag [iv p4, iv p5]] [] (V28 0 r) (N28 0 r) :=
  PureSim.of_Fin Try.func28 (c := c28) (by kernel_rfl) (by kernel_rfl) 0 rfl [0, 1] [] (by kernel_rfl) (B28 p0 p1 p2 p3 p4 p5 r hF)

-- agonic/magnet.Reduce
noncomputable def c23 : Code := Try.f23.code
def H23_0 (r4 : (((Int × Int) × (Int × Int)) × (Int × Int) × (Int × Int))) : List Blk := [.dead, cl 27 [iv r4.2.1.1, iv r4.2.1.2], cl 27 [iv r4.2.2.1, iv r4.2.2.2], cl 108 [iv r4.1.1.1, iv r4.1.1.2, iv r4.1.2.1, iv r4.1.2.2, iv r4.2.1.1, iv r4.2.1.2, iv r4.2.2.1, iv r4.2.2.2]]
def H23_1 (r4 : (((Int × Int) × (Int × Int)) × (Int × Int) × (Int × Int))) : List Blk := [.dead, cl 27 [iv r4.2.1.1, iv r4.2.1.2], cl 27 [iv 0, iv 0], cl 108 [iv r4.1.1.1, iv r4.1.1.2, iv r4.1.2.1, iv r4.1.2.2, iv r4.2.1.1, iv r4.2.1.2, iv r4.2.2.1, iv r4.2.2.2]]
def S23_2 (r4 : (((Int × Int) × (Int × Int)) × (Int × Int) × (Int × Int))) : CAct := (st 20 [(2, pt 1 0), (3, pt 2 0), (4, iv 0), (6, pt 3 0), (16, pt 3 4), (17, ag [iv r4.2.1.1, iv r4.2.1.2]), (18, pt 3 6), (19, ag [iv r4.2.2.1, iv r4.2.2.2])])
def S23_3 (r4 : (((Int × Int) × (Int × Int)) × (Int × Int) × (Int × Int))) : CAct := (st 20 [(2, pt 1 0), (3, pt 2 0), (6, pt 3 0), (16, pt 3 4), (17, ag [iv r4.2.1.1, iv r4.2.1.2]), (18, pt 3 6), (19, ag [iv r4.2.2.1, iv r4.2.2.2])])
def F23 (p0 : Int) (p1 : Int) (p2 : Int) (p3 : Int) : Option ((Int × Int) × (Int × Int) × Int) :=
  F20 p0 p1 p2 p3 >>= fun r1 =>
  if r1 != 0 then
    some ((0, 0), (0, 0), r1)
  else
    F61 p0 p1 p2 p3 >>= fun r4 =>
    some ((r4.2.1.1, r4.2.1.2), (r4.2.2.1, r4.2.2.2), 0)
def V23 (b : Nat) (r : ((Int × Int) × (Int × Int) × Int)) : Value := .tuple ⟨[ag [iv r.1.1, iv r.1.2], ag [iv r.2.1.1, iv r.2.1.2], iv r.2.2]⟩
def N23 (b : Nat) (r : ((Int × Int) × (Int × Int) × Int)) : List Blk := []
theorem B23 (p0 : Int) (p1 : Int) (p2 : Int) (p3 : Int) (r : ((Int × Int) × (Int × Int) × Int)) (hF : F23 p0 p1 p2 p3 = some r) : TS Try.prog 0 0 c23 (st 20 [(0, ag [iv p0, iv p1, iv p2, iv p3])]) [] (NX Try.prog 0 0 [] (FinP Try.prog Try.f23 0 (V23 0 r) (N23 0 r))) := by
  unfold F23 at hF
  refine TS.sq (TS.rg (TI.rn 4 [1, 2, 3] [0, 1, 2] (st 20 [(1, pt 0 0), (2, pt 1 0), (3, pt 2 0)]) [cl 25 [iv p0, iv p1, iv p2, iv p3], cl 27 [iv 0, iv 0], cl 27 [iv 0, iv 0]] (TI.dn (NX.sq (TS.sq (TS.sq ?_))))))
  have hX := of_do hF
  clear hF
  obtain ⟨r1, h2, hF⟩ := hX
  refine TS.rg (TI.ra 1 [1, 2, 3, 7] (st 20 [(1, pt 0 0), (2, pt 1 0), (3, pt 2 0), (7, ag [iv p0, iv p1, iv p2, iv p3])]) (TI.cf (C20 _ _ _ _ _ h2) (TI.ra 1 [1, 2, 3, 5] (st 20 [(1, pt 0 0), (2, pt 1 0), (3, pt 2 0), (5, iv r1)]) (TI.dn (NX.sq (TS.sq (TS.rg (TI.ra 2 [1, 2, 3, 5, 10] (st 20 [(1, pt 0 0), (2, pt 1 0), (3, pt 2 0), (5, iv r1), (10, .bool (r1 != 0))]) ?_))))))))
  refine TI.dn (NX.sq ?_)
  refine TS.cd (.tmp 10) (r1 != 0) (fun hc3 => ?_) (fun hc3 => ?_)
  · replace hF := of_pos hF hc3
    refine TS.sq (TS.rg (TI.rn 6 [2, 3, 4] [1, 2] (st 20 [(2, pt 1 0), (3, pt 2 0), (4, iv r1)]) [.dead, cl 27 [iv 0, iv 0], cl 27 [iv 0, iv 0]] (TI.dn (NX.sq (TS.rt (NX.sqR ?_))))))
    have hF := Option.some.inj hF
    subst hF
    exact ⟨.inr rfl, rfl, .tuple ⟨[ag [iv 0, iv 0], ag [iv 0, iv 0], iv r1]⟩, by kernel_rfl, WkV.flat0 (by kernel_rfl) (Nat.le_of_ble_eq_true rfl)⟩
  · replace hF := of_neg hF hc3
    refine TS.sk (NX.sq (TS.sq ?_))
    have hX := of_do hF
    clear hF
    obtain ⟨r4, h5, hF⟩ := hX
    refine TS.rg (TI.rn 1 [2, 3, 14] [1, 2] (st 20 [(2, pt 1 0), (3, pt 2 0), (14, ag [iv p0, iv p1, iv p2, iv p3])]) [.dead, cl 27 [iv 0, iv 0], cl 27 [iv 0, iv 0]] (TI.cf (C61 _ _ _ _ _ h5) (TI.rn 2 [2, 3, 6] [1, 2, 3] (st 20 [(2, pt 1 0), (3, pt 2 0), (6, pt 3 0)]) [.dead, cl 27 [iv 0, iv 0], cl 27 [iv 0, iv 0], cl 108 [iv r4.1.1.1, iv r4.1.1.2, iv r4.1.2.1, iv r4.1.2.2, iv r4.2.1.1, iv r4.2.1.2, iv r4.2.2.1, iv r4.2.2.2]] (TI.dn (NX.sq (TS.sq ?_))))))
    refine TS.draw' (id := 5) (b := true) (ops := c23.s2.s2.s2.s1.rops) (fin := (qs (S23_3 r4) (H23_1 r4) [] [(4, 1)])) (fin2 := (qs (S23_3 r4) (H23_1 r4) [] [(4, 1)])) (a1 := (S23_2 r4)) (h1 := (H23_0 r4)) (a2 := (st 20 [(2, pt 1 0), (3, pt 2 0), (4, iv 0)])) (h2 := [.dead, cl 27 [iv r4.2.1.1, iv r4.2.1.2], cl 27 [iv r4.2.2.1, iv r4.2.2.2], .dead]) [] (fun e he => by cases he) mixed (by kernel_rfl) rfl 5 (by kernel_rfl) [(4, 1)] ?_ rfl (.inr ⟨?_, (by kernel_rfl)⟩) ?_ [2, 3, 4] [1, 2] (by kernel_rfl) ?_
    · exact QI.run (s1 := (qs (S23_3 r4) (H23_1 r4) [] [(4, 1)])) 5 (by kernel_rfl) (by kernel_rfl) (QI.done (by kernel_rfl))
    · exact QI.run (s1 := (qs (S23_3 r4) (H23_1 r4) [] [(4, 1)])) 5 (by kernel_rfl) (by kernel_rfl) (QI.done (by kernel_rfl))
    · exact SI.run (a2 := (S23_2 r4)) (h2 := (H23_0 r4)) 2 (by kernel_rfl) (SI.done (by kernel_rfl))
    refine TS.rt ?_
    have hF := Option.some.inj hF
    subst hF
    exact ⟨.inr rfl, rfl, .tuple ⟨[ag [iv r4.2.1.1, iv r4.2.1.2], ag [iv r4.2.2.1, iv r4.2.2.2], iv 0]⟩, by kernel_rfl, WkV.flat0 (by kernel_rfl) (Nat.le_of_ble_eq_true rfl)⟩
theorem C23 (p0 : Int) (p1 : Int) (p2 : Int) (p3 : Int) (r : ((Int × Int) × (Int × Int) × Int)) (hF : F23 p0 p1 p2 p3 = some r) : PureSim Try.prog 23 [ag [iv p0, iv p1, iv p2, iv p3]] [] (V23 0 r) (N23 0 r) :=
  PureSim.of_Fin Try.func23 (c := c23) (by kernel_rfl) (by kernel_rfl) 0 rfl [0] [] (by kernel_rfl) (B23 p0 p1 p2 p3 r hF)

end Go.Proofs.Ytenjelagfbceeaa
