/- What functions of the program compute, and that they do. -/
import Derived.Test.YtenjelagfbceeaaGB
set_option linter.unusedVariables false
set_option linter.unusedSimpArgs false
set_option maxRecDepth 100000
set_option maxHeartbeats 4000000
namespace Go.Proofs.Ytenjelagfbceeaa
open Go Go.Cl
def e23 (x : (Int × Int)) : List Value := [.int .i64 x.1, .int .i64 x.2]
-- agonic/agoniclaw06.vector
noncomputable def c43 : Code := Try.f43.code
def F43 (p0 : Int) (p1 : Int) : Option (Int × Int) :=
  some (p0, p1)
def V43 (b : Nat) (r : (Int × Int)) : Value := ag [iv r.1, iv r.2]
def N43 (b : Nat) (r : (Int × Int)) : List Blk := []
theorem B43 (p0 : Int) (p1 : Int) (r : (Int × Int)) (hF : F43 p0 p1 = some r) : TS Try.prog 0 0 c43 (st 8 [(0, iv p0), (1, iv p1)]) [] (NX Try.prog 0 0 [] (FinP Try.prog Try.f43 0 (V43 0 r) (N43 0 r))) := by
  unfold F43 at hF
  refine TS.seqP (by kernel_rfl) ?_
  refine TS.regionP (by kernel_rfl) ?_
  refine TI.run 1 [0, 1, 4] [0] (a2 := (st 8 [(0, iv p0), (1, iv p1), (4, pt 0 0)])) (h2 := [cl 23 [iv 0, iv 0]]) (by kernel_rfl) ?_
  refine TI.done (by kernel_rfl) ?_
  refine NX.sq ?_
  refine TS.seqP (by kernel_rfl) ?_
  refine TS.regionP (by kernel_rfl) ?_
  refine TI.run 4 [4] [0] (a2 := (st 8 [(4, pt 0 0)])) (h2 := [cl 23 [iv p0, iv p1]]) (by kernel_rfl) ?_
  refine TI.done (by kernel_rfl) ?_
  refine NX.sq ?_
  refine TS.ret' (by kernel_rfl) ?_
  have hF := Option.some.inj hF
  subst hF
  exact ⟨.inr rfl, rfl, ag [iv p0, iv p1], by kernel_rfl, WkV.flat0 (by kernel_rfl) (Nat.le_of_ble_eq_true rfl)⟩
theorem C43 (p0 : Int) (p1 : Int) (r : (Int × Int)) (hF : F43 p0 p1 = some r) : PureSim Try.prog 43 [iv p0, iv p1] [] (V43 0 r) (N43 0 r) :=
  PureSim.of_Fin Try.func43 (c := c43) (by kernel_rfl) (by kernel_rfl) 0 rfl [0, 1] [] (by kernel_rfl) (B43 p0 p1 r hF)

-- agonic/agoniclaw06.kit
noncomputable def c49 : Code := Try.f49.code
def F49 (p0 : Int) (p1 : Int) (p2 : Int) (p3 : Int) : Option ((Int × Int) × (Int × Int)) :=
  F43 p0 p1 >>= fun r1 =>
  F43 p2 p3 >>= fun r3 =>
  some ((r1.1, r1.2), (r3.1, r3.2))
def V49 (b : Nat) (r : ((Int × Int) × (Int × Int))) : Value := ag [iv r.1.1, iv r.1.2, iv r.2.1, iv r.2.2]
def N49 (b : Nat) (r : ((Int × Int) × (Int × Int))) : List Blk := []
theorem B49 (p0 : Int) (p1 : Int) (p2 : Int) (p3 : Int) (r : ((Int × Int) × (Int × Int))) (hF : F49 p0 p1 p2 p3 = some r) : TS Try.prog 0 0 c49 (st 16 [(0, iv p0), (1, iv p1), (2, iv p2), (3, iv p3)]) [] (NX Try.prog 0 0 [] (FinP Try.prog Try.f49 0 (V49 0 r) (N49 0 r))) := by
  unfold F49 at hF
  refine TS.seqP (by kernel_rfl) ?_
  refine TS.regionP (by kernel_rfl) ?_
  refine TI.run 1 [0, 1, 2, 3, 8] [0] (a2 := (st 16 [(0, iv p0), (1, iv p1), (2, iv p2), (3, iv p3), (8, pt 0 0)])) (h2 := [cl 25 [iv 0, iv 0, iv 0, iv 0]]) (by kernel_rfl) ?_
  refine TI.done (by kernel_rfl) ?_
  refine NX.sq ?_
  refine TS.seqP (by kernel_rfl) ?_
  have hX := of_do hF
  clear hF
  obtain ⟨r1, h2, hF⟩ := hX
  have hX := of_do hF
  clear hF
  obtain ⟨r3, h4, hF⟩ := hX
  refine TS.regionP (by kernel_rfl) ?_
  refine TI.runA 2 [2, 3, 8, 9, 10] (a2 := (st 16 [(2, iv p2), (3, iv p3), (8, pt 0 0), (9, iv p0), (10, iv p1)])) (by kernel_rfl) ?_
  refine TI.callF (C43 _ _ _ h2) (by kernel_rfl) (by kernel_rfl) ?_
  refine TI.runA 2 [8, 11, 12, 13] (a2 := (st 16 [(8, pt 0 0), (11, ag [iv r1.1, iv r1.2]), (12, iv p2), (13, iv p3)])) (by kernel_rfl) ?_
  refine TI.callF (C43 _ _ _ h4) (by kernel_rfl) (by kernel_rfl) ?_
  refine TI.run 2 [8] [0] (a2 := (st 16 [(8, pt 0 0)])) (h2 := [cl 25 [iv r1.1, iv r1.2, iv r3.1, iv r3.2]]) (by kernel_rfl) ?_
  refine TI.done (by kernel_rfl) ?_
  refine NX.sq ?_
  refine TS.ret' (by kernel_rfl) ?_
  have hF := Option.some.inj hF
  subst hF
  exact ⟨.inr rfl, rfl, ag [iv r1.1, iv r1.2, iv r3.1, iv r3.2], by kernel_rfl, WkV.flat0 (by kernel_rfl) (Nat.le_of_ble_eq_true rfl)⟩
theorem C49 (p0 : Int) (p1 : Int) (p2 : Int) (p3 : Int) (r : ((Int × Int) × (Int × Int))) (hF : F49 p0 p1 p2 p3 = some r) : PureSim Try.prog 49 [iv p0, iv p1, iv p2, iv p3] [] (V49 0 r) (N49 0 r) :=
  PureSim.of_Fin Try.func49 (c := c49) (by kernel_rfl) (by kernel_rfl) 0 rfl [0, 1, 2, 3] [] (by kernel_rfl) (B49 p0 p1 p2 p3 r hF)

-- agonic/agoniclaw06.area
noncomputable def c45 : Code := Try.f45.code
def F45 (p0 : Int) (p1 : Int) (p2 : Int) (p3 : Int) : Option Int :=
  some (mx (w64 ((w64 (p0 * p3)) - (w64 (p1 * p2)))) (w64 (0 - (w64 ((w64 (p0 * p3)) - (w64 (p1 * p2))))))) >>= fun o1 =>
  some o1
def V45 (b : Nat) (r : Int) : Value := iv r
def N45 (b : Nat) (r : Int) : List Blk := []
theorem B45 (p0 : Int) (p1 : Int) (p2 : Int) (p3 : Int) (r : Int) (hF : F45 p0 p1 p2 p3 = some r) : TS Try.prog 0 0 c45 (st 21 [(0, ag [iv p0, iv p1]), (1, ag [iv p2, iv p3])]) [] (NX Try.prog 0 0 [] (FinP Try.prog Try.f45 0 (V45 0 r) (N45 0 r))) := by
  unfold F45 at hF
  refine TS.seqP (by kernel_rfl) ?_
  refine TS.regionP (by kernel_rfl) ?_
  refine TI.run 3 [2, 3] [0, 1] (a2 := (st 21 [(2, pt 0 0), (3, pt 1 0)])) (h2 := [cl 23 [iv p0, iv p1], cl 23 [iv p2, iv p3]]) (by kernel_rfl) ?_
  refine TI.done (by kernel_rfl) ?_
  refine NX.sq ?_
  refine TS.seqP (by kernel_rfl) ?_
  refine TS.regionP (by kernel_rfl) ?_
  refine TI.run 12 [5] [] (a2 := (st 21 [(5, iv (w64 ((w64 (p0 * p3)) - (w64 (p1 * p2)))))])) (h2 := [.dead, .dead]) (by kernel_rfl) ?_
  refine TI.done (by kernel_rfl) ?_
  refine NX.sq ?_
  refine TS.seqP (by kernel_rfl) ?_
  have hX := of_do hF
  clear hF
  obtain ⟨o1, h2, hF⟩ := hX
  replace h2 := Option.some.inj h2
  refine TS.regionP (by kernel_rfl) ?_
  refine TI.runA 3 [17, 19] (a2 := (st 21 [(17, iv (w64 ((w64 (p0 * p3)) - (w64 (p1 * p2))))), (19, iv (w64 (0 - (w64 ((w64 (p0 * p3)) - (w64 (p1 * p2)))))))])) (by kernel_rfl) ?_
  refine TI.op (q := { val := iv o1 }) (q_convI (e := mx (w64 ((w64 (p0 * p3)) - (w64 (p1 * p2)))) (w64 (0 - (w64 ((w64 (p0 * p3)) - (w64 (p1 * p2))))))) (y := o1) (by kernel_rfl) h2) [20] [] (a2 := (st 21 [(20, iv o1)])) (h2 := [.dead, .dead]) (by kernel_rfl) ?_
  refine TI.runA 1 [4] (a2 := (st 21 [(4, iv o1)])) (by kernel_rfl) ?_
  refine TI.done (by kernel_rfl) ?_
  refine NX.sq ?_
  refine TS.ret' (by kernel_rfl) ?_
  have hF := Option.some.inj hF
  subst hF
  exact ⟨.inr rfl, rfl, iv o1, by kernel_rfl, WkV.flat0 (by kernel_rfl) (Nat.le_of_ble_eq_true rfl)⟩
theorem C45 (p0 : Int) (p1 : Int) (p2 : Int) (p3 : Int) (r : Int) (hF : F45 p0 p1 p2 p3 = some r) : PureSim Try.prog 45 [ag [iv p0, iv p1], ag [iv p2, iv p3]] [] (V45 0 r) (N45 0 r) :=
  PureSim.of_Fin Try.func45 (c := c45) (by kernel_rfl) (by kernel_rfl) 0 rfl [0, 1] [] (by kernel_rfl) (B45 p0 p1 p2 p3 r hF)

-- (agonic/agoniclaw06.Ship).made
noncomputable def c36 : Code := Try.f36.code
def H36_0 (p0 : Int) (p1 : Int) (p2 : Int) (p3 : Int) (p4 : Int) (p5 : Int) (m12 : (Int × Int × Int × Int)) : List Blk := [cl 77 [.int .i8 p0, .int .i8 p1, .int .i8 p2, .int .i8 p3, .int .i16 p4, .int .i16 p5], cl 25 [iv 0, iv 0, iv 0, iv 0], cl 23 [iv 0, iv 0], cl 25 [iv m12.1, iv m12.2.1, iv m12.2.2.1, iv m12.2.2.2]]
def S36_1  : CAct := (st 45 [(1, pt 0 0), (2, pt 1 0), (3, pt 2 0), (4, pt 3 0)])
def F36 (p0 : Int) (p1 : Int) (p2 : Int) (p3 : Int) (p4 : Int) (p5 : Int) : Option (((Int × Int) × (Int × Int)) × (Int × Int)) :=
  F49 (Int.tmod (w64 p0) 13) (Int.tmod (w64 p1) 13) (Int.tmod (w64 p2) 13) (Int.tmod (w64 p3) 13) >>= fun r1 =>
  F45 r1.1.1 r1.1.2 r1.2.1 r1.2.2 >>= fun r3 =>
  (
    if r3 == 0 then
      F49 3 1 1 4 >>= fun r17 =>
      some (r17.1.1, r17.1.2, r17.2.1, r17.2.2)
    else
      some (r1.1.1, r1.1.2, r1.2.1, r1.2.2)
  : Option (Int × Int × Int × Int)) >>= fun m12 =>
  F43 (Int.tmod (w64 p4) 200) (Int.tmod (w64 p5) 200) >>= fun r14 =>
  some (((m12.1, m12.2.1), (m12.2.2.1, m12.2.2.2)), (r14.1, r14.2))
def V36 (b : Nat) (r : (((Int × Int) × (Int × Int)) × (Int × Int))) : Value := .tuple ⟨[ag [iv r.1.1.1, iv r.1.1.2, iv r.1.2.1, iv r.1.2.2], ag [iv r.2.1, iv r.2.2]]⟩
def N36 (b : Nat) (r : (((Int × Int) × (Int × Int)) × (Int × Int))) : List Blk := []
theorem B36 (p0 : Int) (p1 : Int) (p2 : Int) (p3 : Int) (p4 : Int) (p5 : Int) (r : (((Int × Int) × (Int × Int)) × (Int × Int))) (hF : F36 p0 p1 p2 p3 p4 p5 = some r) : TS Try.prog 0 0 c36 (st 45 [(0, ag [.int .i8 p0, .int .i8 p1, .int .i8 p2, .int .i8 p3, .int .i16 p4, .int .i16 p5])]) [] (NX Try.prog 0 0 [] (FinP Try.prog Try.f36 0 (V36 0 r) (N36 0 r))) := by
  unfold F36 at hF
  refine TS.seqP (by kernel_rfl) ?_
  refine TS.regionP (by kernel_rfl) ?_
  refine TI.run 3 [1, 2, 3] [0, 1, 2] (a2 := (st 45 [(1, pt 0 0), (2, pt 1 0), (3, pt 2 0)])) (h2 := [cl 77 [.int .i8 p0, .int .i8 p1, .int .i8 p2, .int .i8 p3, .int .i16 p4, .int .i16 p5], cl 25 [iv 0, iv 0, iv 0, iv 0], cl 23 [iv 0, iv 0]]) (by kernel_rfl) ?_
  refine TI.done (by kernel_rfl) ?_
  refine NX.sq ?_
  refine TS.seqP (by kernel_rfl) ?_
  have hX := of_do hF
  clear hF
  obtain ⟨r1, h2, hF⟩ := hX
  refine TS.regionP (by kernel_rfl) ?_
  refine TI.runA 20 [1, 2, 3, 9, 14, 19, 24] (a2 := (st 45 [(1, pt 0 0), (2, pt 1 0), (3, pt 2 0), (9, iv (Int.tmod (w64 p0) 13)), (14, iv (Int.tmod (w64 p1) 13)), (19, iv (Int.tmod (w64 p2) 13)), (24, iv (Int.tmod (w64 p3) 13))])) (by kernel_rfl) ?_
  refine TI.callF (C49 _ _ _ _ _ h2) (by kernel_rfl) (by kernel_rfl) ?_
  refine TI.run 2 [1, 2, 3, 4] [0, 1, 2, 3] (a2 := (S36_1)) (h2 := [cl 77 [.int .i8 p0, .int .i8 p1, .int .i8 p2, .int .i8 p3, .int .i16 p4, .int .i16 p5], cl 25 [iv 0, iv 0, iv 0, iv 0], cl 23 [iv 0, iv 0], cl 25 [iv r1.1.1, iv r1.1.2, iv r1.2.1, iv r1.2.2]]) (by kernel_rfl) ?_
  refine TI.done (by kernel_rfl) ?_
  refine NX.sq ?_
  refine TS.seqP (by kernel_rfl) ?_
  refine TS.seqP (by kernel_rfl) ?_
  have hX := of_do hF
  clear hF
  obtain ⟨r3, h4, hF⟩ := hX
  refine TS.regionP (by kernel_rfl) ?_
  refine TI.runA 4 [1, 2, 3, 4, 27, 29] (a2 := (st 45 [(1, pt 0 0), (2, pt 1 0), (3, pt 2 0), (4, pt 3 0), (27, ag [iv r1.1.1, iv r1.1.2]), (29, ag [iv r1.2.1, iv r1.2.2])])) (by kernel_rfl) ?_
  refine TI.callF (C45 _ _ _ _ _ h4) (by kernel_rfl) (by kernel_rfl) ?_
  refine TI.runA 1 [1, 2, 3, 4, 31] (a2 := (st 45 [(1, pt 0 0), (2, pt 1 0), (3, pt 2 0), (4, pt 3 0), (31, .bool (r3 == 0))])) (by kernel_rfl) ?_
  refine TI.done (by kernel_rfl) ?_
  refine NX.sq ?_
  have hX := of_do hF
  clear hF
  obtain ⟨m12, hm13, hF⟩ := hX
  have hK : NX Try.prog 0 0 [.sq c36.s2.s2.s2] (FinP Try.prog Try.f36 0 (V36 0 r) (N36 0 r)) .normal (S36_1) (H36_0 p0 p1 p2 p3 p4 p5 m12) := by
    refine NX.sq ?_
    refine TS.seqP (by kernel_rfl) ?_
    have hX := of_do hF
    clear hF
    obtain ⟨r14, h15, hF⟩ := hX
    have hT : ∀ e ∈ ([⟨43, [iv (Int.tmod (w64 p4) 200), iv (Int.tmod (w64 p5) 200)], (H36_0 p0 p1 p2 p3 p4 p5 m12), ag [iv r14.1, iv r14.2], []⟩] : List Entry), PureSim Try.prog e.g e.args e.h e.v e.new := by
      intro e he
      simp only [List.mem_cons, List.not_mem_nil, or_false] at he
      rcases he with rfl
      · exact PureSim.anyK (C43 _ _ _ h15) (by kernel_rfl)
    refine TS.drawP [⟨43, [iv (Int.tmod (w64 p4) 200), iv (Int.tmod (w64 p5) 200)], (H36_0 p0 p1 p2 p3 p4 p5 m12), ag [iv r14.1, iv r14.2], []⟩] hT mixed (by kernel_rfl) 12 (by kernel_rfl) [2, 3] [1, 2] (a2 := (st 45 [(2, pt 1 0), (3, pt 2 0)])) (h2 := [.dead, cl 25 [iv m12.1, iv m12.2.1, iv m12.2.2.1, iv m12.2.2.2], cl 23 [iv r14.1, iv r14.2], .dead]) ?_ ?_
    · refine QJ.run (s1 := (qs (st 45 [(1, pt 0 0), (2, pt 1 0), (3, pt 2 0), (4, pt 3 0), (33, ag [iv m12.1, iv m12.2.1, iv m12.2.2.1, iv m12.2.2.2]), (34, pt 0 4), (35, pt 0 4), (36, .int .i16 p4), (37, iv (w64 p4)), (38, iv (Int.tmod (w64 p4) 200)), (39, pt 0 4), (40, pt 0 5), (41, .int .i16 p5), (42, iv (w64 p5)), (43, iv (Int.tmod (w64 p5) 200))]) (H36_0 p0 p1 p2 p3 p4 p5 m12) [] [])) 11 (by kernel_rfl) (by kernel_rfl) ?_
      refine QJ.op (q := { val := ag [iv r14.1, iv r14.2], new := [] }) (by decide) (qOf_call (g := 43) (args := [iv (Int.tmod (w64 p4) 200), iv (Int.tmod (w64 p5) 200)]) (by kernel_rfl) lookC_hit) ?_
      refine QJ.done (by kernel_rfl) ⟨rfl, ?_⟩
      refine SJ.last (by kernel_rfl)
    refine TS.ret' (by kernel_rfl) ?_
    have hF := Option.some.inj hF
    subst hF
    exact ⟨.inr rfl, rfl, .tuple ⟨[ag [iv m12.1, iv m12.2.1, iv m12.2.2.1, iv m12.2.2.2], ag [iv r14.1, iv r14.2]]⟩, by kernel_rfl, WkV.flat0 (by kernel_rfl) (Nat.le_of_ble_eq_true rfl)⟩
  clear hF
  have hF := hm13
  clear hm13
  refine TS.start ?_
  refine TS.condP (o := (.tmp 31)) (b := r3 == 0) (by kernel_rfl) (by kernel_rfl) (fun hc16 => ?_) (fun hc16 => ?_)
  · replace hF := of_pos hF hc16
    have hX := of_do hF
    clear hF
    obtain ⟨r17, h18, hF⟩ := hX
    refine TS.regionP (by kernel_rfl) ?_
    refine TI.callF (C49 _ _ _ _ _ h18) (by kernel_rfl) (by kernel_rfl) ?_
    refine TI.run 1 [1, 2, 3, 4] [0, 1, 2, 3] (a2 := (S36_1)) (h2 := [cl 77 [.int .i8 p0, .int .i8 p1, .int .i8 p2, .int .i8 p3, .int .i16 p4, .int .i16 p5], cl 25 [iv 0, iv 0, iv 0, iv 0], cl 23 [iv 0, iv 0], cl 25 [iv r17.1.1, iv r17.1.2, iv r17.2.1, iv r17.2.2]]) (by kernel_rfl) ?_
    refine TI.done (by kernel_rfl) ?_
    have hF := Option.some.inj hF
    subst hF
    exact TS.weak (Wk.anew (base := 0) (L := 0) (f := [0, 1, 2, 3]) (by decide) (by decide) (Nat.le_of_ble_eq_true rfl) rfl (.cons (At.blk (by kernel_rfl) (RnB.lit (.cons (.flat (by kernel_rfl)) (.cons (.flat (by kernel_rfl)) (.cons (.flat (by kernel_rfl)) (.cons (.flat (by kernel_rfl)) (.cons (.flat (by kernel_rfl)) (.cons (.flat (by kernel_rfl)) .nil)))))))) (.cons (At.blk (by kernel_rfl) (RnB.lit (.cons (.flat (by kernel_rfl)) (.cons (.flat (by kernel_rfl)) (.cons (.flat (by kernel_rfl)) (.cons (.flat (by kernel_rfl)) .nil)))))) (.cons (At.blk (by kernel_rfl) (RnB.lit (.cons (.flat (by kernel_rfl)) (.cons (.flat (by kernel_rfl)) .nil)))) (.cons (At.blk (by kernel_rfl) (RnB.lit (.cons (.flat (by kernel_rfl)) (.cons (.flat (by kernel_rfl)) (.cons (.flat (by kernel_rfl)) (.cons (.flat (by kernel_rfl)) .nil)))))) (.nil _))))) (LRn.stx [1, 2, 3, 4] [pt 0 0, pt 1 0, pt 2 0, pt 3 0] [pt 0 0, pt 1 0, pt 2 0, pt 3 0] (.cons (Rn.ptr _ _ _ (Nat.le_of_ble_eq_true rfl) rfl) (.cons (Rn.ptr _ _ _ (Nat.le_of_ble_eq_true rfl) rfl) (.cons (Rn.ptr _ _ _ (Nat.le_of_ble_eq_true rfl) rfl) (.cons (Rn.ptr _ _ _ (Nat.le_of_ble_eq_true rfl) rfl) .nil)))) (by kernel_rfl) (by kernel_rfl) rfl) rfl rfl) hK
  · replace hF := of_neg hF hc16
    refine TS.skip' (by kernel_rfl) ?_
    have hF := Option.some.inj hF
    subst hF
    exact TS.weak (Wk.anew (base := 0) (L := 0) (f := [0, 1, 2, 3]) (by decide) (by decide) (Nat.le_of_ble_eq_true rfl) rfl (.cons (At.blk (by kernel_rfl) (RnB.lit (.cons (.flat (by kernel_rfl)) (.cons (.flat (by kernel_rfl)) (.cons (.flat (by kernel_rfl)) (.cons (.flat (by kernel_rfl)) (.cons (.flat (by kernel_rfl)) (.cons (.flat (by kernel_rfl)) .nil)))))))) (.cons (At.blk (by kernel_rfl) (RnB.lit (.cons (.flat (by kernel_rfl)) (.cons (.flat (by kernel_rfl)) (.cons (.flat (by kernel_rfl)) (.cons (.flat (by kernel_rfl)) .nil)))))) (.cons (At.blk (by kernel_rfl) (RnB.lit (.cons (.flat (by kernel_rfl)) (.cons (.flat (by kernel_rfl)) .nil)))) (.cons (At.blk (by kernel_rfl) (RnB.lit (.cons (.flat (by kernel_rfl)) (.cons (.flat (by kernel_rfl)) (.cons (.flat (by kernel_rfl)) (.cons (.flat (by kernel_rfl)) .nil)))))) (.nil _))))) (LRn.stx [1, 2, 3, 4] [pt 0 0, pt 1 0, pt 2 0, pt 3 0] [pt 0 0, pt 1 0, pt 2 0, pt 3 0] (.cons (Rn.ptr _ _ _ (Nat.le_of_ble_eq_true rfl) rfl) (.cons (Rn.ptr _ _ _ (Nat.le_of_ble_eq_true rfl) rfl) (.cons (Rn.ptr _ _ _ (Nat.le_of_ble_eq_true rfl) rfl) (.cons (Rn.ptr _ _ _ (Nat.le_of_ble_eq_true rfl) rfl) .nil)))) (by kernel_rfl) (by kernel_rfl) rfl) rfl rfl) hK
theorem C36 (p0 : Int) (p1 : Int) (p2 : Int) (p3 : Int) (p4 : Int) (p5 : Int) (r : (((Int × Int) × (Int × Int)) × (Int × Int))) (hF : F36 p0 p1 p2 p3 p4 p5 = some r) : PureSim Try.prog 36 [ag [.int .i8 p0, .int .i8 p1, .int .i8 p2, .int .i8 p3, .int .i16 p4, .int .i16 p5]] [] (V36 0 r) (N36 0 r) :=
  PureSim.of_Fin Try.func36 (c := c36) (by kernel_rfl) (by kernel_rfl) 0 rfl [0] [] (by kernel_rfl) (B36 p0 p1 p2 p3 p4 p5 r hF)

-- agonic/magnet.Within$1
noncomputable def c71 : Code := Try.f71.code
def H71_0 (p1 : Int) (p2 : Int) (p3 : Int) (p4 : Int) (p5 : Int) (p6 : Int) (p7 : Int) (p8 : Int) (p9 : Int) (p10 : Int) : List Blk := [cl 3 [iv p1], cl 3 [iv p2], cl 108 [iv p3, iv p4, iv p5, iv p6, iv p7, iv p8, iv p9, iv p10]]
def F71 (p0 : Int) (p1 : Int) (p2 : Int) (p3 : Int) (p4 : Int) (p5 : Int) (p6 : Int) (p7 : Int) (p8 : Int) (p9 : Int) (p10 : Int) : Option Bool :=
  F63 p3 p4 >>= fun r1 =>
  some (decide ((w64 ((w64 ((w64 (p0 * p0)) * p1)) * p1)) > (w64 (p2 * r1))))
def V71 (b : Nat) (r : Bool) : Value := .bool r
def N71 (b : Nat) (r : Bool) : List Blk := []
theorem B71 (p0 : Int) (p1 : Int) (p2 : Int) (p3 : Int) (p4 : Int) (p5 : Int) (p6 : Int) (p7 : Int) (p8 : Int) (p9 : Int) (p10 : Int) (r : Bool) (hF : F71 p0 p1 p2 p3 p4 p5 p6 p7 p8 p9 p10 = some r) : TS Try.prog 3 3 c71 (st 20 [(0, iv p0), (1, pt 0 0), (2, pt 1 0), (3, pt 2 0)]) (H71_0 p1 p2 p3 p4 p5 p6 p7 p8 p9 p10) (NX Try.prog 3 3 [] (FinP Try.prog Try.f71 3 (V71 3 r) (N71 3 r))) := by
  unfold F71 at hF
  refine TS.seqP (by kernel_rfl) ?_
  refine TS.regionP (by kernel_rfl) ?_
  refine TI.runA 1 [0, 1, 2, 3] (a2 := (st 20 [(0, iv p0), (1, pt 0 0), (2, pt 1 0), (3, pt 2 0)])) (by kernel_rfl) ?_
  refine TI.done (by kernel_rfl) ?_
  refine NX.sq ?_
  refine TS.seqP (by kernel_rfl) ?_
  have hX := of_do hF
  clear hF
  obtain ⟨r1, h2, hF⟩ := hX
  have hT : ∀ e ∈ ([⟨63, [ag [iv p3, iv p4]], (H71_0 p1 p2 p3 p4 p5 p6 p7 p8 p9 p10), iv r1, []⟩] : List Entry), PureSim Try.prog e.g e.args e.h e.v e.new := by
    intro e he
    simp only [List.mem_cons, List.not_mem_nil, or_false] at he
    rcases he with rfl
    · exact PureSim.anyK (C63 _ _ _ h2) (by kernel_rfl)
  refine TS.drawP [⟨63, [ag [iv p3, iv p4]], (H71_0 p1 p2 p3 p4 p5 p6 p7 p8 p9 p10), iv r1, []⟩] hT mixed (by kernel_rfl) 13 (by kernel_rfl) [5] [0, 1, 2] (a2 := (st 20 [(5, .bool (decide ((w64 ((w64 ((w64 (p0 * p0)) * p1)) * p1)) > (w64 (p2 * r1)))))])) (h2 := (H71_0 p1 p2 p3 p4 p5 p6 p7 p8 p9 p10)) ?_ ?_
  · refine QJ.run (s1 := (qs (st 20 [(0, iv p0), (1, pt 0 0), (2, pt 1 0), (3, pt 2 0), (6, iv p0), (7, iv p0), (8, iv (w64 (p0 * p0))), (9, iv p1), (10, iv (w64 ((w64 (p0 * p0)) * p1))), (11, iv p1), (12, iv (w64 ((w64 ((w64 (p0 * p0)) * p1)) * p1))), (13, iv p2), (14, pt 2 0), (15, pt 2 0), (16, ag [iv p3, iv p4])]) (H71_0 p1 p2 p3 p4 p5 p6 p7 p8 p9 p10) [] [])) 11 (by kernel_rfl) (by kernel_rfl) ?_
    refine QJ.op (q := { val := iv r1, new := [] }) (by decide) (qOf_call (g := 63) (args := [ag [iv p3, iv p4]]) (by kernel_rfl) lookC_hit) ?_
    refine QJ.run (s1 := (qs (st 20 [(0, iv p0), (1, pt 0 0), (2, pt 1 0), (3, pt 2 0), (6, iv p0), (7, iv p0), (8, iv (w64 (p0 * p0))), (9, iv p1), (10, iv (w64 ((w64 (p0 * p0)) * p1))), (11, iv p1), (12, iv (w64 ((w64 ((w64 (p0 * p0)) * p1)) * p1))), (13, iv p2), (14, pt 2 0), (15, pt 2 0), (16, ag [iv p3, iv p4]), (17, iv r1), (18, iv (w64 (p2 * r1)))]) (H71_0 p1 p2 p3 p4 p5 p6 p7 p8 p9 p10) [] [])) 1 (by kernel_rfl) (by kernel_rfl) ?_
    refine QJ.done (by kernel_rfl) ⟨rfl, ?_⟩
    refine SJ.last (by kernel_rfl)
  refine TS.ret' (by kernel_rfl) ?_
  have hF := Option.some.inj hF
  subst hF
  exact ⟨.inr rfl, rfl, .bool (decide ((w64 ((w64 ((w64 (p0 * p0)) * p1)) * p1)) > (w64 (p2 * r1)))), by kernel_rfl, WkV.flat0 (by kernel_rfl) (Nat.le_of_ble_eq_true rfl)⟩
theorem C71 (p0 : Int) (p1 : Int) (p2 : Int) (p3 : Int) (p4 : Int) (p5 : Int) (p6 : Int) (p7 : Int) (p8 : Int) (p9 : Int) (p10 : Int) (r : Bool) (hF : F71 p0 p1 p2 p3 p4 p5 p6 p7 p8 p9 p10 = some r) : PureSim Try.prog 71 [iv p0, pt 0 0, pt 1 0, pt 2 0] (H71_0 p1 p2 p3 p4 p5 p6 p7 p8 p9 p10) (V71 3 r) (N71 3 r) :=
  PureSim.of_Fin Try.func71 (c := c71) (by kernel_rfl) (by kernel_rfl) 3 rfl [0, 1, 2, 3] [0, 1, 2] (by kernel_rfl) (B71 p0 p1 p2 p3 p4 p5 p6 p7 p8 p9 p10 r hF)

-- agonic/magnet.least
noncomputable def c70 : Code := Try.f70.code
def S70_0 (v5 : Int) : CAct := (st 11 [(0, .func (.func 71) ⟨[]⟩ ⟨[pt 0 0, pt 1 0, pt 2 0]⟩), (3, iv v5), (4, .func (.func 71) ⟨[]⟩ ⟨[pt 0 0, pt 1 0, pt 2 0]⟩), (5, iv v5)])
def H70_1 (p0 : Int) (p1 : Int) (p2 : Int) (p3 : Int) (p4 : Int) (p5 : Int) (p6 : Int) (p7 : Int) (p8 : Int) (p9 : Int) : List Blk := [cl 3 [iv p0], cl 3 [iv p1], cl 108 [iv p2, iv p3, iv p4, iv p5, iv p6, iv p7, iv p8, iv p9]]
def F70l0 (p0 : Int) (p1 : Int) (p2 : Int) (p3 : Int) (p4 : Int) (p5 : Int) (p6 : Int) (p7 : Int) (p8 : Int) (p9 : Int) (v5 : Int) : Option Int :=
    F71 v5 p0 p1 p2 p3 p4 p5 p6 p7 p8 p9 >>= fun r11 =>
    (
      if r11 then
        some (false)
      else
        some (true)
    : Option Bool) >>= fun m13 =>
    if m13 then
      F70l0 p0 p1 p2 p3 p4 p5 p6 p7 p8 p9 (w64 (v5 + 1))
    else
      some v5
  partial_fixpoint
def F70 (p0 : Int) (p1 : Int) (p2 : Int) (p3 : Int) (p4 : Int) (p5 : Int) (p6 : Int) (p7 : Int) (p8 : Int) (p9 : Int) : Option Int :=
  F70l0 p0 p1 p2 p3 p4 p5 p6 p7 p8 p9 0 >>= fun r15 =>
  some r15
def V70 (b : Nat) (r : Int) : Value := iv r
def N70 (b : Nat) (r : Int) : List Blk := []
def P70l0 (p0 : Int) (p1 : Int) (p2 : Int) (p3 : Int) (p4 : Int) (p5 : Int) (p6 : Int) (p7 : Int) (p8 : Int) (p9 : Int) (r : Int) : Post := fun e a h => e = .exit 0 ∧ Wk Try.prog 3 3 a h (st 11 [(3, iv r)]) (H70_1 p0 p1 p2 p3 p4 p5 p6 p7 p8 p9)
theorem L70l0 (p0 : Int) (p1 : Int) (p2 : Int) (p3 : Int) (p4 : Int) (p5 : Int) (p6 : Int) (p7 : Int) (p8 : Int) (p9 : Int) (v5 : Int) (r : Int) (hF : F70l0 p0 p1 p2 p3 p4 p5 p6 p7 p8 p9 v5 = some r) : TL Try.prog 3 3 c70.s2.s2.s1.bd.bd (st 11 [(0, .func (.func 71) ⟨[]⟩ ⟨[pt 0 0, pt 1 0, pt 2 0]⟩), (3, iv v5)]) (H70_1 p0 p1 p2 p3 p4 p5 p6 p7 p8 p9) (P70l0 p0 p1 p2 p3 p4 p5 p6 p7 p8 p9 r) := by
  refine F70l0.partial_correctness p0 p1 p2 p3 p4 p5 p6 p7 p8 p9 (motive := fun v5 r => TL Try.prog 3 3 c70.s2.s2.s1.bd.bd (st 11 [(0, .func (.func 71) ⟨[]⟩ ⟨[pt 0 0, pt 1 0, pt 2 0]⟩), (3, iv v5)]) (H70_1 p0 p1 p2 p3 p4 p5 p6 p7 p8 p9) (P70l0 p0 p1 p2 p3 p4 p5 p6 p7 p8 p9 r)) ?_ v5 r hF
  clear hF r v5
  intro again ih v5 r hF
  refine TL.round ?_
  refine TS.seqP (by kernel_rfl) ?_
  refine TS.seqP (by kernel_rfl) ?_
  have hX := of_do hF
  clear hF
  obtain ⟨r11, h12, hF⟩ := hX
  have hX := of_do hF
  clear hF
  obtain ⟨m13, hm14, hF⟩ := hX
  have hK : NX Try.prog 3 3 [.sq c70.s2.s2.s1.bd.bd.s1.s2, .sq c70.s2.s2.s1.bd.bd.s2] (Rd Try.prog 3 3 c70.s2.s2.s1.bd.bd (P70l0 p0 p1 p2 p3 p4 p5 p6 p7 p8 p9 r)) .normal (st 11 [(0, .func (.func 71) ⟨[]⟩ ⟨[pt 0 0, pt 1 0, pt 2 0]⟩), (3, iv v5), (7, .bool m13)]) (H70_1 p0 p1 p2 p3 p4 p5 p6 p7 p8 p9) := by
    refine NX.sq ?_
    cases m13 with
    | true =>
      replace hF := of_pos hF rfl
      refine TS.condTP (o := (.tmp 7)) (by kernel_rfl) (by kernel_rfl) ?_
      refine TS.skip' (by kernel_rfl) ?_
      refine NX.sq ?_
      refine TS.blockP (id := 1) (by kernel_rfl) ?_
      refine TS.regionP (by kernel_rfl) ?_
      refine TI.runA 3 [0, 3] (a2 := (st 11 [(0, .func (.func 71) ⟨[]⟩ ⟨[pt 0 0, pt 1 0, pt 2 0]⟩), (3, iv (w64 (v5 + 1)))])) (by kernel_rfl) ?_
      refine TI.done (by kernel_rfl) ?_
      refine NX.bk ?_
      exact Rd.again (a2 := (st 11 [(0, .func (.func 71) ⟨[]⟩ ⟨[pt 0 0, pt 1 0, pt 2 0]⟩), (3, iv (w64 (v5 + 1)))])) (h2 := (H70_1 p0 p1 p2 p3 p4 p5 p6 p7 p8 p9)) (Wk.anew (base := 3) (L := 3) (f := []) (by decide) (by decide) (Nat.le_of_ble_eq_true rfl) rfl (.cons (At.blk (by kernel_rfl) (RnB.lit (.cons (.flat (by kernel_rfl)) .nil))) (.cons (At.blk (by kernel_rfl) (RnB.lit (.cons (.flat (by kernel_rfl)) .nil))) (.cons (At.blk (by kernel_rfl) (RnB.lit (.cons (.flat (by kernel_rfl)) (.cons (.flat (by kernel_rfl)) (.cons (.flat (by kernel_rfl)) (.cons (.flat (by kernel_rfl)) (.cons (.flat (by kernel_rfl)) (.cons (.flat (by kernel_rfl)) (.cons (.flat (by kernel_rfl)) (.cons (.flat (by kernel_rfl)) .nil)))))))))) (.nil _)))) (LRn.stx [0, 3] [.func (.func 71) ⟨[]⟩ ⟨[pt 0 0, pt 1 0, pt 2 0]⟩, iv (w64 (v5 + 1))] [.func (.func 71) ⟨[]⟩ ⟨[pt 0 0, pt 1 0, pt 2 0]⟩, iv (w64 (v5 + 1))] (.cons (Rn.func' .nil (.cons (Rn.ptr _ _ _ (Nat.le_of_ble_eq_true rfl) rfl) (.cons (Rn.ptr _ _ _ (Nat.le_of_ble_eq_true rfl) rfl) (.cons (Rn.ptr _ _ _ (Nat.le_of_ble_eq_true rfl) rfl) .nil)))) (.cons (.flat (by kernel_rfl)) .nil)) (by kernel_rfl) (by kernel_rfl) rfl) rfl rfl) (ih (w64 (v5 + 1)) _ hF)
    | false =>
      replace hF := of_neg hF rfl
      refine TS.condFP (o := (.tmp 7)) (by kernel_rfl) (by kernel_rfl) ?_
      refine TS.exit' (id := 0) (by kernel_rfl) ?_
      refine NX.sqX ?_
      have hF := Option.some.inj hF
      subst hF
      exact Rd.out (e := .exit 0) (by intro h; cases h) (And.intro rfl (Wk.anew (base := 3) (L := 3) (f := []) (by decide) (by decide) (Nat.le_of_ble_eq_true rfl) rfl (.cons (At.blk (by kernel_rfl) (RnB.lit (.cons (.flat (by kernel_rfl)) .nil))) (.cons (At.blk (by kernel_rfl) (RnB.lit (.cons (.flat (by kernel_rfl)) .nil))) (.cons (At.blk (by kernel_rfl) (RnB.lit (.cons (.flat (by kernel_rfl)) (.cons (.flat (by kernel_rfl)) (.cons (.flat (by kernel_rfl)) (.cons (.flat (by kernel_rfl)) (.cons (.flat (by kernel_rfl)) (.cons (.flat (by kernel_rfl)) (.cons (.flat (by kernel_rfl)) (.cons (.flat (by kernel_rfl)) .nil)))))))))) (.nil _)))) (LRn.stx [3] [iv v5] [iv v5] (.cons (.flat (by kernel_rfl)) .nil) (by kernel_rfl) (by kernel_rfl) rfl) rfl rfl))
  cases r11 with
  | true =>
    replace hm14 := of_pos hm14 rfl
    have hm14 := Option.some.inj hm14
    subst hm14
    refine TS.regionP (by kernel_rfl) ?_
    refine TI.runA 2 [0, 3, 4, 5] (a2 := (S70_0 v5)) (by kernel_rfl) ?_
    refine TI.callP (g := 71) (args := [iv v5, pt 0 0, pt 1 0, pt 2 0]) (v := .bool true) (new := []) (PureSim.ren (hc := (H70_1 p0 p1 p2 p3 p4 p5 p6 p7 p8 p9)) (fun i => List.getD [(0, 0), (1, 0), (2, 0)] i (0, 0)) (C71 _ _ _ _ _ _ _ _ _ _ _ _ h12) (.cons (At.blk (by kernel_rfl) (RnB.lit (.cons (.flat (by kernel_rfl)) .nil))) (.cons (At.blk (by kernel_rfl) (RnB.lit (.cons (.flat (by kernel_rfl)) .nil))) (.cons (At.blk (by kernel_rfl) (RnB.lit (.cons (.flat (by kernel_rfl)) (.cons (.flat (by kernel_rfl)) (.cons (.flat (by kernel_rfl)) (.cons (.flat (by kernel_rfl)) (.cons (.flat (by kernel_rfl)) (.cons (.flat (by kernel_rfl)) (.cons (.flat (by kernel_rfl)) (.cons (.flat (by kernel_rfl)) .nil)))))))))) (.nil _)))) (.cons (.flat (by kernel_rfl)) (.cons (Rn.ptr _ _ _ (Nat.le_of_ble_eq_true rfl) rfl) (.cons (Rn.ptr _ _ _ (Nat.le_of_ble_eq_true rfl) rfl) (.cons (Rn.ptr _ _ _ (Nat.le_of_ble_eq_true rfl) rfl) .nil)))) (.flat (by kernel_rfl)) newflat_nil) (by kernel_rfl) ?_
    refine TI.runA 1 [0, 3, 7] (a2 := (st 11 [(0, .func (.func 71) ⟨[]⟩ ⟨[pt 0 0, pt 1 0, pt 2 0]⟩), (3, iv v5), (7, .bool false)])) (by kernel_rfl) ?_
    refine TI.done (by kernel_rfl) ?_
    exact hK
  | false =>
    replace hm14 := of_neg hm14 rfl
    have hm14 := Option.some.inj hm14
    subst hm14
    refine TS.regionP (by kernel_rfl) ?_
    refine TI.runA 2 [0, 3, 4, 5] (a2 := (S70_0 v5)) (by kernel_rfl) ?_
    refine TI.callP (g := 71) (args := [iv v5, pt 0 0, pt 1 0, pt 2 0]) (v := .bool false) (new := []) (PureSim.ren (hc := (H70_1 p0 p1 p2 p3 p4 p5 p6 p7 p8 p9)) (fun i => List.getD [(0, 0), (1, 0), (2, 0)] i (0, 0)) (C71 _ _ _ _ _ _ _ _ _ _ _ _ h12) (.cons (At.blk (by kernel_rfl) (RnB.lit (.cons (.flat (by kernel_rfl)) .nil))) (.cons (At.blk (by kernel_rfl) (RnB.lit (.cons (.flat (by kernel_rfl)) .nil))) (.cons (At.blk (by kernel_rfl) (RnB.lit (.cons (.flat (by kernel_rfl)) (.cons (.flat (by kernel_rfl)) (.cons (.flat (by kernel_rfl)) (.cons (.flat (by kernel_rfl)) (.cons (.flat (by kernel_rfl)) (.cons (.flat (by kernel_rfl)) (.cons (.flat (by kernel_rfl)) (.cons (.flat (by kernel_rfl)) .nil)))))))))) (.nil _)))) (.cons (.flat (by kernel_rfl)) (.cons (Rn.ptr _ _ _ (Nat.le_of_ble_eq_true rfl) rfl) (.cons (Rn.ptr _ _ _ (Nat.le_of_ble_eq_true rfl) rfl) (.cons (Rn.ptr _ _ _ (Nat.le_of_ble_eq_true rfl) rfl) .nil)))) (.flat (by kernel_rfl)) newflat_nil) (by kernel_rfl) ?_
    refine TI.runA 1 [0, 3, 7] (a2 := (st 11 [(0, .func (.func 71) ⟨[]⟩ ⟨[pt 0 0, pt 1 0, pt 2 0]⟩), (3, iv v5), (7, .bool true)])) (by kernel_rfl) ?_
    refine TI.done (by kernel_rfl) ?_
    exact hK
theorem B70 (p0 : Int) (p1 : Int) (p2 : Int) (p3 : Int) (p4 : Int) (p5 : Int) (p6 : Int) (p7 : Int) (p8 : Int) (p9 : Int) (r : Int) (hF : F70 p0 p1 p2 p3 p4 p5 p6 p7 p8 p9 = some r) : TS Try.prog 3 3 c70 (st 11 [(0, .func (.func 71) ⟨[]⟩ ⟨[pt 0 0, pt 1 0, pt 2 0]⟩)]) (H70_1 p0 p1 p2 p3 p4 p5 p6 p7 p8 p9) (NX Try.prog 3 3 [] (FinP Try.prog Try.f70 3 (V70 3 r) (N70 3 r))) := by
  unfold F70 at hF
  refine TS.seqP (by kernel_rfl) ?_
  refine TS.regionP (by kernel_rfl) ?_
  refine TI.runA 1 [0] (a2 := (st 11 [(0, .func (.func 71) ⟨[]⟩ ⟨[pt 0 0, pt 1 0, pt 2 0]⟩)])) (by kernel_rfl) ?_
  refine TI.done (by kernel_rfl) ?_
  refine NX.sq ?_
  refine TS.seqP (by kernel_rfl) ?_
  refine TS.regionP (by kernel_rfl) ?_
  refine TI.runA 1 [0, 3] (a2 := (st 11 [(0, .func (.func 71) ⟨[]⟩ ⟨[pt 0 0, pt 1 0, pt 2 0]⟩), (3, iv 0)])) (by kernel_rfl) ?_
  refine TI.done (by kernel_rfl) ?_
  refine NX.sq ?_
  refine TS.seqP (by kernel_rfl) ?_
  refine TS.blockP (id := 0) (by kernel_rfl) ?_
  have hX := of_do hF
  clear hF
  obtain ⟨r15, h16, hF⟩ := hX
  refine TS.loopP (by kernel_rfl) (TL.weak (a2 := (st 11 [(0, .func (.func 71) ⟨[]⟩ ⟨[pt 0 0, pt 1 0, pt 2 0]⟩), (3, iv 0)])) (h2 := (H70_1 p0 p1 p2 p3 p4 p5 p6 p7 p8 p9)) (Wk.anew (base := 3) (L := 3) (f := []) (by decide) (by decide) (Nat.le_of_ble_eq_true rfl) rfl (.cons (At.blk (by kernel_rfl) (RnB.lit (.cons (.flat (by kernel_rfl)) .nil))) (.cons (At.blk (by kernel_rfl) (RnB.lit (.cons (.flat (by kernel_rfl)) .nil))) (.cons (At.blk (by kernel_rfl) (RnB.lit (.cons (.flat (by kernel_rfl)) (.cons (.flat (by kernel_rfl)) (.cons (.flat (by kernel_rfl)) (.cons (.flat (by kernel_rfl)) (.cons (.flat (by kernel_rfl)) (.cons (.flat (by kernel_rfl)) (.cons (.flat (by kernel_rfl)) (.cons (.flat (by kernel_rfl)) .nil)))))))))) (.nil _)))) (LRn.stx [0, 3] [.func (.func 71) ⟨[]⟩ ⟨[pt 0 0, pt 1 0, pt 2 0]⟩, iv 0] [.func (.func 71) ⟨[]⟩ ⟨[pt 0 0, pt 1 0, pt 2 0]⟩, iv 0] (.cons (Rn.func' .nil (.cons (Rn.ptr _ _ _ (Nat.le_of_ble_eq_true rfl) rfl) (.cons (Rn.ptr _ _ _ (Nat.le_of_ble_eq_true rfl) rfl) (.cons (Rn.ptr _ _ _ (Nat.le_of_ble_eq_true rfl) rfl) .nil)))) (.cons (.flat (by kernel_rfl)) .nil)) (by kernel_rfl) (by kernel_rfl) rfl) rfl rfl) (TL.post (L70l0 p0 p1 p2 p3 p4 p5 p6 p7 p8 p9 0 r15 h16) ?_))
  rintro e a1 h1 hp
  obtain ⟨rfl, hw⟩ := hp
  refine ⟨(st 11 [(3, iv r15)]), (H70_1 p0 p1 p2 p3 p4 p5 p6 p7 p8 p9), ?_, hw⟩
  refine NX.bkX ?_
  refine NX.sq ?_
  refine TS.seqP (by kernel_rfl) ?_
  refine TS.regionP (by kernel_rfl) ?_
  refine TI.runA 2 [2] (a2 := (st 11 [(2, iv r15)])) (by kernel_rfl) ?_
  refine TI.done (by kernel_rfl) ?_
  refine NX.sq ?_
  refine TS.ret' (by kernel_rfl) ?_
  have hF := Option.some.inj hF
  subst hF
  exact ⟨.inr rfl, rfl, iv r15, by kernel_rfl, WkV.flat0 (by kernel_rfl) (Nat.le_of_ble_eq_true rfl)⟩
theorem C70 (p0 : Int) (p1 : Int) (p2 : Int) (p3 : Int) (p4 : Int) (p5 : Int) (p6 : Int) (p7 : Int) (p8 : Int) (p9 : Int) (r : Int) (hF : F70 p0 p1 p2 p3 p4 p5 p6 p7 p8 p9 = some r) : PureSim Try.prog 70 [.func (.func 71) ⟨[]⟩ ⟨[pt 0 0, pt 1 0, pt 2 0]⟩] (H70_1 p0 p1 p2 p3 p4 p5 p6 p7 p8 p9) (V70 3 r) (N70 3 r) :=
  PureSim.of_Fin Try.func70 (c := c70) (by kernel_rfl) (by kernel_rfl) 3 rfl [0] [0, 1, 2] (by kernel_rfl) (B70 p0 p1 p2 p3 p4 p5 p6 p7 p8 p9 r hF)

-- agonic/magnet.Within
noncomputable def c34 : Code := Try.f34.code
def H34_0 (p4 : Int) (p5 : Int) (p6 : Int) (r10 : (((Int × Int) × (Int × Int)) × (Int × Int) × (Int × Int))) (r138 : (Int × Int)) (v156 : Int) (v157 : Int) : List Blk := [cl 23 [iv p4, iv p5], cl 3 [iv p6], cl 108 [iv r10.1.1.1, iv r10.1.1.2, iv r10.1.2.1, iv r10.1.2.2, iv r10.2.1.1, iv r10.2.1.2, iv r10.2.2.1, iv r10.2.2.2], cl 23 [iv r138.1, iv r138.2], cl 23 [iv v156, iv v157]]
def H34_1 (p4 : Int) (p5 : Int) (p6 : Int) (r10 : (((Int × Int) × (Int × Int)) × (Int × Int) × (Int × Int))) (r138 : (Int × Int)) : List Blk := [cl 23 [iv p4, iv p5], cl 3 [iv p6], cl 108 [iv r10.1.1.1, iv r10.1.1.2, iv r10.1.2.1, iv r10.1.2.2, iv r10.2.1.1, iv r10.2.1.2, iv r10.2.2.1, iv r10.2.2.2], cl 23 [iv r138.1, iv r138.2]]
def H34_2 (p4 : Int) (p5 : Int) (p6 : Int) (r10 : (((Int × Int) × (Int × Int)) × (Int × Int) × (Int × Int))) (v179 : Int) (v180 : Int) : List Blk := [cl 23 [iv p4, iv p5], cl 3 [iv p6], cl 108 [iv r10.1.1.1, iv r10.1.1.2, iv r10.1.2.1, iv r10.1.2.2, iv r10.2.1.1, iv r10.2.1.2, iv r10.2.2.1, iv r10.2.2.2], cl 23 [iv v179, iv v180]]
def H34_3 (p4 : Int) (p5 : Int) (p6 : Int) (r12 : Int) (r10 : (((Int × Int) × (Int × Int)) × (Int × Int) × (Int × Int))) : List Blk := [.dead, cl 23 [iv p4, iv p5], cl 3 [iv p6], cl 3 [iv r12], cl 108 [iv r10.1.1.1, iv r10.1.1.2, iv r10.1.2.1, iv r10.1.2.2, iv r10.2.1.1, iv r10.2.1.2, iv r10.2.2.1, iv r10.2.2.2]]
def H34_4 (p4 : Int) (p5 : Int) (p6 : Int) (r10 : (((Int × Int) × (Int × Int)) × (Int × Int) × (Int × Int))) : List Blk := [cl 23 [iv p4, iv p5], cl 3 [iv p6], cl 108 [iv r10.1.1.1, iv r10.1.1.2, iv r10.1.2.1, iv r10.1.2.2, iv r10.2.1.1, iv r10.2.1.2, iv r10.2.2.1, iv r10.2.2.2]]
def F34l1 (p4 : Int) (p5 : Int) (p6 : Int) (r10 : (((Int × Int) × (Int × Int)) × (Int × Int) × (Int × Int))) (r16 : Int) (r18 : Int) (r138 : (Int × Int)) (r146 : Int) (v78 : Int) (v155 : Int) (v156 : Int) (v157 : Int) : Option Int :=
    F63 v156 v157 >>= fun r164 =>
    if decide (r164 ≤ p6) then
      F53 v156 v157 1 r10.1.1.1 r10.1.1.2 >>= fun r167 =>
      F34l1 p4 p5 p6 r10 r16 r18 r138 r146 v78 (w64 (v155 + 1)) r167.1 r167.2
    else
      some v155
  partial_fixpoint
def F34l2 (p4 : Int) (p5 : Int) (p6 : Int) (r10 : (((Int × Int) × (Int × Int)) × (Int × Int) × (Int × Int))) (r16 : Int) (r18 : Int) (v78 : Int) (v178 : Int) (v179 : Int) (v180 : Int) : Option Int :=
    F63 v179 v180 >>= fun r187 =>
    if decide (r187 ≤ p6) then
      F53 v179 v180 (-1) r10.1.1.1 r10.1.1.2 >>= fun r190 =>
      F34l2 p4 p5 p6 r10 r16 r18 v78 (w64 (v178 + 1)) r190.1 r190.2
    else
      some v178
  partial_fixpoint
def F34l0 (p4 : Int) (p5 : Int) (p6 : Int) (r10 : (((Int × Int) × (Int × Int)) × (Int × Int) × (Int × Int))) (r16 : Int) (r18 : Int) (v77 : Int) (v78 : Int) : Option Int :=
    if decide (v78 ≤ (w64 ((w64 (r16 + r18)) + 1))) then
      F53 p4 p5 v78 r10.1.2.1 r10.1.2.2 >>= fun r138 =>
      F72 r138.1 r138.2 r10.1.1.1 r10.1.1.2 >>= fun r140 =>
      F63 r10.1.1.1 r10.1.1.2 >>= fun r142 =>
      F63 r10.1.1.1 r10.1.1.2 >>= fun r144 =>
      F69 (w64 ((w64 ((-2) * r140)) + r142)) (w64 (2 * r144)) >>= fun r146 =>
      F53 r138.1 r138.2 r146 r10.1.1.1 r10.1.1.2 >>= fun r148 =>
      F34l1 p4 p5 p6 r10 r16 r18 r138 r146 v78 v77 r148.1 r148.2 >>= fun r169 =>
      F53 r138.1 r138.2 (w64 (r146 - 1)) r10.1.1.1 r10.1.1.2 >>= fun r171 =>
      F34l2 p4 p5 p6 r10 r16 r18 v78 r169 r171.1 r171.2 >>= fun r192 =>
      F34l0 p4 p5 p6 r10 r16 r18 r192 (w64 (v78 + 1))
    else
      some v77
  partial_fixpoint
def F34 (p0 : Int) (p1 : Int) (p2 : Int) (p3 : Int) (p4 : Int) (p5 : Int) (p6 : Int) : Option (Int × Int) :=
  F52 p0 p1 p2 p3 p4 p5 ([]) >>= fun r1 =>
  F59 p0 p1 p2 p3 >>= fun r3 =>
  if r1 != 0 then
    some (0, r1)
  else
    F68 0 p6 1000000000 >>= fun r6 =>
    (
      if r6 then
        some (false)
      else
        some (true)
    : Option Bool) >>= fun m8 =>
    if m8 then
      some (0, 1)
    else
      if decide (p6 > (w64 (2000 * (mx r3 (w64 (0 - r3)))))) then
        some (0, 16)
      else
        F61 p0 p1 p2 p3 >>= fun r10 =>
        F59 r10.1.1.1 r10.1.1.2 r10.1.2.1 r10.1.2.2 >>= fun r12 =>
        F59 r10.1.1.1 r10.1.1.2 p4 p5 >>= fun r14 =>
        F69 (w64 (0 - r14)) r12 >>= fun r16 =>
        F70 r12 p6 r10.1.1.1 r10.1.1.2 r10.1.2.1 r10.1.2.2 r10.2.1.1 r10.2.1.2 r10.2.2.1 r10.2.2.2 >>= fun r18 =>
        F34l0 p4 p5 p6 r10 r16 r18 0 (w64 (r16 - r18)) >>= fun r194 =>
        some (r194, 0)
def V34 (b : Nat) (r : (Int × Int)) : Value := .tuple ⟨[iv r.1, iv r.2]⟩
def N34 (b : Nat) (r : (Int × Int)) : List Blk := []
def P34l1 (p4 : Int) (p5 : Int) (p6 : Int) (r10 : (((Int × Int) × (Int × Int)) × (Int × Int) × (Int × Int))) (r16 : Int) (r18 : Int) (r138 : (Int × Int)) (r146 : Int) (v78 : Int) (r : Int) : Post := fun e a h => e = .exit 3 ∧ Wk Try.prog 0 0 a h (st 134 [(4, pt 0 0), (5, pt 1 0), (10, pt 2 0), (11, iv r16), (12, iv r18), (13, iv r), (14, iv v78), (15, pt 3 0), (16, iv r146)]) (H34_1 p4 p5 p6 r10 r138)
theorem L34l1 (p4 : Int) (p5 : Int) (p6 : Int) (r10 : (((Int × Int) × (Int × Int)) × (Int × Int) × (Int × Int))) (r16 : Int) (r18 : Int) (r138 : (Int × Int)) (r146 : Int) (v78 : Int) (v155 : Int) (v156 : Int) (v157 : Int) (r : Int) (hF : F34l1 p4 p5 p6 r10 r16 r18 r138 r146 v78 v155 v156 v157 = some r) : TL Try.prog 0 0 c34.s2.s2.s2.s2.s2.s2.s2.s2.s2.s1.s2.bd.bd.s2.s1.bd.s2.s2.s1.s2.bd.bd (st 134 [(4, pt 0 0), (5, pt 1 0), (10, pt 2 0), (11, iv r16), (12, iv r18), (13, iv v155), (14, iv v78), (15, pt 3 0), (16, iv r146), (17, pt 4 0)]) (H34_0 p4 p5 p6 r10 r138 v156 v157) (P34l1 p4 p5 p6 r10 r16 r18 r138 r146 v78 r) := by
  refine F34l1.partial_correctness p4 p5 p6 r10 r16 r18 r138 r146 v78 (motive := fun v155 v156 v157 r => TL Try.prog 0 0 c34.s2.s2.s2.s2.s2.s2.s2.s2.s2.s1.s2.bd.bd.s2.s1.bd.s2.s2.s1.s2.bd.bd (st 134 [(4, pt 0 0), (5, pt 1 0), (10, pt 2 0), (11, iv r16), (12, iv r18), (13, iv v155), (14, iv v78), (15, pt 3 0), (16, iv r146), (17, pt 4 0)]) (H34_0 p4 p5 p6 r10 r138 v156 v157) (P34l1 p4 p5 p6 r10 r16 r18 r138 r146 v78 r)) ?_ v155 v156 v157 r hF
  clear hF r v155 v156 v157
  intro again ih v155 v156 v157 r hF
  refine TL.round ?_
  refine TS.seqP (by kernel_rfl) ?_
  refine TS.seqP (by kernel_rfl) ?_
  have hX := of_do hF
  clear hF
  obtain ⟨r164, h165, hF⟩ := hX
  have hT : ∀ e ∈ ([⟨63, [ag [iv v156, iv v157]], (H34_0 p4 p5 p6 r10 r138 v156 v157), iv r164, []⟩] : List Entry), PureSim Try.prog e.g e.args e.h e.v e.new := by
    intro e he
    simp only [List.mem_cons, List.not_mem_nil, or_false] at he
    rcases he with rfl
    · exact PureSim.anyK (C63 _ _ _ h165) (by kernel_rfl)
  refine TS.drawP [⟨63, [ag [iv v156, iv v157]], (H34_0 p4 p5 p6 r10 r138 v156 v157), iv r164, []⟩] hT mixed (by kernel_rfl) 3 (by kernel_rfl) [4, 5, 10, 11, 12, 13, 14, 15, 16, 17, 105] [0, 1, 2, 3, 4] (a2 := (st 134 [(4, pt 0 0), (5, pt 1 0), (10, pt 2 0), (11, iv r16), (12, iv r18), (13, iv v155), (14, iv v78), (15, pt 3 0), (16, iv r146), (17, pt 4 0), (105, .bool (decide (r164 ≤ p6)))])) (h2 := (H34_0 p4 p5 p6 r10 r138 v156 v157)) ?_ ?_
  · refine QJ.run (s1 := (qs (st 134 [(4, pt 0 0), (5, pt 1 0), (10, pt 2 0), (11, iv r16), (12, iv r18), (13, iv v155), (14, iv v78), (15, pt 3 0), (16, iv r146), (17, pt 4 0), (102, ag [iv v156, iv v157])]) (H34_0 p4 p5 p6 r10 r138 v156 v157) [] [])) 1 (by kernel_rfl) (by kernel_rfl) ?_
    refine QJ.op (q := { val := iv r164, new := [] }) (by decide) (qOf_call (g := 63) (args := [ag [iv v156, iv v157]]) (by kernel_rfl) lookC_hit) ?_
    refine QJ.run (s1 := (qs (st 134 [(4, pt 0 0), (5, pt 1 0), (10, pt 2 0), (11, iv r16), (12, iv r18), (13, iv v155), (14, iv v78), (15, pt 3 0), (16, iv r146), (17, pt 4 0), (102, ag [iv v156, iv v157]), (103, iv r164), (104, iv p6)]) (H34_0 p4 p5 p6 r10 r138 v156 v157) [] [])) 1 (by kernel_rfl) (by kernel_rfl) ?_
    refine QJ.done (by kernel_rfl) ⟨rfl, ?_⟩
    refine SJ.last (by kernel_rfl)
  refine TS.condP (o := (.tmp 105)) (b := decide (r164 ≤ p6)) (by kernel_rfl) (by kernel_rfl) (fun hc166 => ?_) (fun hc166 => ?_)
  · replace hF := of_pos hF hc166
    refine TS.skip' (by kernel_rfl) ?_
    refine NX.sq ?_
    refine TS.seqP (by kernel_rfl) ?_
    refine TS.blockP (id := 4) (by kernel_rfl) ?_
    refine TS.regionP (by kernel_rfl) ?_
    refine TI.runA 3 [4, 5, 10, 11, 12, 13, 14, 15, 16, 17] (a2 := (st 134 [(4, pt 0 0), (5, pt 1 0), (10, pt 2 0), (11, iv r16), (12, iv r18), (13, iv (w64 (v155 + 1))), (14, iv v78), (15, pt 3 0), (16, iv r146), (17, pt 4 0)])) (by kernel_rfl) ?_
    refine TI.done (by kernel_rfl) ?_
    refine NX.bk ?_
    refine NX.sq ?_
    refine TS.seqP (by kernel_rfl) ?_
    refine TS.seqP (by kernel_rfl) ?_
    refine TS.regionP (by kernel_rfl) ?_
    refine TI.run 1 [4, 5, 10, 11, 12, 13, 14, 15, 16, 113] [0, 1, 2, 3] (a2 := (st 134 [(4, pt 0 0), (5, pt 1 0), (10, pt 2 0), (11, iv r16), (12, iv r18), (13, iv (w64 (v155 + 1))), (14, iv v78), (15, pt 3 0), (16, iv r146), (113, ag [iv v156, iv v157])])) (h2 := [cl 23 [iv p4, iv p5], cl 3 [iv p6], cl 108 [iv r10.1.1.1, iv r10.1.1.2, iv r10.1.2.1, iv r10.1.2.2, iv r10.2.1.1, iv r10.2.1.2, iv r10.2.2.1, iv r10.2.2.2], cl 23 [iv r138.1, iv r138.2], .dead]) (by kernel_rfl) ?_
    refine TI.done (by kernel_rfl) ?_
    refine NX.sq ?_
    refine TS.regionP (by kernel_rfl) ?_
    refine TI.run 2 [4, 5, 10, 11, 12, 13, 14, 15, 16, 17] [0, 1, 2, 3, 5] (a2 := (st 134 [(4, pt 0 0), (5, pt 1 0), (10, pt 2 0), (11, iv r16), (12, iv r18), (13, iv (w64 (v155 + 1))), (14, iv v78), (15, pt 3 0), (16, iv r146), (17, pt 5 0)])) (h2 := [cl 23 [iv p4, iv p5], cl 3 [iv p6], cl 108 [iv r10.1.1.1, iv r10.1.1.2, iv r10.1.2.1, iv r10.1.2.2, iv r10.2.1.1, iv r10.2.1.2, iv r10.2.2.1, iv r10.2.2.2], cl 23 [iv r138.1, iv r138.2], .dead, cl 23 [iv v156, iv v157]]) (by kernel_rfl) ?_
    refine TI.done (by kernel_rfl) ?_
    refine NX.sq ?_
    have hX := of_do hF
    clear hF
    obtain ⟨r167, h168, hF⟩ := hX
    refine TS.regionP (by kernel_rfl) ?_
    refine TI.runA 4 [4, 5, 10, 11, 12, 13, 14, 15, 16, 17, 106, 109] (a2 := (st 134 [(4, pt 0 0), (5, pt 1 0), (10, pt 2 0), (11, iv r16), (12, iv r18), (13, iv (w64 (v155 + 1))), (14, iv v78), (15, pt 3 0), (16, iv r146), (17, pt 5 0), (106, ag [iv v156, iv v157]), (109, ag [iv r10.1.1.1, iv r10.1.1.2])])) (by kernel_rfl) ?_
    refine TI.callF (C53 _ _ _ _ _ _ h168) (by kernel_rfl) (by kernel_rfl) ?_
    refine TI.run 1 [4, 5, 10, 11, 12, 13, 14, 15, 16, 17] [0, 1, 2, 3, 5] (a2 := (st 134 [(4, pt 0 0), (5, pt 1 0), (10, pt 2 0), (11, iv r16), (12, iv r18), (13, iv (w64 (v155 + 1))), (14, iv v78), (15, pt 3 0), (16, iv r146), (17, pt 5 0)])) (h2 := [cl 23 [iv p4, iv p5], cl 3 [iv p6], cl 108 [iv r10.1.1.1, iv r10.1.1.2, iv r10.1.2.1, iv r10.1.2.2, iv r10.2.1.1, iv r10.2.1.2, iv r10.2.2.1, iv r10.2.2.2], cl 23 [iv r138.1, iv r138.2], .dead, cl 23 [iv r167.1, iv r167.2]]) (by kernel_rfl) ?_
    refine TI.done (by kernel_rfl) ?_
    exact Rd.again (a2 := (st 134 [(4, pt 0 0), (5, pt 1 0), (10, pt 2 0), (11, iv r16), (12, iv r18), (13, iv (w64 (v155 + 1))), (14, iv v78), (15, pt 3 0), (16, iv r146), (17, pt 4 0)])) (h2 := [cl 23 [iv p4, iv p5], cl 3 [iv p6], cl 108 [iv r10.1.1.1, iv r10.1.1.2, iv r10.1.2.1, iv r10.1.2.2, iv r10.2.1.1, iv r10.2.1.2, iv r10.2.2.1, iv r10.2.2.2], cl 23 [iv r138.1, iv r138.2], cl 23 [iv r167.1, iv r167.2]]) (Wk.anew (base := 0) (L := 0) (f := [0, 1, 2, 3, 5]) (by decide) (by decide) (Nat.le_of_ble_eq_true rfl) rfl (.cons (At.blk (by kernel_rfl) (RnB.lit (.cons (.flat (by kernel_rfl)) (.cons (.flat (by kernel_rfl)) .nil)))) (.cons (At.blk (by kernel_rfl) (RnB.lit (.cons (.flat (by kernel_rfl)) .nil))) (.cons (At.blk (by kernel_rfl) (RnB.lit (.cons (.flat (by kernel_rfl)) (.cons (.flat (by kernel_rfl)) (.cons (.flat (by kernel_rfl)) (.cons (.flat (by kernel_rfl)) (.cons (.flat (by kernel_rfl)) (.cons (.flat (by kernel_rfl)) (.cons (.flat (by kernel_rfl)) (.cons (.flat (by kernel_rfl)) .nil)))))))))) (.cons (At.blk (by kernel_rfl) (RnB.lit (.cons (.flat (by kernel_rfl)) (.cons (.flat (by kernel_rfl)) .nil)))) (.cons (At.blk (by kernel_rfl) (RnB.lit (.cons (.flat (by kernel_rfl)) (.cons (.flat (by kernel_rfl)) .nil)))) (.nil _)))))) (LRn.stx [4, 5, 10, 11, 12, 13, 14, 15, 16, 17] [pt 0 0, pt 1 0, pt 2 0, iv r16, iv r18, iv (w64 (v155 + 1)), iv v78, pt 3 0, iv r146, pt 4 0] [pt 0 0, pt 1 0, pt 2 0, iv r16, iv r18, iv (w64 (v155 + 1)), iv v78, pt 3 0, iv r146, pt 5 0] (.cons (Rn.ptr _ _ _ (Nat.le_of_ble_eq_true rfl) rfl) (.cons (Rn.ptr _ _ _ (Nat.le_of_ble_eq_true rfl) rfl) (.cons (Rn.ptr _ _ _ (Nat.le_of_ble_eq_true rfl) rfl) (.cons (.flat (by kernel_rfl)) (.cons (.flat (by kernel_rfl)) (.cons (.flat (by kernel_rfl)) (.cons (.flat (by kernel_rfl)) (.cons (Rn.ptr _ _ _ (Nat.le_of_ble_eq_true rfl) rfl) (.cons (.flat (by kernel_rfl)) (.cons (Rn.ptr _ _ _ (Nat.le_of_ble_eq_true rfl) rfl) .nil)))))))))) (by kernel_rfl) (by kernel_rfl) rfl) rfl rfl) (ih (w64 (v155 + 1)) r167.1 r167.2 _ hF)
  · replace hF := of_neg hF hc166
    refine TS.exit' (id := 3) (by kernel_rfl) ?_
    refine NX.sqX ?_
    have hF := Option.some.inj hF
    subst hF
    exact Rd.out (e := .exit 3) (by intro h; cases h) (And.intro rfl (Wk.anew (base := 0) (L := 0) (f := [0, 1, 2, 3]) (by decide) (by decide) (Nat.le_of_ble_eq_true rfl) rfl (.cons (At.blk (by kernel_rfl) (RnB.lit (.cons (.flat (by kernel_rfl)) (.cons (.flat (by kernel_rfl)) .nil)))) (.cons (At.blk (by kernel_rfl) (RnB.lit (.cons (.flat (by kernel_rfl)) .nil))) (.cons (At.blk (by kernel_rfl) (RnB.lit (.cons (.flat (by kernel_rfl)) (.cons (.flat (by kernel_rfl)) (.cons (.flat (by kernel_rfl)) (.cons (.flat (by kernel_rfl)) (.cons (.flat (by kernel_rfl)) (.cons (.flat (by kernel_rfl)) (.cons (.flat (by kernel_rfl)) (.cons (.flat (by kernel_rfl)) .nil)))))))))) (.cons (At.blk (by kernel_rfl) (RnB.lit (.cons (.flat (by kernel_rfl)) (.cons (.flat (by kernel_rfl)) .nil)))) (.nil _))))) (LRn.stx [4, 5, 10, 11, 12, 13, 14, 15, 16] [pt 0 0, pt 1 0, pt 2 0, iv r16, iv r18, iv v155, iv v78, pt 3 0, iv r146] [pt 0 0, pt 1 0, pt 2 0, iv r16, iv r18, iv v155, iv v78, pt 3 0, iv r146] (.cons (Rn.ptr _ _ _ (Nat.le_of_ble_eq_true rfl) rfl) (.cons (Rn.ptr _ _ _ (Nat.le_of_ble_eq_true rfl) rfl) (.cons (Rn.ptr _ _ _ (Nat.le_of_ble_eq_true rfl) rfl) (.cons (.flat (by kernel_rfl)) (.cons (.flat (by kernel_rfl)) (.cons (.flat (by kernel_rfl)) (.cons (.flat (by kernel_rfl)) (.cons (Rn.ptr _ _ _ (Nat.le_of_ble_eq_true rfl) rfl) (.cons (.flat (by kernel_rfl)) .nil))))))))) (by kernel_rfl) (by kernel_rfl) rfl) rfl rfl))
def P34l2 (p4 : Int) (p5 : Int) (p6 : Int) (r10 : (((Int × Int) × (Int × Int)) × (Int × Int) × (Int × Int))) (r16 : Int) (r18 : Int) (v78 : Int) (r : Int) : Post := fun e a h => e = .exit 5 ∧ Wk Try.prog 0 0 a h (st 134 [(4, pt 0 0), (5, pt 1 0), (10, pt 2 0), (11, iv r16), (12, iv r18), (13, iv r), (14, iv v78)]) (H34_4 p4 p5 p6 r10)
theorem L34l2 (p4 : Int) (p5 : Int) (p6 : Int) (r10 : (((Int × Int) × (Int × Int)) × (Int × Int) × (Int × Int))) (r16 : Int) (r18 : Int) (v78 : Int) (v178 : Int) (v179 : Int) (v180 : Int) (r : Int) (hF : F34l2 p4 p5 p6 r10 r16 r18 v78 v178 v179 v180 = some r) : TL Try.prog 0 0 c34.s2.s2.s2.s2.s2.s2.s2.s2.s2.s1.s2.bd.bd.s2.s1.bd.s2.s2.s2.s2.bd.bd (st 134 [(4, pt 0 0), (5, pt 1 0), (10, pt 2 0), (11, iv r16), (12, iv r18), (13, iv v178), (14, iv v78), (18, pt 3 0)]) (H34_2 p4 p5 p6 r10 v179 v180) (P34l2 p4 p5 p6 r10 r16 r18 v78 r) := by
  refine F34l2.partial_correctness p4 p5 p6 r10 r16 r18 v78 (motive := fun v178 v179 v180 r => TL Try.prog 0 0 c34.s2.s2.s2.s2.s2.s2.s2.s2.s2.s1.s2.bd.bd.s2.s1.bd.s2.s2.s2.s2.bd.bd (st 134 [(4, pt 0 0), (5, pt 1 0), (10, pt 2 0), (11, iv r16), (12, iv r18), (13, iv v178), (14, iv v78), (18, pt 3 0)]) (H34_2 p4 p5 p6 r10 v179 v180) (P34l2 p4 p5 p6 r10 r16 r18 v78 r)) ?_ v178 v179 v180 r hF
  clear hF r v178 v179 v180
  intro again ih v178 v179 v180 r hF
  refine TL.round ?_
  refine TS.seqP (by kernel_rfl) ?_
  refine TS.seqP (by kernel_rfl) ?_
  have hX := of_do hF
  clear hF
  obtain ⟨r187, h188, hF⟩ := hX
  have hT : ∀ e ∈ ([⟨63, [ag [iv v179, iv v180]], (H34_2 p4 p5 p6 r10 v179 v180), iv r187, []⟩] : List Entry), PureSim Try.prog e.g e.args e.h e.v e.new := by
    intro e he
    simp only [List.mem_cons, List.not_mem_nil, or_false] at he
    rcases he with rfl
    · exact PureSim.anyK (C63 _ _ _ h188) (by kernel_rfl)
  refine TS.drawP [⟨63, [ag [iv v179, iv v180]], (H34_2 p4 p5 p6 r10 v179 v180), iv r187, []⟩] hT mixed (by kernel_rfl) 3 (by kernel_rfl) [4, 5, 10, 11, 12, 13, 14, 18, 124] [0, 1, 2, 3] (a2 := (st 134 [(4, pt 0 0), (5, pt 1 0), (10, pt 2 0), (11, iv r16), (12, iv r18), (13, iv v178), (14, iv v78), (18, pt 3 0), (124, .bool (decide (r187 ≤ p6)))])) (h2 := (H34_2 p4 p5 p6 r10 v179 v180)) ?_ ?_
  · refine QJ.run (s1 := (qs (st 134 [(4, pt 0 0), (5, pt 1 0), (10, pt 2 0), (11, iv r16), (12, iv r18), (13, iv v178), (14, iv v78), (18, pt 3 0), (121, ag [iv v179, iv v180])]) (H34_2 p4 p5 p6 r10 v179 v180) [] [])) 1 (by kernel_rfl) (by kernel_rfl) ?_
    refine QJ.op (q := { val := iv r187, new := [] }) (by decide) (qOf_call (g := 63) (args := [ag [iv v179, iv v180]]) (by kernel_rfl) lookC_hit) ?_
    refine QJ.run (s1 := (qs (st 134 [(4, pt 0 0), (5, pt 1 0), (10, pt 2 0), (11, iv r16), (12, iv r18), (13, iv v178), (14, iv v78), (18, pt 3 0), (121, ag [iv v179, iv v180]), (122, iv r187), (123, iv p6)]) (H34_2 p4 p5 p6 r10 v179 v180) [] [])) 1 (by kernel_rfl) (by kernel_rfl) ?_
    refine QJ.done (by kernel_rfl) ⟨rfl, ?_⟩
    refine SJ.last (by kernel_rfl)
  refine TS.condP (o := (.tmp 124)) (b := decide (r187 ≤ p6)) (by kernel_rfl) (by kernel_rfl) (fun hc189 => ?_) (fun hc189 => ?_)
  · replace hF := of_pos hF hc189
    refine TS.skip' (by kernel_rfl) ?_
    refine NX.sq ?_
    refine TS.seqP (by kernel_rfl) ?_
    refine TS.blockP (id := 6) (by kernel_rfl) ?_
    refine TS.regionP (by kernel_rfl) ?_
    refine TI.runA 3 [4, 5, 10, 11, 12, 13, 14, 18] (a2 := (st 134 [(4, pt 0 0), (5, pt 1 0), (10, pt 2 0), (11, iv r16), (12, iv r18), (13, iv (w64 (v178 + 1))), (14, iv v78), (18, pt 3 0)])) (by kernel_rfl) ?_
    refine TI.done (by kernel_rfl) ?_
    refine NX.bk ?_
    refine NX.sq ?_
    refine TS.seqP (by kernel_rfl) ?_
    refine TS.seqP (by kernel_rfl) ?_
    refine TS.regionP (by kernel_rfl) ?_
    refine TI.run 1 [4, 5, 10, 11, 12, 13, 14, 132] [0, 1, 2] (a2 := (st 134 [(4, pt 0 0), (5, pt 1 0), (10, pt 2 0), (11, iv r16), (12, iv r18), (13, iv (w64 (v178 + 1))), (14, iv v78), (132, ag [iv v179, iv v180])])) (h2 := [cl 23 [iv p4, iv p5], cl 3 [iv p6], cl 108 [iv r10.1.1.1, iv r10.1.1.2, iv r10.1.2.1, iv r10.1.2.2, iv r10.2.1.1, iv r10.2.1.2, iv r10.2.2.1, iv r10.2.2.2], .dead]) (by kernel_rfl) ?_
    refine TI.done (by kernel_rfl) ?_
    refine NX.sq ?_
    refine TS.regionP (by kernel_rfl) ?_
    refine TI.run 2 [4, 5, 10, 11, 12, 13, 14, 18] [0, 1, 2, 4] (a2 := (st 134 [(4, pt 0 0), (5, pt 1 0), (10, pt 2 0), (11, iv r16), (12, iv r18), (13, iv (w64 (v178 + 1))), (14, iv v78), (18, pt 4 0)])) (h2 := [cl 23 [iv p4, iv p5], cl 3 [iv p6], cl 108 [iv r10.1.1.1, iv r10.1.1.2, iv r10.1.2.1, iv r10.1.2.2, iv r10.2.1.1, iv r10.2.1.2, iv r10.2.2.1, iv r10.2.2.2], .dead, cl 23 [iv v179, iv v180]]) (by kernel_rfl) ?_
    refine TI.done (by kernel_rfl) ?_
    refine NX.sq ?_
    have hX := of_do hF
    clear hF
    obtain ⟨r190, h191, hF⟩ := hX
    refine TS.regionP (by kernel_rfl) ?_
    refine TI.runA 4 [4, 5, 10, 11, 12, 13, 14, 18, 125, 128] (a2 := (st 134 [(4, pt 0 0), (5, pt 1 0), (10, pt 2 0), (11, iv r16), (12, iv r18), (13, iv (w64 (v178 + 1))), (14, iv v78), (18, pt 4 0), (125, ag [iv v179, iv v180]), (128, ag [iv r10.1.1.1, iv r10.1.1.2])])) (by kernel_rfl) ?_
    refine TI.callF (C53 _ _ _ _ _ _ h191) (by kernel_rfl) (by kernel_rfl) ?_
    refine TI.run 1 [4, 5, 10, 11, 12, 13, 14, 18] [0, 1, 2, 4] (a2 := (st 134 [(4, pt 0 0), (5, pt 1 0), (10, pt 2 0), (11, iv r16), (12, iv r18), (13, iv (w64 (v178 + 1))), (14, iv v78), (18, pt 4 0)])) (h2 := [cl 23 [iv p4, iv p5], cl 3 [iv p6], cl 108 [iv r10.1.1.1, iv r10.1.1.2, iv r10.1.2.1, iv r10.1.2.2, iv r10.2.1.1, iv r10.2.1.2, iv r10.2.2.1, iv r10.2.2.2], .dead, cl 23 [iv r190.1, iv r190.2]]) (by kernel_rfl) ?_
    refine TI.done (by kernel_rfl) ?_
    exact Rd.again (a2 := (st 134 [(4, pt 0 0), (5, pt 1 0), (10, pt 2 0), (11, iv r16), (12, iv r18), (13, iv (w64 (v178 + 1))), (14, iv v78), (18, pt 3 0)])) (h2 := [cl 23 [iv p4, iv p5], cl 3 [iv p6], cl 108 [iv r10.1.1.1, iv r10.1.1.2, iv r10.1.2.1, iv r10.1.2.2, iv r10.2.1.1, iv r10.2.1.2, iv r10.2.2.1, iv r10.2.2.2], cl 23 [iv r190.1, iv r190.2]]) (Wk.anew (base := 0) (L := 0) (f := [0, 1, 2, 4]) (by decide) (by decide) (Nat.le_of_ble_eq_true rfl) rfl (.cons (At.blk (by kernel_rfl) (RnB.lit (.cons (.flat (by kernel_rfl)) (.cons (.flat (by kernel_rfl)) .nil)))) (.cons (At.blk (by kernel_rfl) (RnB.lit (.cons (.flat (by kernel_rfl)) .nil))) (.cons (At.blk (by kernel_rfl) (RnB.lit (.cons (.flat (by kernel_rfl)) (.cons (.flat (by kernel_rfl)) (.cons (.flat (by kernel_rfl)) (.cons (.flat (by kernel_rfl)) (.cons (.flat (by kernel_rfl)) (.cons (.flat (by kernel_rfl)) (.cons (.flat (by kernel_rfl)) (.cons (.flat (by kernel_rfl)) .nil)))))))))) (.cons (At.blk (by kernel_rfl) (RnB.lit (.cons (.flat (by kernel_rfl)) (.cons (.flat (by kernel_rfl)) .nil)))) (.nil _))))) (LRn.stx [4, 5, 10, 11, 12, 13, 14, 18] [pt 0 0, pt 1 0, pt 2 0, iv r16, iv r18, iv (w64 (v178 + 1)), iv v78, pt 3 0] [pt 0 0, pt 1 0, pt 2 0, iv r16, iv r18, iv (w64 (v178 + 1)), iv v78, pt 4 0] (.cons (Rn.ptr _ _ _ (Nat.le_of_ble_eq_true rfl) rfl) (.cons (Rn.ptr _ _ _ (Nat.le_of_ble_eq_true rfl) rfl) (.cons (Rn.ptr _ _ _ (Nat.le_of_ble_eq_true rfl) rfl) (.cons (.flat (by kernel_rfl)) (.cons (.flat (by kernel_rfl)) (.cons (.flat (by kernel_rfl)) (.cons (.flat (by kernel_rfl)) (.cons (Rn.ptr _ _ _ (Nat.le_of_ble_eq_true rfl) rfl) .nil)))))))) (by kernel_rfl) (by kernel_rfl) rfl) rfl rfl) (ih (w64 (v178 + 1)) r190.1 r190.2 _ hF)
  · replace hF := of_neg hF hc189
    refine TS.exit' (id := 5) (by kernel_rfl) ?_
    refine NX.sqX ?_
    have hF := Option.some.inj hF
    subst hF
    exact Rd.out (e := .exit 5) (by intro h; cases h) (And.intro rfl (Wk.anew (base := 0) (L := 0) (f := [0, 1, 2]) (by decide) (by decide) (Nat.le_of_ble_eq_true rfl) rfl (.cons (At.blk (by kernel_rfl) (RnB.lit (.cons (.flat (by kernel_rfl)) (.cons (.flat (by kernel_rfl)) .nil)))) (.cons (At.blk (by kernel_rfl) (RnB.lit (.cons (.flat (by kernel_rfl)) .nil))) (.cons (At.blk (by kernel_rfl) (RnB.lit (.cons (.flat (by kernel_rfl)) (.cons (.flat (by kernel_rfl)) (.cons (.flat (by kernel_rfl)) (.cons (.flat (by kernel_rfl)) (.cons (.flat (by kernel_rfl)) (.cons (.flat (by kernel_rfl)) (.cons (.flat (by kernel_rfl)) (.cons (.flat (by kernel_rfl)) .nil)))))))))) (.nil _)))) (LRn.stx [4, 5, 10, 11, 12, 13, 14] [pt 0 0, pt 1 0, pt 2 0, iv r16, iv r18, iv v178, iv v78] [pt 0 0, pt 1 0, pt 2 0, iv r16, iv r18, iv v178, iv v78] (.cons (Rn.ptr _ _ _ (Nat.le_of_ble_eq_true rfl) rfl) (.cons (Rn.ptr _ _ _ (Nat.le_of_ble_eq_true rfl) rfl) (.cons (Rn.ptr _ _ _ (Nat.le_of_ble_eq_true rfl) rfl) (.cons (.flat (by kernel_rfl)) (.cons (.flat (by kernel_rfl)) (.cons (.flat (by kernel_rfl)) (.cons (.flat (by kernel_rfl)) .nil))))))) (by kernel_rfl) (by kernel_rfl) rfl) rfl rfl))
def P34l0 (p4 : Int) (p5 : Int) (p6 : Int) (r10 : (((Int × Int) × (Int × Int)) × (Int × Int) × (Int × Int))) (r16 : Int) (r18 : Int) (r : Int) : Post := fun e a h => e = .exit 1 ∧ Wk Try.prog 0 0 a h (st 134 [(13, iv r)]) []
theorem L34l0 (p4 : Int) (p5 : Int) (p6 : Int) (r10 : (((Int × Int) × (Int × Int)) × (Int × Int) × (Int × Int))) (r16 : Int) (r18 : Int) (v77 : Int) (v78 : Int) (r : Int) (hF : F34l0 p4 p5 p6 r10 r16 r18 v77 v78 = some r) : TL Try.prog 0 0 c34.s2.s2.s2.s2.s2.s2.s2.s2.s2.s1.s2.bd.bd (st 134 [(4, pt 0 0), (5, pt 1 0), (10, pt 2 0), (11, iv r16), (12, iv r18), (13, iv v77), (14, iv v78)]) (H34_4 p4 p5 p6 r10) (P34l0 p4 p5 p6 r10 r16 r18 r) := by
  refine F34l0.partial_correctness p4 p5 p6 r10 r16 r18 (motive := fun v77 v78 r => TL Try.prog 0 0 c34.s2.s2.s2.s2.s2.s2.s2.s2.s2.s1.s2.bd.bd (st 134 [(4, pt 0 0), (5, pt 1 0), (10, pt 2 0), (11, iv r16), (12, iv r18), (13, iv v77), (14, iv v78)]) (H34_4 p4 p5 p6 r10) (P34l0 p4 p5 p6 r10 r16 r18 r)) ?_ v77 v78 r hF
  clear hF r v77 v78
  intro again ih v77 v78 r hF
  refine TL.round ?_
  refine TS.seqP (by kernel_rfl) ?_
  refine TS.seqP (by kernel_rfl) ?_
  refine TS.regionP (by kernel_rfl) ?_
  refine TI.runA 6 [4, 5, 10, 11, 12, 13, 14, 70] (a2 := (st 134 [(4, pt 0 0), (5, pt 1 0), (10, pt 2 0), (11, iv r16), (12, iv r18), (13, iv v77), (14, iv v78), (70, .bool (decide (v78 ≤ (w64 ((w64 (r16 + r18)) + 1)))))])) (by kernel_rfl) ?_
  refine TI.done (by kernel_rfl) ?_
  refine NX.sq ?_
  refine TS.condP (o := (.tmp 70)) (b := decide (v78 ≤ (w64 ((w64 (r16 + r18)) + 1)))) (by kernel_rfl) (by kernel_rfl) (fun hc137 => ?_) (fun hc137 => ?_)
  · replace hF := of_pos hF hc137
    refine TS.skip' (by kernel_rfl) ?_
    refine NX.sq ?_
    refine TS.seqP (by kernel_rfl) ?_
    refine TS.blockP (id := 2) (by kernel_rfl) ?_
    refine TS.seqP (by kernel_rfl) ?_
    have hX := of_do hF
    clear hF
    obtain ⟨r138, h139, hF⟩ := hX
    refine TS.regionP (by kernel_rfl) ?_
    refine TI.runA 5 [4, 5, 10, 11, 12, 13, 14, 73, 74, 77] (a2 := (st 134 [(4, pt 0 0), (5, pt 1 0), (10, pt 2 0), (11, iv r16), (12, iv r18), (13, iv v77), (14, iv v78), (73, ag [iv p4, iv p5]), (74, iv v78), (77, ag [iv r10.1.2.1, iv r10.1.2.2])])) (by kernel_rfl) ?_
    refine TI.callF (C53 _ _ _ _ _ _ h139) (by kernel_rfl) (by kernel_rfl) ?_
    refine TI.run 2 [4, 5, 10, 11, 12, 13, 14, 15] [0, 1, 2, 3] (a2 := (st 134 [(4, pt 0 0), (5, pt 1 0), (10, pt 2 0), (11, iv r16), (12, iv r18), (13, iv v77), (14, iv v78), (15, pt 3 0)])) (h2 := (H34_1 p4 p5 p6 r10 r138)) (by kernel_rfl) ?_
    refine TI.done (by kernel_rfl) ?_
    refine NX.sq ?_
    refine TS.seqP (by kernel_rfl) ?_
    have hX := of_do hF
    clear hF
    obtain ⟨r140, h141, hF⟩ := hX
    have hX := of_do hF
    clear hF
    obtain ⟨r142, h143, hF⟩ := hX
    have hX := of_do hF
    clear hF
    obtain ⟨r144, h145, hF⟩ := hX
    have hX := of_do hF
    clear hF
    obtain ⟨r146, h147, hF⟩ := hX
    have hT : ∀ e ∈ ([⟨72, [ag [iv r138.1, iv r138.2], ag [iv r10.1.1.1, iv r10.1.1.2]], (H34_1 p4 p5 p6 r10 r138), iv r140, []⟩, ⟨63, [ag [iv r10.1.1.1, iv r10.1.1.2]], (H34_1 p4 p5 p6 r10 r138), iv r142, []⟩, ⟨63, [ag [iv r10.1.1.1, iv r10.1.1.2]], (H34_1 p4 p5 p6 r10 r138), iv r144, []⟩, ⟨69, [iv (w64 ((w64 ((-2) * r140)) + r142)), iv (w64 (2 * r144))], (H34_1 p4 p5 p6 r10 r138), iv r146, []⟩] : List Entry), PureSim Try.prog e.g e.args e.h e.v e.new := by
      intro e he
      simp only [List.mem_cons, List.not_mem_nil, or_false] at he
      rcases he with rfl | rfl | rfl | rfl
      · exact PureSim.anyK (C72 _ _ _ _ _ h141) (by kernel_rfl)
      · exact PureSim.anyK (C63 _ _ _ h143) (by kernel_rfl)
      · exact PureSim.anyK (C63 _ _ _ h145) (by kernel_rfl)
      · exact PureSim.anyK (C69 _ _ _ h147) (by kernel_rfl)
    refine TS.drawP [⟨72, [ag [iv r138.1, iv r138.2], ag [iv r10.1.1.1, iv r10.1.1.2]], (H34_1 p4 p5 p6 r10 r138), iv r140, []⟩, ⟨63, [ag [iv r10.1.1.1, iv r10.1.1.2]], (H34_1 p4 p5 p6 r10 r138), iv r142, []⟩, ⟨63, [ag [iv r10.1.1.1, iv r10.1.1.2]], (H34_1 p4 p5 p6 r10 r138), iv r144, []⟩, ⟨69, [iv (w64 ((w64 ((-2) * r140)) + r142)), iv (w64 (2 * r144))], (H34_1 p4 p5 p6 r10 r138), iv r146, []⟩] hT mixed (by kernel_rfl) 16 (by kernel_rfl) [4, 5, 10, 11, 12, 13, 14, 15, 16] [0, 1, 2, 3] (a2 := (st 134 [(4, pt 0 0), (5, pt 1 0), (10, pt 2 0), (11, iv r16), (12, iv r18), (13, iv v77), (14, iv v78), (15, pt 3 0), (16, iv r146)])) (h2 := (H34_1 p4 p5 p6 r10 r138)) ?_ ?_
    · refine QJ.run (s1 := (qs (st 134 [(4, pt 0 0), (5, pt 1 0), (10, pt 2 0), (11, iv r16), (12, iv r18), (13, iv v77), (14, iv v78), (15, pt 3 0), (79, ag [iv r138.1, iv r138.2]), (80, pt 2 0), (81, pt 2 0), (82, ag [iv r10.1.1.1, iv r10.1.1.2])]) (H34_1 p4 p5 p6 r10 r138) [] [])) 4 (by kernel_rfl) (by kernel_rfl) ?_
      refine QJ.op (q := { val := iv r140, new := [] }) (by decide) (qOf_call (g := 72) (args := [ag [iv r138.1, iv r138.2], ag [iv r10.1.1.1, iv r10.1.1.2]]) (by kernel_rfl) lookC_hit) ?_
      refine QJ.run (s1 := (qs (st 134 [(4, pt 0 0), (5, pt 1 0), (10, pt 2 0), (11, iv r16), (12, iv r18), (13, iv v77), (14, iv v78), (15, pt 3 0), (79, ag [iv r138.1, iv r138.2]), (80, pt 2 0), (81, pt 2 0), (82, ag [iv r10.1.1.1, iv r10.1.1.2]), (83, iv r140), (84, iv (w64 ((-2) * r140))), (85, pt 2 0), (86, pt 2 0), (87, ag [iv r10.1.1.1, iv r10.1.1.2])]) (H34_1 p4 p5 p6 r10 r138) [] [])) 4 (by kernel_rfl) (by kernel_rfl) ?_
      refine QJ.op (q := { val := iv r142, new := [] }) (by decide) (qOf_call (g := 63) (args := [ag [iv r10.1.1.1, iv r10.1.1.2]]) (by kernel_rfl) (lookC_skip (fun hg => absurd (show (72 : Nat) = 63 from hg) (by decide)) lookC_hit)) ?_
      refine QJ.run (s1 := (qs (st 134 [(4, pt 0 0), (5, pt 1 0), (10, pt 2 0), (11, iv r16), (12, iv r18), (13, iv v77), (14, iv v78), (15, pt 3 0), (79, ag [iv r138.1, iv r138.2]), (80, pt 2 0), (81, pt 2 0), (82, ag [iv r10.1.1.1, iv r10.1.1.2]), (83, iv r140), (84, iv (w64 ((-2) * r140))), (85, pt 2 0), (86, pt 2 0), (87, ag [iv r10.1.1.1, iv r10.1.1.2]), (88, iv r142), (89, iv (w64 ((w64 ((-2) * r140)) + r142))), (90, pt 2 0), (91, pt 2 0), (92, ag [iv r10.1.1.1, iv r10.1.1.2])]) (H34_1 p4 p5 p6 r10 r138) [] [])) 4 (by kernel_rfl) (by kernel_rfl) ?_
      refine QJ.op (q := { val := iv r144, new := [] }) (by decide) (qOf_call (g := 63) (args := [ag [iv r10.1.1.1, iv r10.1.1.2]]) (by kernel_rfl) (lookC_skip (fun hg => absurd (show (72 : Nat) = 63 from hg) (by decide)) (lookC_skip (by intro _ ha _; have hr := Option.some.inj (h143.symm.trans (Eq.trans (congr (congrArg F63 (Eq.refl r10.1.1.1)) (Eq.refl r10.1.1.2)) h145)); first | (subst hr; rfl) | (cases hr; done) | (cases hr; rfl)) lookC_hit))) ?_
      refine QJ.run (s1 := (qs (st 134 [(4, pt 0 0), (5, pt 1 0), (10, pt 2 0), (11, iv r16), (12, iv r18), (13, iv v77), (14, iv v78), (15, pt 3 0), (79, ag [iv r138.1, iv r138.2]), (80, pt 2 0), (81, pt 2 0), (82, ag [iv r10.1.1.1, iv r10.1.1.2]), (83, iv r140), (84, iv (w64 ((-2) * r140))), (85, pt 2 0), (86, pt 2 0), (87, ag [iv r10.1.1.1, iv r10.1.1.2]), (88, iv r142), (89, iv (w64 ((w64 ((-2) * r140)) + r142))), (90, pt 2 0), (91, pt 2 0), (92, ag [iv r10.1.1.1, iv r10.1.1.2]), (93, iv r144), (94, iv (w64 (2 * r144)))]) (H34_1 p4 p5 p6 r10 r138) [] [])) 1 (by kernel_rfl) (by kernel_rfl) ?_
      refine QJ.done (by kernel_rfl) ⟨rfl, ?_⟩
      refine SJ.op (q := { val := iv r146, new := [] }) (by kernel_rfl) (qOf_call (g := 69) (args := [iv (w64 ((w64 ((-2) * r140)) + r142)), iv (w64 (2 * r144))]) (by kernel_rfl) (lookC_skip (fun hg => absurd (show (72 : Nat) = 69 from hg) (by decide)) (lookC_skip (fun hg => absurd (show (63 : Nat) = 69 from hg) (by decide)) (lookC_skip (fun hg => absurd (show (63 : Nat) = 69 from hg) (by decide)) lookC_hit)))) ?_
      refine SJ.last (by kernel_rfl)
    refine TS.seqP (by kernel_rfl) ?_
    refine TS.seqP (by kernel_rfl) ?_
    have hX := of_do hF
    clear hF
    obtain ⟨r148, h149, hF⟩ := hX
    refine TS.regionP (by kernel_rfl) ?_
    refine TI.runA 5 [4, 5, 10, 11, 12, 13, 14, 15, 16, 96, 97, 100] (a2 := (st 134 [(4, pt 0 0), (5, pt 1 0), (10, pt 2 0), (11, iv r16), (12, iv r18), (13, iv v77), (14, iv v78), (15, pt 3 0), (16, iv r146), (96, ag [iv r138.1, iv r138.2]), (97, iv r146), (100, ag [iv r10.1.1.1, iv r10.1.1.2])])) (by kernel_rfl) ?_
    refine TI.callF (C53 _ _ _ _ _ _ h149) (by kernel_rfl) (by kernel_rfl) ?_
    refine TI.run 2 [4, 5, 10, 11, 12, 13, 14, 15, 16, 17] [0, 1, 2, 3, 4] (a2 := (st 134 [(4, pt 0 0), (5, pt 1 0), (10, pt 2 0), (11, iv r16), (12, iv r18), (13, iv v77), (14, iv v78), (15, pt 3 0), (16, iv r146), (17, pt 4 0)])) (h2 := [cl 23 [iv p4, iv p5], cl 3 [iv p6], cl 108 [iv r10.1.1.1, iv r10.1.1.2, iv r10.1.2.1, iv r10.1.2.2, iv r10.2.1.1, iv r10.2.1.2, iv r10.2.2.1, iv r10.2.2.2], cl 23 [iv r138.1, iv r138.2], cl 23 [iv r148.1, iv r148.2]]) (by kernel_rfl) ?_
    refine TI.done (by kernel_rfl) ?_
    refine NX.sq ?_
    refine TS.blockP (id := 3) (by kernel_rfl) ?_
    have hX := of_do hF
    clear hF
    obtain ⟨r169, h170, hF⟩ := hX
    refine TS.loopP (by kernel_rfl) (TL.weak (a2 := (st 134 [(4, pt 0 0), (5, pt 1 0), (10, pt 2 0), (11, iv r16), (12, iv r18), (13, iv v77), (14, iv v78), (15, pt 3 0), (16, iv r146), (17, pt 4 0)])) (h2 := [cl 23 [iv p4, iv p5], cl 3 [iv p6], cl 108 [iv r10.1.1.1, iv r10.1.1.2, iv r10.1.2.1, iv r10.1.2.2, iv r10.2.1.1, iv r10.2.1.2, iv r10.2.2.1, iv r10.2.2.2], cl 23 [iv r138.1, iv r138.2], cl 23 [iv r148.1, iv r148.2]]) (Wk.anew (base := 0) (L := 0) (f := [0, 1, 2, 3, 4]) (by decide) (by decide) (Nat.le_of_ble_eq_true rfl) rfl (.cons (At.blk (by kernel_rfl) (RnB.lit (.cons (.flat (by kernel_rfl)) (.cons (.flat (by kernel_rfl)) .nil)))) (.cons (At.blk (by kernel_rfl) (RnB.lit (.cons (.flat (by kernel_rfl)) .nil))) (.cons (At.blk (by kernel_rfl) (RnB.lit (.cons (.flat (by kernel_rfl)) (.cons (.flat (by kernel_rfl)) (.cons (.flat (by kernel_rfl)) (.cons (.flat (by kernel_rfl)) (.cons (.flat (by kernel_rfl)) (.cons (.flat (by kernel_rfl)) (.cons (.flat (by kernel_rfl)) (.cons (.flat (by kernel_rfl)) .nil)))))))))) (.cons (At.blk (by kernel_rfl) (RnB.lit (.cons (.flat (by kernel_rfl)) (.cons (.flat (by kernel_rfl)) .nil)))) (.cons (At.blk (by kernel_rfl) (RnB.lit (.cons (.flat (by kernel_rfl)) (.cons (.flat (by kernel_rfl)) .nil)))) (.nil _)))))) (LRn.stx [4, 5, 10, 11, 12, 13, 14, 15, 16, 17] [pt 0 0, pt 1 0, pt 2 0, iv r16, iv r18, iv v77, iv v78, pt 3 0, iv r146, pt 4 0] [pt 0 0, pt 1 0, pt 2 0, iv r16, iv r18, iv v77, iv v78, pt 3 0, iv r146, pt 4 0] (.cons (Rn.ptr _ _ _ (Nat.le_of_ble_eq_true rfl) rfl) (.cons (Rn.ptr _ _ _ (Nat.le_of_ble_eq_true rfl) rfl) (.cons (Rn.ptr _ _ _ (Nat.le_of_ble_eq_true rfl) rfl) (.cons (.flat (by kernel_rfl)) (.cons (.flat (by kernel_rfl)) (.cons (.flat (by kernel_rfl)) (.cons (.flat (by kernel_rfl)) (.cons (Rn.ptr _ _ _ (Nat.le_of_ble_eq_true rfl) rfl) (.cons (.flat (by kernel_rfl)) (.cons (Rn.ptr _ _ _ (Nat.le_of_ble_eq_true rfl) rfl) .nil)))))))))) (by kernel_rfl) (by kernel_rfl) rfl) rfl rfl) (TL.post (L34l1 p4 p5 p6 r10 r16 r18 r138 r146 v78 v77 r148.1 r148.2 r169 h170) ?_))
    rintro e a1 h1 hp
    obtain ⟨rfl, hw⟩ := hp
    refine ⟨(st 134 [(4, pt 0 0), (5, pt 1 0), (10, pt 2 0), (11, iv r16), (12, iv r18), (13, iv r169), (14, iv v78), (15, pt 3 0), (16, iv r146)]), (H34_1 p4 p5 p6 r10 r138), ?_, hw⟩
    refine NX.bkX ?_
    refine NX.sq ?_
    refine TS.seqP (by kernel_rfl) ?_
    have hX := of_do hF
    clear hF
    obtain ⟨r171, h172, hF⟩ := hX
    refine TS.regionP (by kernel_rfl) ?_
    refine TI.run 6 [4, 5, 10, 11, 12, 13, 14, 114, 116, 119] [0, 1, 2] (a2 := (st 134 [(4, pt 0 0), (5, pt 1 0), (10, pt 2 0), (11, iv r16), (12, iv r18), (13, iv r169), (14, iv v78), (114, ag [iv r138.1, iv r138.2]), (116, iv (w64 (r146 - 1))), (119, ag [iv r10.1.1.1, iv r10.1.1.2])])) (h2 := [cl 23 [iv p4, iv p5], cl 3 [iv p6], cl 108 [iv r10.1.1.1, iv r10.1.1.2, iv r10.1.2.1, iv r10.1.2.2, iv r10.2.1.1, iv r10.2.1.2, iv r10.2.2.1, iv r10.2.2.2], .dead]) (by kernel_rfl) ?_
    refine TI.callF (C53 _ _ _ _ _ _ h172) (by kernel_rfl) (by kernel_rfl) ?_
    refine TI.run 2 [4, 5, 10, 11, 12, 13, 14, 18] [0, 1, 2, 4] (a2 := (st 134 [(4, pt 0 0), (5, pt 1 0), (10, pt 2 0), (11, iv r16), (12, iv r18), (13, iv r169), (14, iv v78), (18, pt 4 0)])) (h2 := [cl 23 [iv p4, iv p5], cl 3 [iv p6], cl 108 [iv r10.1.1.1, iv r10.1.1.2, iv r10.1.2.1, iv r10.1.2.2, iv r10.2.1.1, iv r10.2.1.2, iv r10.2.2.1, iv r10.2.2.2], .dead, cl 23 [iv r171.1, iv r171.2]]) (by kernel_rfl) ?_
    refine TI.done (by kernel_rfl) ?_
    refine NX.sq ?_
    refine TS.blockP (id := 5) (by kernel_rfl) ?_
    have hX := of_do hF
    clear hF
    obtain ⟨r192, h193, hF⟩ := hX
    refine TS.loopP (by kernel_rfl) (TL.weak (a2 := (st 134 [(4, pt 0 0), (5, pt 1 0), (10, pt 2 0), (11, iv r16), (12, iv r18), (13, iv r169), (14, iv v78), (18, pt 3 0)])) (h2 := [cl 23 [iv p4, iv p5], cl 3 [iv p6], cl 108 [iv r10.1.1.1, iv r10.1.1.2, iv r10.1.2.1, iv r10.1.2.2, iv r10.2.1.1, iv r10.2.1.2, iv r10.2.2.1, iv r10.2.2.2], cl 23 [iv r171.1, iv r171.2]]) (Wk.anew (base := 0) (L := 0) (f := [0, 1, 2, 4]) (by decide) (by decide) (Nat.le_of_ble_eq_true rfl) rfl (.cons (At.blk (by kernel_rfl) (RnB.lit (.cons (.flat (by kernel_rfl)) (.cons (.flat (by kernel_rfl)) .nil)))) (.cons (At.blk (by kernel_rfl) (RnB.lit (.cons (.flat (by kernel_rfl)) .nil))) (.cons (At.blk (by kernel_rfl) (RnB.lit (.cons (.flat (by kernel_rfl)) (.cons (.flat (by kernel_rfl)) (.cons (.flat (by kernel_rfl)) (.cons (.flat (by kernel_rfl)) (.cons (.flat (by kernel_rfl)) (.cons (.flat (by kernel_rfl)) (.cons (.flat (by kernel_rfl)) (.cons (.flat (by kernel_rfl)) .nil)))))))))) (.cons (At.blk (by kernel_rfl) (RnB.lit (.cons (.flat (by kernel_rfl)) (.cons (.flat (by kernel_rfl)) .nil)))) (.nil _))))) (LRn.stx [4, 5, 10, 11, 12, 13, 14, 18] [pt 0 0, pt 1 0, pt 2 0, iv r16, iv r18, iv r169, iv v78, pt 3 0] [pt 0 0, pt 1 0, pt 2 0, iv r16, iv r18, iv r169, iv v78, pt 4 0] (.cons (Rn.ptr _ _ _ (Nat.le_of_ble_eq_true rfl) rfl) (.cons (Rn.ptr _ _ _ (Nat.le_of_ble_eq_true rfl) rfl) (.cons (Rn.ptr _ _ _ (Nat.le_of_ble_eq_true rfl) rfl) (.cons (.flat (by kernel_rfl)) (.cons (.flat (by kernel_rfl)) (.cons (.flat (by kernel_rfl)) (.cons (.flat (by kernel_rfl)) (.cons (Rn.ptr _ _ _ (Nat.le_of_ble_eq_true rfl) rfl) .nil)))))))) (by kernel_rfl) (by kernel_rfl) rfl) rfl rfl) (TL.post (L34l2 p4 p5 p6 r10 r16 r18 v78 r169 r171.1 r171.2 r192 h193) ?_))
    rintro e a1 h1 hp
    obtain ⟨rfl, hw⟩ := hp
    refine ⟨(st 134 [(4, pt 0 0), (5, pt 1 0), (10, pt 2 0), (11, iv r16), (12, iv r18), (13, iv r192), (14, iv v78)]), (H34_4 p4 p5 p6 r10), ?_, hw⟩
    refine NX.bkX ?_
    refine NX.bk ?_
    refine NX.sq ?_
    refine TS.regionP (by kernel_rfl) ?_
    refine TI.runA 3 [4, 5, 10, 11, 12, 13, 14] (a2 := (st 134 [(4, pt 0 0), (5, pt 1 0), (10, pt 2 0), (11, iv r16), (12, iv r18), (13, iv r192), (14, iv (w64 (v78 + 1)))])) (by kernel_rfl) ?_
    refine TI.done (by kernel_rfl) ?_
    exact Rd.again (a2 := (st 134 [(4, pt 0 0), (5, pt 1 0), (10, pt 2 0), (11, iv r16), (12, iv r18), (13, iv r192), (14, iv (w64 (v78 + 1)))])) (h2 := (H34_4 p4 p5 p6 r10)) (Wk.anew (base := 0) (L := 0) (f := [0, 1, 2]) (by decide) (by decide) (Nat.le_of_ble_eq_true rfl) rfl (.cons (At.blk (by kernel_rfl) (RnB.lit (.cons (.flat (by kernel_rfl)) (.cons (.flat (by kernel_rfl)) .nil)))) (.cons (At.blk (by kernel_rfl) (RnB.lit (.cons (.flat (by kernel_rfl)) .nil))) (.cons (At.blk (by kernel_rfl) (RnB.lit (.cons (.flat (by kernel_rfl)) (.cons (.flat (by kernel_rfl)) (.cons (.flat (by kernel_rfl)) (.cons (.flat (by kernel_rfl)) (.cons (.flat (by kernel_rfl)) (.cons (.flat (by kernel_rfl)) (.cons (.flat (by kernel_rfl)) (.cons (.flat (by kernel_rfl)) .nil)))))))))) (.nil _)))) (LRn.stx [4, 5, 10, 11, 12, 13, 14] [pt 0 0, pt 1 0, pt 2 0, iv r16, iv r18, iv r192, iv (w64 (v78 + 1))] [pt 0 0, pt 1 0, pt 2 0, iv r16, iv r18, iv r192, iv (w64 (v78 + 1))] (.cons (Rn.ptr _ _ _ (Nat.le_of_ble_eq_true rfl) rfl) (.cons (Rn.ptr _ _ _ (Nat.le_of_ble_eq_true rfl) rfl) (.cons (Rn.ptr _ _ _ (Nat.le_of_ble_eq_true rfl) rfl) (.cons (.flat (by kernel_rfl)) (.cons (.flat (by kernel_rfl)) (.cons (.flat (by kernel_rfl)) (.cons (.flat (by kernel_rfl)) .nil))))))) (by kernel_rfl) (by kernel_rfl) rfl) rfl rfl) (ih r192 (w64 (v78 + 1)) _ hF)
  · replace hF := of_neg hF hc137
    refine TS.exit' (id := 1) (by kernel_rfl) ?_
    refine NX.sqX ?_
    have hF := Option.some.inj hF
    subst hF
    exact Rd.out (e := .exit 1) (by intro h; cases h) (And.intro rfl (Wk.anew (base := 0) (L := 0) (f := []) (by decide) (by decide) (Nat.le_of_ble_eq_true rfl) rfl (.nil _) (LRn.stx [13] [iv v77] [iv v77] (.cons (.flat (by kernel_rfl)) .nil) (by kernel_rfl) (by kernel_rfl) rfl) rfl rfl))
theorem B34 (p0 : Int) (p1 : Int) (p2 : Int) (p3 : Int) (p4 : Int) (p5 : Int) (p6 : Int) (r : (Int × Int)) (hF : F34 p0 p1 p2 p3 p4 p5 p6 = some r) : TS Try.prog 0 0 c34 (st 134 [(0, ag [iv p0, iv p1, iv p2, iv p3]), (1, ag [iv p4, iv p5]), (2, iv p6)]) [] (NX Try.prog 0 0 [] (FinP Try.prog Try.f34 0 (V34 0 r) (N34 0 r))) := by
  unfold F34 at hF
  refine TS.seqP (by kernel_rfl) ?_
  refine TS.regionP (by kernel_rfl) ?_
  refine TI.run 5 [3, 4, 5] [0, 1, 2] (a2 := (st 134 [(3, pt 0 0), (4, pt 1 0), (5, pt 2 0)])) (h2 := [cl 25 [iv p0, iv p1, iv p2, iv p3], cl 23 [iv p4, iv p5], cl 3 [iv p6]]) (by kernel_rfl) ?_
  refine TI.done (by kernel_rfl) ?_
  refine NX.sq ?_
  refine TS.seqP (by kernel_rfl) ?_
  have hX := of_do hF
  clear hF
  obtain ⟨r1, h2, hF⟩ := hX
  refine TS.regionP (by kernel_rfl) ?_
  refine TI.runA 2 [3, 4, 5, 19, 20] (a2 := (st 134 [(3, pt 0 0), (4, pt 1 0), (5, pt 2 0), (19, ag [iv p0, iv p1, iv p2, iv p3]), (20, ag [iv p4, iv p5])])) (by kernel_rfl) ?_
  refine TI.callP (g := 52) (args := [ag [iv p0, iv p1, iv p2, iv p3], ag [iv p4, iv p5], .slice none 0 0]) (v := iv r1) (new := []) (PureSim.ren (hc := [accB 27 (List.length ([])) (List.flatMap e27 ([]))]) (fun i => List.getD [(0, 0)] i (0, 0)) (C52 _ _ _ _ _ _ _ _ h2) (.cons At.accN (.nil _)) (.cons (.flat (by kernel_rfl)) (.cons (.flat (by kernel_rfl)) (.cons (Rn.anyN _ _ _ rfl (by decide)) .nil))) (.flat (by kernel_rfl)) newflat_nil) (by kernel_rfl) ?_
  refine TI.runA 1 [3, 4, 5, 8] (a2 := (st 134 [(3, pt 0 0), (4, pt 1 0), (5, pt 2 0), (8, iv r1)])) (by kernel_rfl) ?_
  refine TI.done (by kernel_rfl) ?_
  refine NX.sq ?_
  refine TS.seqP (by kernel_rfl) ?_
  have hX := of_do hF
  clear hF
  obtain ⟨r3, h4, hF⟩ := hX
  refine TS.regionP (by kernel_rfl) ?_
  refine TI.runA 4 [3, 4, 5, 8, 23, 25] (a2 := (st 134 [(3, pt 0 0), (4, pt 1 0), (5, pt 2 0), (8, iv r1), (23, ag [iv p0, iv p1]), (25, ag [iv p2, iv p3])])) (by kernel_rfl) ?_
  refine TI.callF (C59 _ _ _ _ _ h4) (by kernel_rfl) (by kernel_rfl) ?_
  refine TI.run 2 [3, 4, 5, 8, 9] [0, 1, 2, 3] (a2 := (st 134 [(3, pt 0 0), (4, pt 1 0), (5, pt 2 0), (8, iv r1), (9, pt 3 0)])) (h2 := [cl 25 [iv p0, iv p1, iv p2, iv p3], cl 23 [iv p4, iv p5], cl 3 [iv p6], cl 3 [iv r3]]) (by kernel_rfl) ?_
  refine TI.done (by kernel_rfl) ?_
  refine NX.sq ?_
  refine TS.seqP (by kernel_rfl) ?_
  refine TS.blockP (id := 0) (by kernel_rfl) ?_
  refine TS.seqP (by kernel_rfl) ?_
  refine TS.regionP (by kernel_rfl) ?_
  refine TI.runA 3 [3, 4, 5, 8, 9, 27] (a2 := (st 134 [(3, pt 0 0), (4, pt 1 0), (5, pt 2 0), (8, iv r1), (9, pt 3 0), (27, .bool (r1 != 0))])) (by kernel_rfl) ?_
  refine TI.done (by kernel_rfl) ?_
  refine NX.sq ?_
  refine TS.condP (o := (.tmp 27)) (b := r1 != 0) (by kernel_rfl) (by kernel_rfl) (fun hc5 => ?_) (fun hc5 => ?_)
  · replace hF := of_pos hF hc5
    refine TS.seqP (by kernel_rfl) ?_
    refine TS.regionP (by kernel_rfl) ?_
    refine TI.run 3 [6, 7] [] (a2 := (st 134 [(6, iv 0), (7, iv r1)])) (h2 := [.dead, .dead, .dead, .dead]) (by kernel_rfl) ?_
    refine TI.done (by kernel_rfl) ?_
    refine NX.sq ?_
    refine TS.ret' (by kernel_rfl) ?_
    refine NX.bkR ?_
    refine NX.sqR ?_
    have hF := Option.some.inj hF
    subst hF
    exact ⟨.inr rfl, rfl, .tuple ⟨[iv 0, iv r1]⟩, by kernel_rfl, WkV.flat0 (by kernel_rfl) (Nat.le_of_ble_eq_true rfl)⟩
  · replace hF := of_neg hF hc5
    refine TS.seqP (by kernel_rfl) ?_
    have hX := of_do hF
    clear hF
    obtain ⟨r6, h7, hF⟩ := hX
    have hX := of_do hF
    clear hF
    obtain ⟨m8, hm196, hF⟩ := hX
    have hK : NX Try.prog 0 0 [.sq c34.s2.s2.s2.s1.bd.s2.el.s2, .bk 0, .sq c34.s2.s2.s2.s2] (FinP Try.prog Try.f34 0 (V34 0 r) (N34 0 r)) .normal (st 134 [(3, pt 0 0), (4, pt 1 0), (5, pt 2 0), (9, pt 3 0), (31, .bool m8)]) [cl 25 [iv p0, iv p1, iv p2, iv p3], cl 23 [iv p4, iv p5], cl 3 [iv p6], cl 3 [iv r3]] := by
      refine NX.sq ?_
      cases m8 with
      | true =>
        replace hF := of_pos hF rfl
        refine TS.condTP (o := (.tmp 31)) (by kernel_rfl) (by kernel_rfl) ?_
        refine TS.seqP (by kernel_rfl) ?_
        refine TS.regionP (by kernel_rfl) ?_
        refine TI.run 2 [6, 7] [] (a2 := (st 134 [(6, iv 0), (7, iv 1)])) (h2 := [.dead, .dead, .dead, .dead]) (by kernel_rfl) ?_
        refine TI.done (by kernel_rfl) ?_
        refine NX.sq ?_
        refine TS.ret' (by kernel_rfl) ?_
        refine NX.bkR ?_
        refine NX.sqR ?_
        have hF := Option.some.inj hF
        subst hF
        exact ⟨.inr rfl, rfl, .tuple ⟨[iv 0, iv 1]⟩, by kernel_rfl, WkV.flat0 (by kernel_rfl) (Nat.le_of_ble_eq_true rfl)⟩
      | false =>
        replace hF := of_neg hF rfl
        refine TS.condFP (o := (.tmp 31)) (by kernel_rfl) (by kernel_rfl) ?_
        refine TS.seqP (by kernel_rfl) ?_
        refine TS.regionP (by kernel_rfl) ?_
        refine TI.runA 8 [3, 4, 5, 9, 35] (a2 := (st 134 [(3, pt 0 0), (4, pt 1 0), (5, pt 2 0), (9, pt 3 0), (35, .bool (decide (p6 > (w64 (2000 * (mx r3 (w64 (0 - r3))))))))])) (by kernel_rfl) ?_
        refine TI.done (by kernel_rfl) ?_
        refine NX.sq ?_
        refine TS.condP (o := (.tmp 35)) (b := decide (p6 > (w64 (2000 * (mx r3 (w64 (0 - r3))))))) (by kernel_rfl) (by kernel_rfl) (fun hc9 => ?_) (fun hc9 => ?_)
        · replace hF := of_pos hF hc9
          refine TS.seqP (by kernel_rfl) ?_
          refine TS.regionP (by kernel_rfl) ?_
          refine TI.run 2 [6, 7] [] (a2 := (st 134 [(6, iv 0), (7, iv 16)])) (h2 := [.dead, .dead, .dead, .dead]) (by kernel_rfl) ?_
          refine TI.done (by kernel_rfl) ?_
          refine NX.sq ?_
          refine TS.ret' (by kernel_rfl) ?_
          refine NX.bkR ?_
          refine NX.sqR ?_
          have hF := Option.some.inj hF
          subst hF
          exact ⟨.inr rfl, rfl, .tuple ⟨[iv 0, iv 16]⟩, by kernel_rfl, WkV.flat0 (by kernel_rfl) (Nat.le_of_ble_eq_true rfl)⟩
        · replace hF := of_neg hF hc9
          refine TS.skip' (by kernel_rfl) ?_
          refine NX.bk ?_
          refine NX.sq ?_
          refine TS.seqP (by kernel_rfl) ?_
          have hX := of_do hF
          clear hF
          obtain ⟨r10, h11, hF⟩ := hX
          refine TS.regionP (by kernel_rfl) ?_
          refine TI.run 1 [4, 5, 9, 43] [1, 2, 3] (a2 := (st 134 [(4, pt 1 0), (5, pt 2 0), (9, pt 3 0), (43, ag [iv p0, iv p1, iv p2, iv p3])])) (h2 := [.dead, cl 23 [iv p4, iv p5], cl 3 [iv p6], cl 3 [iv r3]]) (by kernel_rfl) ?_
          refine TI.callF (C61 _ _ _ _ _ h11) (by kernel_rfl) (by kernel_rfl) ?_
          refine TI.run 2 [4, 5, 9, 10] [1, 2, 3, 4] (a2 := (st 134 [(4, pt 1 0), (5, pt 2 0), (9, pt 3 0), (10, pt 4 0)])) (h2 := [.dead, cl 23 [iv p4, iv p5], cl 3 [iv p6], cl 3 [iv r3], cl 108 [iv r10.1.1.1, iv r10.1.1.2, iv r10.1.2.1, iv r10.1.2.2, iv r10.2.1.1, iv r10.2.1.2, iv r10.2.2.1, iv r10.2.2.2]]) (by kernel_rfl) ?_
          refine TI.done (by kernel_rfl) ?_
          refine NX.sq ?_
          refine TS.seqP (by kernel_rfl) ?_
          have hX := of_do hF
          clear hF
          obtain ⟨r12, h13, hF⟩ := hX
          refine TS.regionP (by kernel_rfl) ?_
          refine TI.runA 6 [4, 5, 9, 10, 47, 50] (a2 := (st 134 [(4, pt 1 0), (5, pt 2 0), (9, pt 3 0), (10, pt 4 0), (47, ag [iv r10.1.1.1, iv r10.1.1.2]), (50, ag [iv r10.1.2.1, iv r10.1.2.2])])) (by kernel_rfl) ?_
          refine TI.callF (C59 _ _ _ _ _ h13) (by kernel_rfl) (by kernel_rfl) ?_
          refine TI.run 1 [4, 5, 9, 10] [1, 2, 3, 4] (a2 := (st 134 [(4, pt 1 0), (5, pt 2 0), (9, pt 3 0), (10, pt 4 0)])) (h2 := (H34_3 p4 p5 p6 r12 r10)) (by kernel_rfl) ?_
          refine TI.done (by kernel_rfl) ?_
          refine NX.sq ?_
          refine TS.seqP (by kernel_rfl) ?_
          have hX := of_do hF
          clear hF
          obtain ⟨r14, h15, hF⟩ := hX
          have hX := of_do hF
          clear hF
          obtain ⟨r16, h17, hF⟩ := hX
          have hT : ∀ e ∈ ([⟨59, [ag [iv r10.1.1.1, iv r10.1.1.2], ag [iv p4, iv p5]], (H34_3 p4 p5 p6 r12 r10), iv r14, []⟩, ⟨69, [iv (w64 (0 - r14)), iv r12], (H34_3 p4 p5 p6 r12 r10), iv r16, []⟩] : List Entry), PureSim Try.prog e.g e.args e.h e.v e.new := by
            intro e he
            simp only [List.mem_cons, List.not_mem_nil, or_false] at he
            rcases he with rfl | rfl
            · exact PureSim.anyK (C59 _ _ _ _ _ h15) (by kernel_rfl)
            · exact PureSim.anyK (C69 _ _ _ h17) (by kernel_rfl)
          refine TS.drawP [⟨59, [ag [iv r10.1.1.1, iv r10.1.1.2], ag [iv p4, iv p5]], (H34_3 p4 p5 p6 r12 r10), iv r14, []⟩, ⟨69, [iv (w64 (0 - r14)), iv r12], (H34_3 p4 p5 p6 r12 r10), iv r16, []⟩] hT mixed (by kernel_rfl) 7 (by kernel_rfl) [4, 5, 9, 10, 11] [1, 2, 3, 4] (a2 := (st 134 [(4, pt 1 0), (5, pt 2 0), (9, pt 3 0), (10, pt 4 0), (11, iv r16)])) (h2 := (H34_3 p4 p5 p6 r12 r10)) ?_ ?_
          · refine QJ.run (s1 := (qs (st 134 [(4, pt 1 0), (5, pt 2 0), (9, pt 3 0), (10, pt 4 0), (52, pt 4 0), (53, pt 4 0), (54, ag [iv r10.1.1.1, iv r10.1.1.2]), (55, ag [iv p4, iv p5])]) (H34_3 p4 p5 p6 r12 r10) [] [])) 4 (by kernel_rfl) (by kernel_rfl) ?_
            refine QJ.op (q := { val := iv r14, new := [] }) (by decide) (qOf_call (g := 59) (args := [ag [iv r10.1.1.1, iv r10.1.1.2], ag [iv p4, iv p5]]) (by kernel_rfl) lookC_hit) ?_
            refine QJ.run (s1 := (qs (st 134 [(4, pt 1 0), (5, pt 2 0), (9, pt 3 0), (10, pt 4 0), (52, pt 4 0), (53, pt 4 0), (54, ag [iv r10.1.1.1, iv r10.1.1.2]), (55, ag [iv p4, iv p5]), (56, iv r14), (57, iv (w64 (0 - r14))), (58, iv r12)]) (H34_3 p4 p5 p6 r12 r10) [] [])) 2 (by kernel_rfl) (by kernel_rfl) ?_
            refine QJ.done (by kernel_rfl) ⟨rfl, ?_⟩
            refine SJ.op (q := { val := iv r16, new := [] }) (by kernel_rfl) (qOf_call (g := 69) (args := [iv (w64 (0 - r14)), iv r12]) (by kernel_rfl) (lookC_skip (fun hg => absurd (show (59 : Nat) = 69 from hg) (by decide)) lookC_hit)) ?_
            refine SJ.last (by kernel_rfl)
          refine TS.seqP (by kernel_rfl) ?_
          have hX := of_do hF
          clear hF
          obtain ⟨r18, h19, hF⟩ := hX
          refine TS.regionP (by kernel_rfl) ?_
          refine TI.runA 1 [4, 5, 10, 11, 60] (a2 := (st 134 [(4, pt 1 0), (5, pt 2 0), (10, pt 4 0), (11, iv r16), (60, .func (.func 71) ⟨[]⟩ ⟨[pt 3 0, pt 2 0, pt 4 0]⟩)])) (by kernel_rfl) ?_
          refine TI.callP (g := 70) (args := [.func (.func 71) ⟨[]⟩ ⟨[pt 3 0, pt 2 0, pt 4 0]⟩]) (v := iv r18) (new := []) (PureSim.ren (hc := [cl 3 [iv r12], cl 3 [iv p6], cl 108 [iv r10.1.1.1, iv r10.1.1.2, iv r10.1.2.1, iv r10.1.2.2, iv r10.2.1.1, iv r10.2.1.2, iv r10.2.2.1, iv r10.2.2.2]]) (fun i => List.getD [(3, 0), (2, 0), (4, 0)] i (0, 0)) (C70 _ _ _ _ _ _ _ _ _ _ _ h19) (.cons (At.blk (by kernel_rfl) (RnB.lit (.cons (.flat (by kernel_rfl)) .nil))) (.cons (At.blk (by kernel_rfl) (RnB.lit (.cons (.flat (by kernel_rfl)) .nil))) (.cons (At.blk (by kernel_rfl) (RnB.lit (.cons (.flat (by kernel_rfl)) (.cons (.flat (by kernel_rfl)) (.cons (.flat (by kernel_rfl)) (.cons (.flat (by kernel_rfl)) (.cons (.flat (by kernel_rfl)) (.cons (.flat (by kernel_rfl)) (.cons (.flat (by kernel_rfl)) (.cons (.flat (by kernel_rfl)) .nil)))))))))) (.nil _)))) (.cons (Rn.func' .nil (.cons (Rn.ptr _ _ _ (Nat.le_of_ble_eq_true rfl) rfl) (.cons (Rn.ptr _ _ _ (Nat.le_of_ble_eq_true rfl) rfl) (.cons (Rn.ptr _ _ _ (Nat.le_of_ble_eq_true rfl) rfl) .nil)))) .nil) (.flat (by kernel_rfl)) newflat_nil) (by kernel_rfl) ?_
          refine TI.run 1 [4, 5, 10, 11, 12] [1, 2, 4] (a2 := (st 134 [(4, pt 1 0), (5, pt 2 0), (10, pt 4 0), (11, iv r16), (12, iv r18)])) (h2 := [.dead, cl 23 [iv p4, iv p5], cl 3 [iv p6], .dead, cl 108 [iv r10.1.1.1, iv r10.1.1.2, iv r10.1.2.1, iv r10.1.2.2, iv r10.2.1.1, iv r10.2.1.2, iv r10.2.2.1, iv r10.2.2.2]]) (by kernel_rfl) ?_
          refine TI.done (by kernel_rfl) ?_
          refine NX.sq ?_
          refine TS.seqP (by kernel_rfl) ?_
          refine TS.regionP (by kernel_rfl) ?_
          refine TI.runA 1 [4, 5, 10, 11, 12, 13] (a2 := (st 134 [(4, pt 1 0), (5, pt 2 0), (10, pt 4 0), (11, iv r16), (12, iv r18), (13, iv 0)])) (by kernel_rfl) ?_
          refine TI.done (by kernel_rfl) ?_
          refine NX.sq ?_
          refine TS.seqP (by kernel_rfl) ?_
          refine TS.seqP (by kernel_rfl) ?_
          refine TS.regionP (by kernel_rfl) ?_
          refine TI.runA 4 [4, 5, 10, 11, 12, 13, 14] (a2 := (st 134 [(4, pt 1 0), (5, pt 2 0), (10, pt 4 0), (11, iv r16), (12, iv r18), (13, iv 0), (14, iv (w64 (r16 - r18)))])) (by kernel_rfl) ?_
          refine TI.done (by kernel_rfl) ?_
          refine NX.sq ?_
          refine TS.blockP (id := 1) (by kernel_rfl) ?_
          have hX := of_do hF
          clear hF
          obtain ⟨r194, h195, hF⟩ := hX
          refine TS.loopP (by kernel_rfl) (TL.weak (a2 := (st 134 [(4, pt 0 0), (5, pt 1 0), (10, pt 2 0), (11, iv r16), (12, iv r18), (13, iv 0), (14, iv (w64 (r16 - r18)))])) (h2 := (H34_4 p4 p5 p6 r10)) (Wk.anew (base := 0) (L := 0) (f := [1, 2, 4]) (by decide) (by decide) (Nat.le_of_ble_eq_true rfl) rfl (.cons (At.blk (by kernel_rfl) (RnB.lit (.cons (.flat (by kernel_rfl)) (.cons (.flat (by kernel_rfl)) .nil)))) (.cons (At.blk (by kernel_rfl) (RnB.lit (.cons (.flat (by kernel_rfl)) .nil))) (.cons (At.blk (by kernel_rfl) (RnB.lit (.cons (.flat (by kernel_rfl)) (.cons (.flat (by kernel_rfl)) (.cons (.flat (by kernel_rfl)) (.cons (.flat (by kernel_rfl)) (.cons (.flat (by kernel_rfl)) (.cons (.flat (by kernel_rfl)) (.cons (.flat (by kernel_rfl)) (.cons (.flat (by kernel_rfl)) .nil)))))))))) (.nil _)))) (LRn.stx [4, 5, 10, 11, 12, 13, 14] [pt 0 0, pt 1 0, pt 2 0, iv r16, iv r18, iv 0, iv (w64 (r16 - r18))] [pt 1 0, pt 2 0, pt 4 0, iv r16, iv r18, iv 0, iv (w64 (r16 - r18))] (.cons (Rn.ptr _ _ _ (Nat.le_of_ble_eq_true rfl) rfl) (.cons (Rn.ptr _ _ _ (Nat.le_of_ble_eq_true rfl) rfl) (.cons (Rn.ptr _ _ _ (Nat.le_of_ble_eq_true rfl) rfl) (.cons (.flat (by kernel_rfl)) (.cons (.flat (by kernel_rfl)) (.cons (.flat (by kernel_rfl)) (.cons (.flat (by kernel_rfl)) .nil))))))) (by kernel_rfl) (by kernel_rfl) rfl) rfl rfl) (TL.post (L34l0 p4 p5 p6 r10 r16 r18 0 (w64 (r16 - r18)) r194 h195) ?_))
          rintro e a1 h1 hp
          obtain ⟨rfl, hw⟩ := hp
          refine ⟨(st 134 [(13, iv r194)]), [], ?_, hw⟩
          refine NX.bkX ?_
          refine NX.sq ?_
          refine TS.seqP (by kernel_rfl) ?_
          refine TS.regionP (by kernel_rfl) ?_
          refine TI.runA 3 [6, 7] (a2 := (st 134 [(6, iv r194), (7, iv 0)])) (by kernel_rfl) ?_
          refine TI.done (by kernel_rfl) ?_
          refine NX.sq ?_
          refine TS.ret' (by kernel_rfl) ?_
          have hF := Option.some.inj hF
          subst hF
          exact ⟨.inr rfl, rfl, .tuple ⟨[iv r194, iv 0]⟩, by kernel_rfl, WkV.flat0 (by kernel_rfl) (Nat.le_of_ble_eq_true rfl)⟩
    cases r6 with
    | true =>
      replace hm196 := of_pos hm196 rfl
      have hm196 := Option.some.inj hm196
      subst hm196
      refine TS.regionP (by kernel_rfl) ?_
      refine TI.runA 1 [3, 4, 5, 9, 32] (a2 := (st 134 [(3, pt 0 0), (4, pt 1 0), (5, pt 2 0), (9, pt 3 0), (32, iv p6)])) (by kernel_rfl) ?_
      refine TI.callF (C68 _ _ _ _ h7) (by kernel_rfl) (by kernel_rfl) ?_
      refine TI.runA 2 [3, 4, 5, 9, 31] (a2 := (st 134 [(3, pt 0 0), (4, pt 1 0), (5, pt 2 0), (9, pt 3 0), (31, .bool false)])) (by kernel_rfl) ?_
      refine TI.done (by kernel_rfl) ?_
      exact hK
    | false =>
      replace hm196 := of_neg hm196 rfl
      have hm196 := Option.some.inj hm196
      subst hm196
      refine TS.regionP (by kernel_rfl) ?_
      refine TI.runA 1 [3, 4, 5, 9, 32] (a2 := (st 134 [(3, pt 0 0), (4, pt 1 0), (5, pt 2 0), (9, pt 3 0), (32, iv p6)])) (by kernel_rfl) ?_
      refine TI.callF (C68 _ _ _ _ h7) (by kernel_rfl) (by kernel_rfl) ?_
      refine TI.runA 2 [3, 4, 5, 9, 31] (a2 := (st 134 [(3, pt 0 0), (4, pt 1 0), (5, pt 2 0), (9, pt 3 0), (31, .bool true)])) (by kernel_rfl) ?_
      refine TI.done (by kernel_rfl) ?_
      exact hK
theorem C34 (p0 : Int) (p1 : Int) (p2 : Int) (p3 : Int) (p4 : Int) (p5 : Int) (p6 : Int) (r : (Int × Int)) (hF : F34 p0 p1 p2 p3 p4 p5 p6 = some r) : PureSim Try.prog 34 [ag [iv p0, iv p1, iv p2, iv p3], ag [iv p4, iv p5], iv p6] [] (V34 0 r) (N34 0 r) :=
  PureSim.of_Fin Try.func34 (c := c34) (by kernel_rfl) (by kernel_rfl) 0 rfl [0, 1, 2] [] (by kernel_rfl) (B34 p0 p1 p2 p3 p4 p5 p6 r hF)

-- agonic/agoniclaw06.tame
noncomputable def c38 : Code := Try.f38.code
def F38 (p0 : Int) (p1 : Int) : Option Bool :=
  (
    if decide (p0 ≥ (-1000000)) then
      if decide (p0 ≤ 1000000) then
        if decide (p1 ≥ (-1000000)) then
          some (decide (p1 ≤ 1000000))
        else
          some (false)
      else
        some (false)
    else
      some (false)
  : Option Bool) >>= fun m4 =>
  some m4
def V38 (b : Nat) (r : Bool) : Value := .bool r
def N38 (b : Nat) (r : Bool) : List Blk := []
theorem B38 (p0 : Int) (p1 : Int) (r : Bool) (hF : F38 p0 p1 = some r) : TS Try.prog 0 0 c38 (st 21 [(0, ag [iv p0, iv p1])]) [] (NX Try.prog 0 0 [] (FinP Try.prog Try.f38 0 (V38 0 r) (N38 0 r))) := by
  unfold F38 at hF
  refine TS.seqP (by kernel_rfl) ?_
  refine TS.regionP (by kernel_rfl) ?_
  refine TI.run 2 [1] [0] (a2 := (st 21 [(1, pt 0 0)])) (h2 := [cl 27 [iv p0, iv p1]]) (by kernel_rfl) ?_
  refine TI.done (by kernel_rfl) ?_
  refine NX.sq ?_
  refine TS.seqP (by kernel_rfl) ?_
  have hX := of_do hF
  clear hF
  obtain ⟨m4, hm5, hF⟩ := hX
  have hK : NX Try.prog 0 0 [.sq c38.s2.s2] (FinP Try.prog Try.f38 0 (V38 0 r) (N38 0 r)) .normal (st 21 [(2, .bool m4)]) [.dead] := by
    refine NX.sq ?_
    refine TS.ret' (by kernel_rfl) ?_
    have hF := Option.some.inj hF
    subst hF
    exact ⟨.inr rfl, rfl, .bool m4, by kernel_rfl, WkV.flat0 (by kernel_rfl) (Nat.le_of_ble_eq_true rfl)⟩
  rcases Bool.eq_false_or_eq_true (decide (p0 ≥ (-1000000))) with hc1 | hc1
  · replace hm5 := of_pos hm5 hc1
    rcases Bool.eq_false_or_eq_true (decide (p0 ≤ 1000000)) with hc2 | hc2
    · replace hm5 := of_pos hm5 hc2
      rcases Bool.eq_false_or_eq_true (decide (p1 ≥ (-1000000))) with hc3 | hc3
      · replace hm5 := of_pos hm5 hc3
        have hm5 := Option.some.inj hm5
        subst hm5
        refine TS.regionP (by kernel_rfl) ?_
        refine TI.runA 2 [1, 4] (a2 := (st 21 [(1, pt 0 0), (4, iv p0)])) (by kernel_rfl) ?_
        refine TI.op (q := { val := .bool true }) (q_conv (e := decide (p0 ≥ (-1000000))) (b := true) (by kernel_rfl) hc1) [1, 5] [0] (a2 := (st 21 [(1, pt 0 0), (5, .bool true)])) (h2 := [cl 27 [iv p0, iv p1]]) (by kernel_rfl) ?_
        refine TI.runA 3 [1, 6, 8] (a2 := (st 21 [(1, pt 0 0), (6, .bool true), (8, iv p0)])) (by kernel_rfl) ?_
        refine TI.op (q := { val := .bool true }) (q_conv (e := decide (p0 ≤ 1000000)) (b := true) (by kernel_rfl) hc2) [1, 6, 9] [0] (a2 := (st 21 [(1, pt 0 0), (6, .bool true), (9, .bool true)])) (h2 := [cl 27 [iv p0, iv p1]]) (by kernel_rfl) ?_
        refine TI.runA 4 [1, 11, 13] (a2 := (st 21 [(1, pt 0 0), (11, .bool true), (13, iv p1)])) (by kernel_rfl) ?_
        refine TI.op (q := { val := .bool true }) (q_conv (e := decide (p1 ≥ (-1000000))) (b := true) (by kernel_rfl) hc3) [1, 11, 14] [0] (a2 := (st 21 [(1, pt 0 0), (11, .bool true), (14, .bool true)])) (h2 := [cl 27 [iv p0, iv p1]]) (by kernel_rfl) ?_
        refine TI.run 7 [2] [] (a2 := (st 21 [(2, .bool (decide (p1 ≤ 1000000)))])) (h2 := [.dead]) (by kernel_rfl) ?_
        refine TI.done (by kernel_rfl) ?_
        exact hK
      · replace hm5 := of_neg hm5 hc3
        have hm5 := Option.some.inj hm5
        subst hm5
        refine TS.regionP (by kernel_rfl) ?_
        refine TI.runA 2 [1, 4] (a2 := (st 21 [(1, pt 0 0), (4, iv p0)])) (by kernel_rfl) ?_
        refine TI.op (q := { val := .bool true }) (q_conv (e := decide (p0 ≥ (-1000000))) (b := true) (by kernel_rfl) hc1) [1, 5] [0] (a2 := (st 21 [(1, pt 0 0), (5, .bool true)])) (h2 := [cl 27 [iv p0, iv p1]]) (by kernel_rfl) ?_
        refine TI.runA 3 [1, 6, 8] (a2 := (st 21 [(1, pt 0 0), (6, .bool true), (8, iv p0)])) (by kernel_rfl) ?_
        refine TI.op (q := { val := .bool true }) (q_conv (e := decide (p0 ≤ 1000000)) (b := true) (by kernel_rfl) hc2) [1, 6, 9] [0] (a2 := (st 21 [(1, pt 0 0), (6, .bool true), (9, .bool true)])) (h2 := [cl 27 [iv p0, iv p1]]) (by kernel_rfl) ?_
        refine TI.runA 4 [1, 11, 13] (a2 := (st 21 [(1, pt 0 0), (11, .bool true), (13, iv p1)])) (by kernel_rfl) ?_
        refine TI.op (q := { val := .bool false }) (q_conv (e := decide (p1 ≥ (-1000000))) (b := false) (by kernel_rfl) hc3) [1, 11, 14] [0] (a2 := (st 21 [(1, pt 0 0), (11, .bool true), (14, .bool false)])) (h2 := [cl 27 [iv p0, iv p1]]) (by kernel_rfl) ?_
        refine TI.run 7 [2] [] (a2 := (st 21 [(2, .bool false)])) (h2 := [.dead]) (by kernel_rfl) ?_
        refine TI.done (by kernel_rfl) ?_
        exact hK
    · replace hm5 := of_neg hm5 hc2
      have hm5 := Option.some.inj hm5
      subst hm5
      refine TS.regionP (by kernel_rfl) ?_
      refine TI.runA 2 [1, 4] (a2 := (st 21 [(1, pt 0 0), (4, iv p0)])) (by kernel_rfl) ?_
      refine TI.op (q := { val := .bool true }) (q_conv (e := decide (p0 ≥ (-1000000))) (b := true) (by kernel_rfl) hc1) [1, 5] [0] (a2 := (st 21 [(1, pt 0 0), (5, .bool true)])) (h2 := [cl 27 [iv p0, iv p1]]) (by kernel_rfl) ?_
      refine TI.runA 3 [1, 6, 8] (a2 := (st 21 [(1, pt 0 0), (6, .bool true), (8, iv p0)])) (by kernel_rfl) ?_
      refine TI.op (q := { val := .bool false }) (q_conv (e := decide (p0 ≤ 1000000)) (b := false) (by kernel_rfl) hc2) [1, 6, 9] [0] (a2 := (st 21 [(1, pt 0 0), (6, .bool true), (9, .bool false)])) (h2 := [cl 27 [iv p0, iv p1]]) (by kernel_rfl) ?_
      refine TI.run 12 [2] [] (a2 := (st 21 [(2, .bool false)])) (h2 := [.dead]) (by kernel_rfl) ?_
      refine TI.done (by kernel_rfl) ?_
      exact hK
  · replace hm5 := of_neg hm5 hc1
    have hm5 := Option.some.inj hm5
    subst hm5
    refine TS.regionP (by kernel_rfl) ?_
    refine TI.runA 2 [1, 4] (a2 := (st 21 [(1, pt 0 0), (4, iv p0)])) (by kernel_rfl) ?_
    refine TI.op (q := { val := .bool false }) (q_conv (e := decide (p0 ≥ (-1000000))) (b := false) (by kernel_rfl) hc1) [1, 5] [0] (a2 := (st 21 [(1, pt 0 0), (5, .bool false)])) (h2 := [cl 27 [iv p0, iv p1]]) (by kernel_rfl) ?_
    refine TI.run 16 [2] [] (a2 := (st 21 [(2, .bool false)])) (h2 := [.dead]) (by kernel_rfl) ?_
    refine TI.done (by kernel_rfl) ?_
    exact hK
theorem C38 (p0 : Int) (p1 : Int) (r : Bool) (hF : F38 p0 p1 = some r) : PureSim Try.prog 38 [ag [iv p0, iv p1]] [] (V38 0 r) (N38 0 r) :=
  PureSim.of_Fin Try.func38 (c := c38) (by kernel_rfl) (by kernel_rfl) 0 rfl [0] [] (by kernel_rfl) (B38 p0 p1 r hF)

-- agonic/agoniclaw06.pull
noncomputable def c40 : Code := Try.f40.code
def F40 (p0 : Int) (p1 : Int) (p2 : Int) (p3 : Int) (p4 : Int) (p5 : Int) : Option (Int × Int) :=
  F43 (w64 ((w64 (p4 * p0)) + (w64 (p5 * p2)))) (w64 ((w64 (p4 * p1)) + (w64 (p5 * p3)))) >>= fun r1 =>
  some (r1.1, r1.2)
def V40 (b : Nat) (r : (Int × Int)) : Value := ag [iv r.1, iv r.2]
def N40 (b : Nat) (r : (Int × Int)) : List Blk := []
theorem B40 (p0 : Int) (p1 : Int) (p2 : Int) (p3 : Int) (p4 : Int) (p5 : Int) (r : (Int × Int)) (hF : F40 p0 p1 p2 p3 p4 p5 = some r) : TS Try.prog 0 0 c40 (st 32 [(0, ag [iv p0, iv p1, iv p2, iv p3]), (1, ag [iv p4, iv p5])]) [] (NX Try.prog 0 0 [] (FinP Try.prog Try.f40 0 (V40 0 r) (N40 0 r))) := by
  unfold F40 at hF
  refine TS.seqP (by kernel_rfl) ?_
  refine TS.regionP (by kernel_rfl) ?_
  refine TI.run 3 [2, 3, 4] [0, 1, 2] (a2 := (st 32 [(2, pt 0 0), (3, pt 1 0), (4, pt 2 0)])) (h2 := [cl 25 [iv p0, iv p1, iv p2, iv p3], cl 27 [iv p4, iv p5], cl 23 [iv 0, iv 0]]) (by kernel_rfl) ?_
  refine TI.done (by kernel_rfl) ?_
  refine NX.sq ?_
  refine TS.seqP (by kernel_rfl) ?_
  have hX := of_do hF
  clear hF
  obtain ⟨r1, h2, hF⟩ := hX
  refine TS.regionP (by kernel_rfl) ?_
  refine TI.run 26 [4, 17, 30] [2] (a2 := (st 32 [(4, pt 2 0), (17, iv (w64 ((w64 (p4 * p0)) + (w64 (p5 * p2))))), (30, iv (w64 ((w64 (p4 * p1)) + (w64 (p5 * p3)))))])) (h2 := [.dead, .dead, cl 23 [iv 0, iv 0]]) (by kernel_rfl) ?_
  refine TI.callF (C43 _ _ _ h2) (by kernel_rfl) (by kernel_rfl) ?_
  refine TI.run 1 [4] [2] (a2 := (st 32 [(4, pt 2 0)])) (h2 := [.dead, .dead, cl 23 [iv r1.1, iv r1.2]]) (by kernel_rfl) ?_
  refine TI.done (by kernel_rfl) ?_
  refine NX.sq ?_
  refine TS.ret' (by kernel_rfl) ?_
  have hF := Option.some.inj hF
  subst hF
  exact ⟨.inr rfl, rfl, ag [iv r1.1, iv r1.2], by kernel_rfl, WkV.flat0 (by kernel_rfl) (Nat.le_of_ble_eq_true rfl)⟩
theorem C40 (p0 : Int) (p1 : Int) (p2 : Int) (p3 : Int) (p4 : Int) (p5 : Int) (r : (Int × Int)) (hF : F40 p0 p1 p2 p3 p4 p5 = some r) : PureSim Try.prog 40 [ag [iv p0, iv p1, iv p2, iv p3], ag [iv p4, iv p5]] [] (V40 0 r) (N40 0 r) :=
  PureSim.of_Fin Try.func40 (c := c40) (by kernel_rfl) (by kernel_rfl) 0 rfl [0, 1] [] (by kernel_rfl) (B40 p0 p1 p2 p3 p4 p5 r hF)

-- agonic/agoniclaw06.dot
noncomputable def c41 : Code := Try.f41.code
def F41 (p0 : Int) (p1 : Int) (p2 : Int) (p3 : Int) : Option Int :=
  some (w64 ((w64 (p0 * p2)) + (w64 (p1 * p3))))
def V41 (b : Nat) (r : Int) : Value := iv r
def N41 (b : Nat) (r : Int) : List Blk := []
theorem B41 (p0 : Int) (p1 : Int) (p2 : Int) (p3 : Int) (r : Int) (hF : F41 p0 p1 p2 p3 = some r) : TS Try.prog 0 0 c41 (st 16 [(0, ag [iv p0, iv p1]), (1, ag [iv p2, iv p3])]) [] (NX Try.prog 0 0 [] (FinP Try.prog Try.f41 0 (V41 0 r) (N41 0 r))) := by
  unfold F41 at hF
  refine TS.seqP (by kernel_rfl) ?_
  refine TS.regionP (by kernel_rfl) ?_
  refine TI.run 3 [2, 3] [0, 1] (a2 := (st 16 [(2, pt 0 0), (3, pt 1 0)])) (h2 := [cl 23 [iv p0, iv p1], cl 23 [iv p2, iv p3]]) (by kernel_rfl) ?_
  refine TI.done (by kernel_rfl) ?_
  refine NX.sq ?_
  refine TS.seqP (by kernel_rfl) ?_
  refine TS.regionP (by kernel_rfl) ?_
  refine TI.run 12 [4] [] (a2 := (st 16 [(4, iv (w64 ((w64 (p0 * p2)) + (w64 (p1 * p3)))))])) (h2 := [.dead, .dead]) (by kernel_rfl) ?_
  refine TI.done (by kernel_rfl) ?_
  refine NX.sq ?_
  refine TS.ret' (by kernel_rfl) ?_
  have hF := Option.some.inj hF
  subst hF
  exact ⟨.inr rfl, rfl, iv (w64 ((w64 (p0 * p2)) + (w64 (p1 * p3)))), by kernel_rfl, WkV.flat0 (by kernel_rfl) (Nat.le_of_ble_eq_true rfl)⟩
theorem C41 (p0 : Int) (p1 : Int) (p2 : Int) (p3 : Int) (r : Int) (hF : F41 p0 p1 p2 p3 = some r) : PureSim Try.prog 41 [ag [iv p0, iv p1], ag [iv p2, iv p3]] [] (V41 0 r) (N41 0 r) :=
  PureSim.of_Fin Try.func41 (c := c41) (by kernel_rfl) (by kernel_rfl) 0 rfl [0, 1] [] (by kernel_rfl) (B41 p0 p1 p2 p3 r hF)

-- agonic/agoniclaw06.bundled
noncomputable def c37 : Code := Try.f37.code
def S37_0 (r13 : Int) (r29 : Int) (r1 : ((Int × Int) × (Int × Int) × Int)) (r9 : (Int × Int)) (r11 : (Int × Int)) (r24 : Int) (r26 : Int) : CAct := (st 85 [(2, pt 1 0), (3, .bool (decide ((w64 (2 * (mx r13 (w64 (0 - r13))))) ≤ r29))), (7, pt 4 0), (8, iv (w64 ((w64 (r1.1.1 * r1.2.1.2)) - (w64 (r1.1.2 * r1.2.1.1))))), (9, iv r13), (52, ag [iv r9.1, iv r9.2, iv r11.1, iv r11.2]), (53, iv (w64 ((w64 (r1.1.1 * r1.2.1.2)) - (w64 (r1.1.2 * r1.2.1.1))))), (54, .bool false), (55, .bool false), (56, iv (w64 ((w64 (r1.1.1 * r1.2.1.2)) - (w64 (r1.1.2 * r1.2.1.1))))), (57, .bool true), (58, .bool true), (59, .bool true), (60, pt 4 0), (61, ag [iv r9.1, iv r9.2]), (62, pt 4 0), (63, ag [iv r9.1, iv r9.2]), (64, iv r24), (65, pt 4 2), (66, ag [iv r11.1, iv r11.2]), (67, pt 4 2), (68, ag [iv r11.1, iv r11.2]), (69, iv r26), (70, .bool true), (71, .bool true), (72, .bool true), (73, iv r13), (74, iv r13), (75, iv (w64 (0 - r13))), (76, iv (mx r13 (w64 (0 - r13)))), (77, iv (w64 (2 * (mx r13 (w64 (0 - r13)))))), (78, pt 4 0), (79, ag [iv r9.1, iv r9.2]), (80, pt 4 0), (81, ag [iv r9.1, iv r9.2]), (82, iv r29), (83, .bool (decide ((w64 (2 * (mx r13 (w64 (0 - r13))))) ≤ r29))), (84, .bool (decide ((w64 (2 * (mx r13 (w64 (0 - r13))))) ≤ r29)))])
def S37_1 (r13 : Int) (r21 : Int) (r1 : ((Int × Int) × (Int × Int) × Int)) (r9 : (Int × Int)) (r11 : (Int × Int)) (r16 : Int) (r18 : Int) : CAct := (st 85 [(2, pt 1 0), (3, .bool (decide ((w64 (2 * (mx r13 (w64 (0 - r13))))) ≤ r21))), (7, pt 4 0), (8, iv (w64 ((w64 (r1.1.1 * r1.2.1.2)) - (w64 (r1.1.2 * r1.2.1.1))))), (9, iv r13), (52, ag [iv r9.1, iv r9.2, iv r11.1, iv r11.2]), (53, iv (w64 ((w64 (r1.1.1 * r1.2.1.2)) - (w64 (r1.1.2 * r1.2.1.1))))), (54, .bool true), (55, .bool true), (56, undef), (57, undef), (58, .bool true), (59, .bool true), (60, pt 4 0), (61, ag [iv r9.1, iv r9.2]), (62, pt 4 0), (63, ag [iv r9.1, iv r9.2]), (64, iv r16), (65, pt 4 2), (66, ag [iv r11.1, iv r11.2]), (67, pt 4 2), (68, ag [iv r11.1, iv r11.2]), (69, iv r18), (70, .bool true), (71, .bool true), (72, .bool true), (73, iv r13), (74, iv r13), (75, iv (w64 (0 - r13))), (76, iv (mx r13 (w64 (0 - r13)))), (77, iv (w64 (2 * (mx r13 (w64 (0 - r13)))))), (78, pt 4 0), (79, ag [iv r9.1, iv r9.2]), (80, pt 4 0), (81, ag [iv r9.1, iv r9.2]), (82, iv r21), (83, .bool (decide ((w64 (2 * (mx r13 (w64 (0 - r13))))) ≤ r21))), (84, .bool (decide ((w64 (2 * (mx r13 (w64 (0 - r13))))) ≤ r21)))])
def S37_2 (r1 : ((Int × Int) × (Int × Int) × Int)) (r13 : Int) (r9 : (Int × Int)) (r11 : (Int × Int)) (r24 : Int) (r26 : Int) (r29 : Int) : CAct := (st 85 [(2, pt 1 0), (7, pt 4 0), (8, iv (w64 ((w64 (r1.1.1 * r1.2.1.2)) - (w64 (r1.1.2 * r1.2.1.1))))), (9, iv r13), (52, ag [iv r9.1, iv r9.2, iv r11.1, iv r11.2]), (53, iv (w64 ((w64 (r1.1.1 * r1.2.1.2)) - (w64 (r1.1.2 * r1.2.1.1))))), (54, .bool false), (55, .bool false), (56, iv (w64 ((w64 (r1.1.1 * r1.2.1.2)) - (w64 (r1.1.2 * r1.2.1.1))))), (57, .bool true), (58, .bool true), (59, .bool true), (60, pt 4 0), (61, ag [iv r9.1, iv r9.2]), (62, pt 4 0), (63, ag [iv r9.1, iv r9.2]), (64, iv r24), (65, pt 4 2), (66, ag [iv r11.1, iv r11.2]), (67, pt 4 2), (68, ag [iv r11.1, iv r11.2]), (69, iv r26), (70, .bool true), (71, .bool true), (72, .bool true), (73, iv r13), (74, iv r13), (75, iv (w64 (0 - r13))), (76, iv (mx r13 (w64 (0 - r13)))), (77, iv (w64 (2 * (mx r13 (w64 (0 - r13)))))), (78, pt 4 0), (79, ag [iv r9.1, iv r9.2]), (80, pt 4 0), (81, ag [iv r9.1, iv r9.2]), (82, iv r29), (83, .bool (decide ((w64 (2 * (mx r13 (w64 (0 - r13))))) ≤ r29))), (84, .bool (decide ((w64 (2 * (mx r13 (w64 (0 - r13))))) ≤ r29)))])
def S37_3 (r1 : ((Int × Int) × (Int × Int) × Int)) (r13 : Int) (r9 : (Int × Int)) (r11 : (Int × Int)) (r16 : Int) (r18 : Int) (r21 : Int) : CAct := (st 85 [(2, pt 1 0), (7, pt 4 0), (8, iv (w64 ((w64 (r1.1.1 * r1.2.1.2)) - (w64 (r1.1.2 * r1.2.1.1))))), (9, iv r13), (52, ag [iv r9.1, iv r9.2, iv r11.1, iv r11.2]), (53, iv (w64 ((w64 (r1.1.1 * r1.2.1.2)) - (w64 (r1.1.2 * r1.2.1.1))))), (54, .bool true), (55, .bool true), (56, undef), (57, undef), (58, .bool true), (59, .bool true), (60, pt 4 0), (61, ag [iv r9.1, iv r9.2]), (62, pt 4 0), (63, ag [iv r9.1, iv r9.2]), (64, iv r16), (65, pt 4 2), (66, ag [iv r11.1, iv r11.2]), (67, pt 4 2), (68, ag [iv r11.1, iv r11.2]), (69, iv r18), (70, .bool true), (71, .bool true), (72, .bool true), (73, iv r13), (74, iv r13), (75, iv (w64 (0 - r13))), (76, iv (mx r13 (w64 (0 - r13)))), (77, iv (w64 (2 * (mx r13 (w64 (0 - r13)))))), (78, pt 4 0), (79, ag [iv r9.1, iv r9.2]), (80, pt 4 0), (81, ag [iv r9.1, iv r9.2]), (82, iv r21), (83, .bool (decide ((w64 (2 * (mx r13 (w64 (0 - r13))))) ≤ r21))), (84, .bool (decide ((w64 (2 * (mx r13 (w64 (0 - r13))))) ≤ r21)))])
def S37_4 (r1 : ((Int × Int) × (Int × Int) × Int)) (r13 : Int) (r9 : (Int × Int)) (r11 : (Int × Int)) (r24 : Int) (r26 : Int) (r29 : Int) : CAct := (st 85 [(2, pt 1 0), (7, pt 4 0), (8, iv (w64 ((w64 (r1.1.1 * r1.2.1.2)) - (w64 (r1.1.2 * r1.2.1.1))))), (9, iv r13), (52, ag [iv r9.1, iv r9.2, iv r11.1, iv r11.2]), (53, iv (w64 ((w64 (r1.1.1 * r1.2.1.2)) - (w64 (r1.1.2 * r1.2.1.1))))), (54, .bool false), (55, .bool false), (56, iv (w64 ((w64 (r1.1.1 * r1.2.1.2)) - (w64 (r1.1.2 * r1.2.1.1))))), (57, .bool true), (58, .bool true), (59, .bool true), (60, pt 4 0), (61, ag [iv r9.1, iv r9.2]), (62, pt 4 0), (63, ag [iv r9.1, iv r9.2]), (64, iv r24), (65, pt 4 2), (66, ag [iv r11.1, iv r11.2]), (67, pt 4 2), (68, ag [iv r11.1, iv r11.2]), (69, iv r26), (70, .bool true), (71, .bool true), (72, .bool true), (73, iv r13), (74, iv r13), (75, iv (w64 (0 - r13))), (76, iv (mx r13 (w64 (0 - r13)))), (77, iv (w64 (2 * (mx r13 (w64 (0 - r13)))))), (78, pt 4 0), (79, ag [iv r9.1, iv r9.2]), (80, pt 4 0), (81, ag [iv r9.1, iv r9.2]), (82, iv r29)])
def S37_5 (r1 : ((Int × Int) × (Int × Int) × Int)) (r13 : Int) (r9 : (Int × Int)) (r11 : (Int × Int)) (r24 : Int) (r26 : Int) : CAct := (st 85 [(2, pt 1 0), (7, pt 4 0), (8, iv (w64 ((w64 (r1.1.1 * r1.2.1.2)) - (w64 (r1.1.2 * r1.2.1.1))))), (9, iv r13), (52, ag [iv r9.1, iv r9.2, iv r11.1, iv r11.2]), (53, iv (w64 ((w64 (r1.1.1 * r1.2.1.2)) - (w64 (r1.1.2 * r1.2.1.1))))), (54, .bool false), (55, .bool false), (56, iv (w64 ((w64 (r1.1.1 * r1.2.1.2)) - (w64 (r1.1.2 * r1.2.1.1))))), (57, .bool true), (58, .bool true), (59, .bool true), (60, pt 4 0), (61, ag [iv r9.1, iv r9.2]), (62, pt 4 0), (63, ag [iv r9.1, iv r9.2]), (64, iv r24), (65, pt 4 2), (66, ag [iv r11.1, iv r11.2]), (67, pt 4 2), (68, ag [iv r11.1, iv r11.2]), (69, iv r26), (70, .bool true), (71, .bool true), (72, .bool true), (73, iv r13), (74, iv r13), (75, iv (w64 (0 - r13))), (76, iv (mx r13 (w64 (0 - r13)))), (77, iv (w64 (2 * (mx r13 (w64 (0 - r13)))))), (78, pt 4 0), (79, ag [iv r9.1, iv r9.2]), (80, pt 4 0), (81, ag [iv r9.1, iv r9.2])])
def S37_6 (r1 : ((Int × Int) × (Int × Int) × Int)) (r13 : Int) (r9 : (Int × Int)) (r11 : (Int × Int)) (r24 : Int) (r26 : Int) : CAct := (st 85 [(2, pt 1 0), (3, .bool false), (7, pt 4 0), (8, iv (w64 ((w64 (r1.1.1 * r1.2.1.2)) - (w64 (r1.1.2 * r1.2.1.1))))), (9, iv r13), (52, ag [iv r9.1, iv r9.2, iv r11.1, iv r11.2]), (53, iv (w64 ((w64 (r1.1.1 * r1.2.1.2)) - (w64 (r1.1.2 * r1.2.1.1))))), (54, .bool false), (55, .bool false), (56, iv (w64 ((w64 (r1.1.1 * r1.2.1.2)) - (w64 (r1.1.2 * r1.2.1.1))))), (57, .bool true), (58, .bool true), (59, .bool true), (60, pt 4 0), (61, ag [iv r9.1, iv r9.2]), (62, pt 4 0), (63, ag [iv r9.1, iv r9.2]), (64, iv r24), (65, pt 4 2), (66, ag [iv r11.1, iv r11.2]), (67, pt 4 2), (68, ag [iv r11.1, iv r11.2]), (69, iv r26), (70, .bool false), (71, .bool false), (72, .bool false), (73, undef), (74, undef), (75, undef), (76, undef), (77, undef), (78, undef), (79, undef), (80, undef), (81, undef), (82, undef), (83, undef), (84, .bool false)])
def S37_7 (r1 : ((Int × Int) × (Int × Int) × Int)) (r13 : Int) (r9 : (Int × Int)) (r11 : (Int × Int)) (r16 : Int) (r18 : Int) (r21 : Int) : CAct := (st 85 [(2, pt 1 0), (7, pt 4 0), (8, iv (w64 ((w64 (r1.1.1 * r1.2.1.2)) - (w64 (r1.1.2 * r1.2.1.1))))), (9, iv r13), (52, ag [iv r9.1, iv r9.2, iv r11.1, iv r11.2]), (53, iv (w64 ((w64 (r1.1.1 * r1.2.1.2)) - (w64 (r1.1.2 * r1.2.1.1))))), (54, .bool true), (55, .bool true), (56, undef), (57, undef), (58, .bool true), (59, .bool true), (60, pt 4 0), (61, ag [iv r9.1, iv r9.2]), (62, pt 4 0), (63, ag [iv r9.1, iv r9.2]), (64, iv r16), (65, pt 4 2), (66, ag [iv r11.1, iv r11.2]), (67, pt 4 2), (68, ag [iv r11.1, iv r11.2]), (69, iv r18), (70, .bool true), (71, .bool true), (72, .bool true), (73, iv r13), (74, iv r13), (75, iv (w64 (0 - r13))), (76, iv (mx r13 (w64 (0 - r13)))), (77, iv (w64 (2 * (mx r13 (w64 (0 - r13)))))), (78, pt 4 0), (79, ag [iv r9.1, iv r9.2]), (80, pt 4 0), (81, ag [iv r9.1, iv r9.2]), (82, iv r21)])
def S37_8 (r1 : ((Int × Int) × (Int × Int) × Int)) (r13 : Int) (r9 : (Int × Int)) (r11 : (Int × Int)) (r24 : Int) (r26 : Int) : CAct := (st 85 [(2, pt 1 0), (7, pt 4 0), (8, iv (w64 ((w64 (r1.1.1 * r1.2.1.2)) - (w64 (r1.1.2 * r1.2.1.1))))), (9, iv r13), (52, ag [iv r9.1, iv r9.2, iv r11.1, iv r11.2]), (53, iv (w64 ((w64 (r1.1.1 * r1.2.1.2)) - (w64 (r1.1.2 * r1.2.1.1))))), (54, .bool false), (55, .bool false), (56, iv (w64 ((w64 (r1.1.1 * r1.2.1.2)) - (w64 (r1.1.2 * r1.2.1.1))))), (57, .bool true), (58, .bool true), (59, .bool true), (60, pt 4 0), (61, ag [iv r9.1, iv r9.2]), (62, pt 4 0), (63, ag [iv r9.1, iv r9.2]), (64, iv r24), (65, pt 4 2), (66, ag [iv r11.1, iv r11.2]), (67, pt 4 2), (68, ag [iv r11.1, iv r11.2]), (69, iv r26), (70, .bool false), (71, .bool false), (72, .bool false), (73, undef), (74, undef), (75, undef), (76, undef), (77, undef), (78, undef), (79, undef), (80, undef), (81, undef), (82, undef), (83, undef), (84, .bool false)])
def S37_9 (r1 : ((Int × Int) × (Int × Int) × Int)) (r13 : Int) (r9 : (Int × Int)) (r11 : (Int × Int)) (r16 : Int) (r18 : Int) : CAct := (st 85 [(2, pt 1 0), (7, pt 4 0), (8, iv (w64 ((w64 (r1.1.1 * r1.2.1.2)) - (w64 (r1.1.2 * r1.2.1.1))))), (9, iv r13), (52, ag [iv r9.1, iv r9.2, iv r11.1, iv r11.2]), (53, iv (w64 ((w64 (r1.1.1 * r1.2.1.2)) - (w64 (r1.1.2 * r1.2.1.1))))), (54, .bool true), (55, .bool true), (56, undef), (57, undef), (58, .bool true), (59, .bool true), (60, pt 4 0), (61, ag [iv r9.1, iv r9.2]), (62, pt 4 0), (63, ag [iv r9.1, iv r9.2]), (64, iv r16), (65, pt 4 2), (66, ag [iv r11.1, iv r11.2]), (67, pt 4 2), (68, ag [iv r11.1, iv r11.2]), (69, iv r18), (70, .bool true), (71, .bool true), (72, .bool true), (73, iv r13), (74, iv r13), (75, iv (w64 (0 - r13))), (76, iv (mx r13 (w64 (0 - r13)))), (77, iv (w64 (2 * (mx r13 (w64 (0 - r13)))))), (78, pt 4 0), (79, ag [iv r9.1, iv r9.2]), (80, pt 4 0), (81, ag [iv r9.1, iv r9.2])])
def S37_10 (r1 : ((Int × Int) × (Int × Int) × Int)) (r13 : Int) (r9 : (Int × Int)) (r11 : (Int × Int)) (r16 : Int) (r18 : Int) : CAct := (st 85 [(2, pt 1 0), (3, .bool false), (7, pt 4 0), (8, iv (w64 ((w64 (r1.1.1 * r1.2.1.2)) - (w64 (r1.1.2 * r1.2.1.1))))), (9, iv r13), (52, ag [iv r9.1, iv r9.2, iv r11.1, iv r11.2]), (53, iv (w64 ((w64 (r1.1.1 * r1.2.1.2)) - (w64 (r1.1.2 * r1.2.1.1))))), (54, .bool true), (55, .bool true), (56, undef), (57, undef), (58, .bool true), (59, .bool true), (60, pt 4 0), (61, ag [iv r9.1, iv r9.2]), (62, pt 4 0), (63, ag [iv r9.1, iv r9.2]), (64, iv r16), (65, pt 4 2), (66, ag [iv r11.1, iv r11.2]), (67, pt 4 2), (68, ag [iv r11.1, iv r11.2]), (69, iv r18), (70, .bool false), (71, .bool false), (72, .bool false), (73, undef), (74, undef), (75, undef), (76, undef), (77, undef), (78, undef), (79, undef), (80, undef), (81, undef), (82, undef), (83, undef), (84, .bool false)])
def S37_11 (r1 : ((Int × Int) × (Int × Int) × Int)) (r13 : Int) (r9 : (Int × Int)) (r11 : (Int × Int)) : CAct := (st 85 [(2, pt 1 0), (3, .bool false), (7, pt 4 0), (8, iv (w64 ((w64 (r1.1.1 * r1.2.1.2)) - (w64 (r1.1.2 * r1.2.1.1))))), (9, iv r13), (52, ag [iv r9.1, iv r9.2, iv r11.1, iv r11.2]), (53, iv (w64 ((w64 (r1.1.1 * r1.2.1.2)) - (w64 (r1.1.2 * r1.2.1.1))))), (54, .bool false), (55, .bool false), (56, iv (w64 ((w64 (r1.1.1 * r1.2.1.2)) - (w64 (r1.1.2 * r1.2.1.1))))), (57, .bool false), (58, .bool false), (59, .bool false), (60, undef), (61, undef), (62, undef), (63, undef), (64, undef), (65, undef), (66, undef), (67, undef), (68, undef), (69, undef), (70, undef), (71, .bool false), (72, .bool false), (73, undef), (74, undef), (75, undef), (76, undef), (77, undef), (78, undef), (79, undef), (80, undef), (81, undef), (82, undef), (83, undef), (84, .bool false)])
def S37_12 (r1 : ((Int × Int) × (Int × Int) × Int)) (r13 : Int) (r9 : (Int × Int)) (r11 : (Int × Int)) (r16 : Int) (r18 : Int) : CAct := (st 85 [(2, pt 1 0), (7, pt 4 0), (8, iv (w64 ((w64 (r1.1.1 * r1.2.1.2)) - (w64 (r1.1.2 * r1.2.1.1))))), (9, iv r13), (52, ag [iv r9.1, iv r9.2, iv r11.1, iv r11.2]), (53, iv (w64 ((w64 (r1.1.1 * r1.2.1.2)) - (w64 (r1.1.2 * r1.2.1.1))))), (54, .bool true), (55, .bool true), (56, undef), (57, undef), (58, .bool true), (59, .bool true), (60, pt 4 0), (61, ag [iv r9.1, iv r9.2]), (62, pt 4 0), (63, ag [iv r9.1, iv r9.2]), (64, iv r16), (65, pt 4 2), (66, ag [iv r11.1, iv r11.2]), (67, pt 4 2), (68, ag [iv r11.1, iv r11.2]), (69, iv r18), (70, .bool false), (71, .bool false), (72, .bool false), (73, undef), (74, undef), (75, undef), (76, undef), (77, undef), (78, undef), (79, undef), (80, undef), (81, undef), (82, undef), (83, undef), (84, .bool false)])
def S37_13 (r1 : ((Int × Int) × (Int × Int) × Int)) (r13 : Int) (r9 : (Int × Int)) (r11 : (Int × Int)) : CAct := (st 85 [(2, pt 1 0), (7, pt 4 0), (8, iv (w64 ((w64 (r1.1.1 * r1.2.1.2)) - (w64 (r1.1.2 * r1.2.1.1))))), (9, iv r13), (52, ag [iv r9.1, iv r9.2, iv r11.1, iv r11.2]), (53, iv (w64 ((w64 (r1.1.1 * r1.2.1.2)) - (w64 (r1.1.2 * r1.2.1.1))))), (54, .bool false), (55, .bool false), (56, iv (w64 ((w64 (r1.1.1 * r1.2.1.2)) - (w64 (r1.1.2 * r1.2.1.1))))), (57, .bool false), (58, .bool false), (59, .bool false), (60, undef), (61, undef), (62, undef), (63, undef), (64, undef), (65, undef), (66, undef), (67, undef), (68, undef), (69, undef), (70, undef), (71, .bool false), (72, .bool false), (73, undef), (74, undef), (75, undef), (76, undef), (77, undef), (78, undef), (79, undef), (80, undef), (81, undef), (82, undef), (83, undef), (84, .bool false)])
def S37_14 (r1 : ((Int × Int) × (Int × Int) × Int)) (r13 : Int) (r9 : (Int × Int)) (r11 : (Int × Int)) (r24 : Int) (r26 : Int) : CAct := (st 85 [(2, pt 1 0), (7, pt 4 0), (8, iv (w64 ((w64 (r1.1.1 * r1.2.1.2)) - (w64 (r1.1.2 * r1.2.1.1))))), (9, iv r13), (52, ag [iv r9.1, iv r9.2, iv r11.1, iv r11.2]), (53, iv (w64 ((w64 (r1.1.1 * r1.2.1.2)) - (w64 (r1.1.2 * r1.2.1.1))))), (54, .bool false), (55, .bool false), (56, iv (w64 ((w64 (r1.1.1 * r1.2.1.2)) - (w64 (r1.1.2 * r1.2.1.1))))), (57, .bool true), (58, .bool true), (59, .bool true), (60, pt 4 0), (61, ag [iv r9.1, iv r9.2]), (62, pt 4 0), (63, ag [iv r9.1, iv r9.2]), (64, iv r24), (65, pt 4 2), (66, ag [iv r11.1, iv r11.2]), (67, pt 4 2), (68, ag [iv r11.1, iv r11.2]), (69, iv r26), (70, .bool false)])
def S37_15 (r1 : ((Int × Int) × (Int × Int) × Int)) (r13 : Int) (r9 : (Int × Int)) (r11 : (Int × Int)) (r24 : Int) (r26 : Int) : CAct := (st 85 [(2, pt 1 0), (7, pt 4 0), (8, iv (w64 ((w64 (r1.1.1 * r1.2.1.2)) - (w64 (r1.1.2 * r1.2.1.1))))), (9, iv r13), (52, ag [iv r9.1, iv r9.2, iv r11.1, iv r11.2]), (53, iv (w64 ((w64 (r1.1.1 * r1.2.1.2)) - (w64 (r1.1.2 * r1.2.1.1))))), (54, .bool false), (55, .bool false), (56, iv (w64 ((w64 (r1.1.1 * r1.2.1.2)) - (w64 (r1.1.2 * r1.2.1.1))))), (57, .bool true), (58, .bool true), (59, .bool true), (60, pt 4 0), (61, ag [iv r9.1, iv r9.2]), (62, pt 4 0), (63, ag [iv r9.1, iv r9.2]), (64, iv r24), (65, pt 4 2), (66, ag [iv r11.1, iv r11.2]), (67, pt 4 2), (68, ag [iv r11.1, iv r11.2]), (69, iv r26), (70, .bool true)])
def S37_16 (r1 : ((Int × Int) × (Int × Int) × Int)) (r13 : Int) (r9 : (Int × Int)) (r11 : (Int × Int)) (r24 : Int) (r26 : Int) : CAct := (st 85 [(2, pt 1 0), (7, pt 4 0), (8, iv (w64 ((w64 (r1.1.1 * r1.2.1.2)) - (w64 (r1.1.2 * r1.2.1.1))))), (9, iv r13), (52, ag [iv r9.1, iv r9.2, iv r11.1, iv r11.2]), (53, iv (w64 ((w64 (r1.1.1 * r1.2.1.2)) - (w64 (r1.1.2 * r1.2.1.1))))), (54, .bool false), (55, .bool false), (56, iv (w64 ((w64 (r1.1.1 * r1.2.1.2)) - (w64 (r1.1.2 * r1.2.1.1))))), (57, .bool true), (58, .bool true), (59, .bool true), (60, pt 4 0), (61, ag [iv r9.1, iv r9.2]), (62, pt 4 0), (63, ag [iv r9.1, iv r9.2]), (64, iv r24), (65, pt 4 2), (66, ag [iv r11.1, iv r11.2]), (67, pt 4 2), (68, ag [iv r11.1, iv r11.2]), (69, iv r26)])
def S37_17 (r1 : ((Int × Int) × (Int × Int) × Int)) (r13 : Int) (r9 : (Int × Int)) (r11 : (Int × Int)) (r24 : Int) : CAct := (st 85 [(2, pt 1 0), (7, pt 4 0), (8, iv (w64 ((w64 (r1.1.1 * r1.2.1.2)) - (w64 (r1.1.2 * r1.2.1.1))))), (9, iv r13), (52, ag [iv r9.1, iv r9.2, iv r11.1, iv r11.2]), (53, iv (w64 ((w64 (r1.1.1 * r1.2.1.2)) - (w64 (r1.1.2 * r1.2.1.1))))), (54, .bool false), (55, .bool false), (56, iv (w64 ((w64 (r1.1.1 * r1.2.1.2)) - (w64 (r1.1.2 * r1.2.1.1))))), (57, .bool true), (58, .bool true), (59, .bool true), (60, pt 4 0), (61, ag [iv r9.1, iv r9.2]), (62, pt 4 0), (63, ag [iv r9.1, iv r9.2]), (64, iv r24), (65, pt 4 2), (66, ag [iv r11.1, iv r11.2]), (67, pt 4 2), (68, ag [iv r11.1, iv r11.2])])
def S37_18 (r1 : ((Int × Int) × (Int × Int) × Int)) (r13 : Int) (r9 : (Int × Int)) (r11 : (Int × Int)) (r16 : Int) (r18 : Int) : CAct := (st 85 [(2, pt 1 0), (7, pt 4 0), (8, iv (w64 ((w64 (r1.1.1 * r1.2.1.2)) - (w64 (r1.1.2 * r1.2.1.1))))), (9, iv r13), (52, ag [iv r9.1, iv r9.2, iv r11.1, iv r11.2]), (53, iv (w64 ((w64 (r1.1.1 * r1.2.1.2)) - (w64 (r1.1.2 * r1.2.1.1))))), (54, .bool true), (55, .bool true), (56, undef), (57, undef), (58, .bool true), (59, .bool true), (60, pt 4 0), (61, ag [iv r9.1, iv r9.2]), (62, pt 4 0), (63, ag [iv r9.1, iv r9.2]), (64, iv r16), (65, pt 4 2), (66, ag [iv r11.1, iv r11.2]), (67, pt 4 2), (68, ag [iv r11.1, iv r11.2]), (69, iv r18), (70, .bool false)])
def S37_19 (r1 : ((Int × Int) × (Int × Int) × Int)) (r13 : Int) (r9 : (Int × Int)) (r11 : (Int × Int)) (r16 : Int) (r18 : Int) : CAct := (st 85 [(2, pt 1 0), (7, pt 4 0), (8, iv (w64 ((w64 (r1.1.1 * r1.2.1.2)) - (w64 (r1.1.2 * r1.2.1.1))))), (9, iv r13), (52, ag [iv r9.1, iv r9.2, iv r11.1, iv r11.2]), (53, iv (w64 ((w64 (r1.1.1 * r1.2.1.2)) - (w64 (r1.1.2 * r1.2.1.1))))), (54, .bool true), (55, .bool true), (56, undef), (57, undef), (58, .bool true), (59, .bool true), (60, pt 4 0), (61, ag [iv r9.1, iv r9.2]), (62, pt 4 0), (63, ag [iv r9.1, iv r9.2]), (64, iv r16), (65, pt 4 2), (66, ag [iv r11.1, iv r11.2]), (67, pt 4 2), (68, ag [iv r11.1, iv r11.2]), (69, iv r18), (70, .bool true)])
def S37_20 (r1 : ((Int × Int) × (Int × Int) × Int)) (r13 : Int) (r9 : (Int × Int)) (r11 : (Int × Int)) (r16 : Int) (r18 : Int) : CAct := (st 85 [(2, pt 1 0), (7, pt 4 0), (8, iv (w64 ((w64 (r1.1.1 * r1.2.1.2)) - (w64 (r1.1.2 * r1.2.1.1))))), (9, iv r13), (52, ag [iv r9.1, iv r9.2, iv r11.1, iv r11.2]), (53, iv (w64 ((w64 (r1.1.1 * r1.2.1.2)) - (w64 (r1.1.2 * r1.2.1.1))))), (54, .bool true), (55, .bool true), (56, undef), (57, undef), (58, .bool true), (59, .bool true), (60, pt 4 0), (61, ag [iv r9.1, iv r9.2]), (62, pt 4 0), (63, ag [iv r9.1, iv r9.2]), (64, iv r16), (65, pt 4 2), (66, ag [iv r11.1, iv r11.2]), (67, pt 4 2), (68, ag [iv r11.1, iv r11.2]), (69, iv r18)])
def S37_21 (r1 : ((Int × Int) × (Int × Int) × Int)) (r13 : Int) (r9 : (Int × Int)) (r11 : (Int × Int)) (r16 : Int) : CAct := (st 85 [(2, pt 1 0), (7, pt 4 0), (8, iv (w64 ((w64 (r1.1.1 * r1.2.1.2)) - (w64 (r1.1.2 * r1.2.1.1))))), (9, iv r13), (52, ag [iv r9.1, iv r9.2, iv r11.1, iv r11.2]), (53, iv (w64 ((w64 (r1.1.1 * r1.2.1.2)) - (w64 (r1.1.2 * r1.2.1.1))))), (54, .bool true), (55, .bool true), (56, undef), (57, undef), (58, .bool true), (59, .bool true), (60, pt 4 0), (61, ag [iv r9.1, iv r9.2]), (62, pt 4 0), (63, ag [iv r9.1, iv r9.2]), (64, iv r16), (65, pt 4 2), (66, ag [iv r11.1, iv r11.2]), (67, pt 4 2), (68, ag [iv r11.1, iv r11.2])])
def S37_22 (r1 : ((Int × Int) × (Int × Int) × Int)) (r13 : Int) (r9 : (Int × Int)) (r11 : (Int × Int)) (r24 : Int) : CAct := (st 85 [(2, pt 1 0), (7, pt 4 0), (8, iv (w64 ((w64 (r1.1.1 * r1.2.1.2)) - (w64 (r1.1.2 * r1.2.1.1))))), (9, iv r13), (52, ag [iv r9.1, iv r9.2, iv r11.1, iv r11.2]), (53, iv (w64 ((w64 (r1.1.1 * r1.2.1.2)) - (w64 (r1.1.2 * r1.2.1.1))))), (54, .bool false), (55, .bool false), (56, iv (w64 ((w64 (r1.1.1 * r1.2.1.2)) - (w64 (r1.1.2 * r1.2.1.1))))), (57, .bool true), (58, .bool true), (59, .bool true), (60, pt 4 0), (61, ag [iv r9.1, iv r9.2]), (62, pt 4 0), (63, ag [iv r9.1, iv r9.2]), (64, iv r24)])
def S37_23 (r1 : ((Int × Int) × (Int × Int) × Int)) (r13 : Int) (r9 : (Int × Int)) (r11 : (Int × Int)) : CAct := (st 85 [(2, pt 1 0), (7, pt 4 0), (8, iv (w64 ((w64 (r1.1.1 * r1.2.1.2)) - (w64 (r1.1.2 * r1.2.1.1))))), (9, iv r13), (52, ag [iv r9.1, iv r9.2, iv r11.1, iv r11.2]), (53, iv (w64 ((w64 (r1.1.1 * r1.2.1.2)) - (w64 (r1.1.2 * r1.2.1.1))))), (54, .bool false), (55, .bool false), (56, iv (w64 ((w64 (r1.1.1 * r1.2.1.2)) - (w64 (r1.1.2 * r1.2.1.1))))), (57, .bool true), (58, .bool true), (59, .bool true), (60, pt 4 0), (61, ag [iv r9.1, iv r9.2]), (62, pt 4 0), (63, ag [iv r9.1, iv r9.2])])
def S37_24 (r1 : ((Int × Int) × (Int × Int) × Int)) (r13 : Int) (r9 : (Int × Int)) (r11 : (Int × Int)) (r16 : Int) : CAct := (st 85 [(2, pt 1 0), (7, pt 4 0), (8, iv (w64 ((w64 (r1.1.1 * r1.2.1.2)) - (w64 (r1.1.2 * r1.2.1.1))))), (9, iv r13), (52, ag [iv r9.1, iv r9.2, iv r11.1, iv r11.2]), (53, iv (w64 ((w64 (r1.1.1 * r1.2.1.2)) - (w64 (r1.1.2 * r1.2.1.1))))), (54, .bool true), (55, .bool true), (56, undef), (57, undef), (58, .bool true), (59, .bool true), (60, pt 4 0), (61, ag [iv r9.1, iv r9.2]), (62, pt 4 0), (63, ag [iv r9.1, iv r9.2]), (64, iv r16)])
def S37_25 (r1 : ((Int × Int) × (Int × Int) × Int)) (r13 : Int) (r9 : (Int × Int)) (r11 : (Int × Int)) : CAct := (st 85 [(2, pt 1 0), (7, pt 4 0), (8, iv (w64 ((w64 (r1.1.1 * r1.2.1.2)) - (w64 (r1.1.2 * r1.2.1.1))))), (9, iv r13), (52, ag [iv r9.1, iv r9.2, iv r11.1, iv r11.2]), (53, iv (w64 ((w64 (r1.1.1 * r1.2.1.2)) - (w64 (r1.1.2 * r1.2.1.1))))), (54, .bool true), (55, .bool true), (56, undef), (57, undef), (58, .bool true), (59, .bool true), (60, pt 4 0), (61, ag [iv r9.1, iv r9.2]), (62, pt 4 0), (63, ag [iv r9.1, iv r9.2])])
def S37_26 (r1 : ((Int × Int) × (Int × Int) × Int)) (r13 : Int) (r9 : (Int × Int)) (r11 : (Int × Int)) : CAct := (st 85 [(2, pt 1 0), (7, pt 4 0), (8, iv (w64 ((w64 (r1.1.1 * r1.2.1.2)) - (w64 (r1.1.2 * r1.2.1.1))))), (9, iv r13), (52, ag [iv r9.1, iv r9.2, iv r11.1, iv r11.2]), (53, iv (w64 ((w64 (r1.1.1 * r1.2.1.2)) - (w64 (r1.1.2 * r1.2.1.1))))), (54, .bool false), (55, .bool false), (56, iv (w64 ((w64 (r1.1.1 * r1.2.1.2)) - (w64 (r1.1.2 * r1.2.1.1))))), (57, .bool false)])
def S37_27 (r1 : ((Int × Int) × (Int × Int) × Int)) (r13 : Int) (r9 : (Int × Int)) (r11 : (Int × Int)) : CAct := (st 85 [(2, pt 1 0), (7, pt 4 0), (8, iv (w64 ((w64 (r1.1.1 * r1.2.1.2)) - (w64 (r1.1.2 * r1.2.1.1))))), (9, iv r13), (52, ag [iv r9.1, iv r9.2, iv r11.1, iv r11.2]), (53, iv (w64 ((w64 (r1.1.1 * r1.2.1.2)) - (w64 (r1.1.2 * r1.2.1.1))))), (54, .bool false), (55, .bool false), (56, iv (w64 ((w64 (r1.1.1 * r1.2.1.2)) - (w64 (r1.1.2 * r1.2.1.1))))), (57, .bool true)])
def S37_28 (r1 : ((Int × Int) × (Int × Int) × Int)) (r13 : Int) (r9 : (Int × Int)) (r11 : (Int × Int)) : CAct := (st 85 [(2, pt 1 0), (7, pt 4 0), (8, iv (w64 ((w64 (r1.1.1 * r1.2.1.2)) - (w64 (r1.1.2 * r1.2.1.1))))), (9, iv r13), (52, ag [iv r9.1, iv r9.2, iv r11.1, iv r11.2]), (53, iv (w64 ((w64 (r1.1.1 * r1.2.1.2)) - (w64 (r1.1.2 * r1.2.1.1))))), (54, .bool false), (55, .bool false), (56, iv (w64 ((w64 (r1.1.1 * r1.2.1.2)) - (w64 (r1.1.2 * r1.2.1.1)))))])
def S37_29 (r1 : ((Int × Int) × (Int × Int) × Int)) (r13 : Int) (r9 : (Int × Int)) (r11 : (Int × Int)) : CAct := (st 85 [(2, pt 1 0), (7, pt 4 0), (8, iv (w64 ((w64 (r1.1.1 * r1.2.1.2)) - (w64 (r1.1.2 * r1.2.1.1))))), (9, iv r13), (52, ag [iv r9.1, iv r9.2, iv r11.1, iv r11.2]), (53, iv (w64 ((w64 (r1.1.1 * r1.2.1.2)) - (w64 (r1.1.2 * r1.2.1.1))))), (54, .bool false)])
def S37_30 (r1 : ((Int × Int) × (Int × Int) × Int)) (r13 : Int) (r9 : (Int × Int)) (r11 : (Int × Int)) : CAct := (st 85 [(2, pt 1 0), (7, pt 4 0), (8, iv (w64 ((w64 (r1.1.1 * r1.2.1.2)) - (w64 (r1.1.2 * r1.2.1.1))))), (9, iv r13), (52, ag [iv r9.1, iv r9.2, iv r11.1, iv r11.2]), (53, iv (w64 ((w64 (r1.1.1 * r1.2.1.2)) - (w64 (r1.1.2 * r1.2.1.1))))), (54, .bool true)])
def S37_31 (r1 : ((Int × Int) × (Int × Int) × Int)) (r13 : Int) (r9 : (Int × Int)) (r11 : (Int × Int)) : CAct := (st 85 [(2, pt 1 0), (7, pt 4 0), (8, iv (w64 ((w64 (r1.1.1 * r1.2.1.2)) - (w64 (r1.1.2 * r1.2.1.1))))), (9, iv r13), (52, ag [iv r9.1, iv r9.2, iv r11.1, iv r11.2]), (53, iv (w64 ((w64 (r1.1.1 * r1.2.1.2)) - (w64 (r1.1.2 * r1.2.1.1)))))])
def H37_32 (r1 : ((Int × Int) × (Int × Int) × Int)) (r9 : (Int × Int)) (r11 : (Int × Int)) : List Blk := [.dead, cl 25 [iv 0, iv 0, iv 0, iv 0], cl 27 [iv r1.1.1, iv r1.1.2], cl 27 [iv r1.2.1.1, iv r1.2.1.2], cl 25 [iv r9.1, iv r9.2, iv r11.1, iv r11.2]]
def H37_33 (p0 : Int) (p1 : Int) (p2 : Int) (p3 : Int) (r1 : ((Int × Int) × (Int × Int) × Int)) : List Blk := [cl 25 [iv p0, iv p1, iv p2, iv p3], cl 25 [iv 0, iv 0, iv 0, iv 0], cl 27 [iv r1.1.1, iv r1.1.2], cl 27 [iv r1.2.1.1, iv r1.2.1.2]]
def H37_34 (r9 : (Int × Int)) (r11 : (Int × Int)) : List Blk := [.dead, cl 25 [iv r9.1, iv r9.2, iv r11.1, iv r11.2], .dead, .dead, cl 25 [iv r9.1, iv r9.2, iv r11.1, iv r11.2]]
def S37_35 (r1 : ((Int × Int) × (Int × Int) × Int)) : CAct := (st 85 [(1, pt 0 0), (2, pt 1 0), (4, pt 2 0), (5, pt 3 0), (18, .bool false), (19, ag [iv r1.1.1, iv r1.1.2])])
def H37_36 (r9 : (Int × Int)) (r11 : (Int × Int)) : List Blk := [.dead, cl 25 [iv 0, iv 0, iv 0, iv 0], .dead, .dead, cl 25 [iv r9.1, iv r9.2, iv r11.1, iv r11.2]]
def S37_37  : CAct := (st 85 [(1, pt 0 0), (2, pt 1 0), (4, pt 2 0), (5, pt 3 0), (17, .bool false)])
def S37_38  : CAct := (st 85 [(1, pt 0 0), (2, pt 1 0), (4, pt 2 0), (5, pt 3 0), (27, .bool true)])
def S37_39 (r1 : ((Int × Int) × (Int × Int) × Int)) : CAct := (st 85 [(1, pt 0 0), (2, pt 1 0), (4, pt 2 0), (5, pt 3 0), (16, iv r1.2.2)])
def H37_40 (r9 : (Int × Int)) (r11 : (Int × Int)) : List Blk := [.dead, cl 25 [iv r9.1, iv r9.2, iv r11.1, iv r11.2], .dead, .dead, .dead]
def F37 (p0 : Int) (p1 : Int) (p2 : Int) (p3 : Int) : Option (((Int × Int) × (Int × Int)) × Bool) :=
  F23 p0 p1 p2 p3 >>= fun r1 =>
  (
    if r1.2.2 != 0 then
      some (true)
    else
      F38 r1.1.1 r1.1.2 >>= fun r4 =>
      if r4 then
        F38 r1.2.1.1 r1.2.1.2 >>= fun r6 =>
        if r6 then
          some (false)
        else
          some (true)
      else
        some (true)
  : Option Bool) >>= fun m8 =>
  if m8 then
    some (((p0, p1), (p2, p3)), false)
  else
    F40 p0 p1 p2 p3 r1.1.1 r1.1.2 >>= fun r9 =>
    F40 p0 p1 p2 p3 r1.2.1.1 r1.2.1.2 >>= fun r11 =>
    F41 r9.1 r9.2 r11.1 r11.2 >>= fun r13 =>
    (
      if (w64 ((w64 (r1.1.1 * r1.2.1.2)) - (w64 (r1.1.2 * r1.2.1.1)))) == 1 then
        F41 r9.1 r9.2 r9.1 r9.2 >>= fun r16 =>
        F41 r11.1 r11.2 r11.1 r11.2 >>= fun r18 =>
        if decide (r16 ≤ r18) then
          F41 r9.1 r9.2 r9.1 r9.2 >>= fun r21 =>
          some (decide ((w64 (2 * (mx r13 (w64 (0 - r13))))) ≤ r21))
        else
          some (false)
      else
        if (w64 ((w64 (r1.1.1 * r1.2.1.2)) - (w64 (r1.1.2 * r1.2.1.1)))) == (-1) then
          F41 r9.1 r9.2 r9.1 r9.2 >>= fun r24 =>
          F41 r11.1 r11.2 r11.1 r11.2 >>= fun r26 =>
          if decide (r24 ≤ r26) then
            F41 r9.1 r9.2 r9.1 r9.2 >>= fun r29 =>
            some (decide ((w64 (2 * (mx r13 (w64 (0 - r13))))) ≤ r29))
          else
            some (false)
        else
          some (false)
    : Option Bool) >>= fun m31 =>
    some (((r9.1, r9.2), (r11.1, r11.2)), m31)
def V37 (b : Nat) (r : (((Int × Int) × (Int × Int)) × Bool)) : Value := .tuple ⟨[ag [iv r.1.1.1, iv r.1.1.2, iv r.1.2.1, iv r.1.2.2], .bool r.2]⟩
def N37 (b : Nat) (r : (((Int × Int) × (Int × Int)) × Bool)) : List Blk := []
theorem B37 (p0 : Int) (p1 : Int) (p2 : Int) (p3 : Int) (r : (((Int × Int) × (Int × Int)) × Bool)) (hF : F37 p0 p1 p2 p3 = some r) : TS Try.prog 0 0 c37 (st 85 [(0, ag [iv p0, iv p1, iv p2, iv p3])]) [] (NX Try.prog 0 0 [] (FinP Try.prog Try.f37 0 (V37 0 r) (N37 0 r))) := by
  unfold F37 at hF
  refine TS.seqP (by kernel_rfl) ?_
  refine TS.regionP (by kernel_rfl) ?_
  refine TI.run 3 [1, 2] [0, 1] (a2 := (st 85 [(1, pt 0 0), (2, pt 1 0)])) (h2 := [cl 25 [iv p0, iv p1, iv p2, iv p3], cl 25 [iv 0, iv 0, iv 0, iv 0]]) (by kernel_rfl) ?_
  refine TI.done (by kernel_rfl) ?_
  refine NX.sq ?_
  refine TS.seqP (by kernel_rfl) ?_
  have hX := of_do hF
  clear hF
  obtain ⟨r1, h2, hF⟩ := hX
  refine TS.regionP (by kernel_rfl) ?_
  refine TI.runA 1 [1, 2, 11] (a2 := (st 85 [(1, pt 0 0), (2, pt 1 0), (11, ag [iv p0, iv p1, iv p2, iv p3])])) (by kernel_rfl) ?_
  refine TI.callF (C23 _ _ _ _ _ h2) (by kernel_rfl) (by kernel_rfl) ?_
  refine TI.run 9 [1, 2, 4, 5, 6] [0, 1, 2, 3] (a2 := (st 85 [(1, pt 0 0), (2, pt 1 0), (4, pt 2 0), (5, pt 3 0), (6, iv r1.2.2)])) (h2 := (H37_33 p0 p1 p2 p3 r1)) (by kernel_rfl) ?_
  refine TI.done (by kernel_rfl) ?_
  refine NX.sq ?_
  refine TS.seqP (by kernel_rfl) ?_
  refine TS.seqP (by kernel_rfl) ?_
  have hX := of_do hF
  clear hF
  obtain ⟨m8, hm33, hF⟩ := hX
  have hK : NX Try.prog 0 0 [.sq c37.s2.s2.s1.s2, .sq c37.s2.s2.s2] (FinP Try.prog Try.f37 0 (V37 0 r) (N37 0 r)) .normal (st 85 [(1, pt 0 0), (2, pt 1 0), (4, pt 2 0), (5, pt 3 0), (27, .bool m8)]) (H37_33 p0 p1 p2 p3 r1) := by
    refine NX.sq ?_
    cases m8 with
    | true =>
      replace hF := of_pos hF rfl
      refine TS.condTP (o := (.tmp 27)) (by kernel_rfl) (by kernel_rfl) ?_
      refine TS.seqP (by kernel_rfl) ?_
      refine TS.regionP (by kernel_rfl) ?_
      refine TI.run 3 [2, 3] [1] (a2 := (st 85 [(2, pt 1 0), (3, .bool false)])) (h2 := [.dead, cl 25 [iv p0, iv p1, iv p2, iv p3], .dead, .dead]) (by kernel_rfl) ?_
      refine TI.done (by kernel_rfl) ?_
      refine NX.sq ?_
      refine TS.ret' (by kernel_rfl) ?_
      refine NX.sqR ?_
      have hF := Option.some.inj hF
      subst hF
      exact ⟨.inr rfl, rfl, .tuple ⟨[ag [iv p0, iv p1, iv p2, iv p3], .bool false]⟩, by kernel_rfl, WkV.flat0 (by kernel_rfl) (Nat.le_of_ble_eq_true rfl)⟩
    | false =>
      replace hF := of_neg hF rfl
      refine TS.condFP (o := (.tmp 27)) (by kernel_rfl) (by kernel_rfl) ?_
      refine TS.skip' (by kernel_rfl) ?_
      refine NX.sq ?_
      refine TS.seqP (by kernel_rfl) ?_
      have hX := of_do hF
      clear hF
      obtain ⟨r9, h10, hF⟩ := hX
      have hX := of_do hF
      clear hF
      obtain ⟨r11, h12, hF⟩ := hX
      have hT : ∀ e ∈ ([⟨40, [ag [iv p0, iv p1, iv p2, iv p3], ag [iv r1.1.1, iv r1.1.2]], (H37_33 p0 p1 p2 p3 r1), ag [iv r9.1, iv r9.2], []⟩, ⟨40, [ag [iv p0, iv p1, iv p2, iv p3], ag [iv r1.2.1.1, iv r1.2.1.2]], (H37_33 p0 p1 p2 p3 r1), ag [iv r11.1, iv r11.2], []⟩] : List Entry), PureSim Try.prog e.g e.args e.h e.v e.new := by
        intro e he
        simp only [List.mem_cons, List.not_mem_nil, or_false] at he
        rcases he with rfl | rfl
        · exact PureSim.anyK (C40 _ _ _ _ _ _ _ h10) (by kernel_rfl)
        · exact PureSim.anyK (C40 _ _ _ _ _ _ _ h12) (by kernel_rfl)
      refine TS.drawP [⟨40, [ag [iv p0, iv p1, iv p2, iv p3], ag [iv r1.1.1, iv r1.1.2]], (H37_33 p0 p1 p2 p3 r1), ag [iv r9.1, iv r9.2], []⟩, ⟨40, [ag [iv p0, iv p1, iv p2, iv p3], ag [iv r1.2.1.1, iv r1.2.1.2]], (H37_33 p0 p1 p2 p3 r1), ag [iv r11.1, iv r11.2], []⟩] hT mixed (by kernel_rfl) 8 (by kernel_rfl) [2, 4, 5, 7] [1, 2, 3, 4] (a2 := (st 85 [(2, pt 1 0), (4, pt 2 0), (5, pt 3 0), (7, pt 4 0)])) (h2 := (H37_32 r1 r9 r11)) ?_ ?_
      · refine QJ.run (s1 := (qs (st 85 [(1, pt 0 0), (2, pt 1 0), (4, pt 2 0), (5, pt 3 0), (27, .bool false), (29, ag [iv p0, iv p1, iv p2, iv p3]), (30, ag [iv r1.1.1, iv r1.1.2])]) (H37_33 p0 p1 p2 p3 r1) [] [])) 2 (by kernel_rfl) (by kernel_rfl) ?_
        refine QJ.op (q := { val := ag [iv r9.1, iv r9.2], new := [] }) (by decide) (qOf_call (g := 40) (args := [ag [iv p0, iv p1, iv p2, iv p3], ag [iv r1.1.1, iv r1.1.2]]) (by kernel_rfl) lookC_hit) ?_
        refine QJ.run (s1 := (qs (st 85 [(1, pt 0 0), (2, pt 1 0), (4, pt 2 0), (5, pt 3 0), (27, .bool false), (29, ag [iv p0, iv p1, iv p2, iv p3]), (30, ag [iv r1.1.1, iv r1.1.2]), (31, ag [iv r9.1, iv r9.2]), (32, ag [iv p0, iv p1, iv p2, iv p3]), (33, ag [iv r1.2.1.1, iv r1.2.1.2])]) (H37_33 p0 p1 p2 p3 r1) [] [])) 2 (by kernel_rfl) (by kernel_rfl) ?_
        refine QJ.op (q := { val := ag [iv r11.1, iv r11.2], new := [] }) (by decide) (qOf_call (g := 40) (args := [ag [iv p0, iv p1, iv p2, iv p3], ag [iv r1.2.1.1, iv r1.2.1.2]]) (by kernel_rfl) (lookC_skip (by intro _ ha _; have hr := Option.some.inj (h10.symm.trans (Eq.trans (congr (congr (congr (congr (congr (congrArg F40 (Eq.refl p0)) (Eq.refl p1)) (Eq.refl p2)) (Eq.refl p3)) (show r1.1.1 = r1.2.1.1 from congrArg (leafI 4) ha)) (show r1.1.2 = r1.2.1.2 from congrArg (leafI 5) ha)) h12)); first | (subst hr; rfl) | (cases hr; done) | (cases hr; rfl)) lookC_hit)) ?_
        refine QJ.run (s1 := (qs (st 85 [(1, pt 0 0), (2, pt 1 0), (4, pt 2 0), (5, pt 3 0), (7, pt 4 0), (27, .bool false), (29, ag [iv p0, iv p1, iv p2, iv p3]), (30, ag [iv r1.1.1, iv r1.1.2]), (31, ag [iv r9.1, iv r9.2]), (32, ag [iv p0, iv p1, iv p2, iv p3]), (33, ag [iv r1.2.1.1, iv r1.2.1.2]), (34, ag [iv r11.1, iv r11.2]), (35, ag [iv r9.1, iv r9.2, iv r11.1, iv r11.2])]) [cl 25 [iv p0, iv p1, iv p2, iv p3], cl 25 [iv 0, iv 0, iv 0, iv 0], cl 27 [iv r1.1.1, iv r1.1.2], cl 27 [iv r1.2.1.1, iv r1.2.1.2], cl 25 [iv 0, iv 0, iv 0, iv 0]] [(7, 4, 5)] [])) 2 (by kernel_rfl) (by kernel_rfl) ?_
        refine QJ.done (by kernel_rfl) ⟨rfl, ?_⟩
        refine SJ.last (by kernel_rfl)
      refine TS.seqP (by kernel_rfl) ?_
      have hX := of_do hF
      clear hF
      obtain ⟨r13, h14, hF⟩ := hX
      have hT : ∀ e ∈ ([⟨41, [ag [iv r9.1, iv r9.2], ag [iv r11.1, iv r11.2]], (H37_32 r1 r9 r11), iv r13, []⟩] : List Entry), PureSim Try.prog e.g e.args e.h e.v e.new := by
        intro e he
        simp only [List.mem_cons, List.not_mem_nil, or_false] at he
        rcases he with rfl
        · exact PureSim.anyK (C41 _ _ _ _ _ h14) (by kernel_rfl)
      refine TS.drawP [⟨41, [ag [iv r9.1, iv r9.2], ag [iv r11.1, iv r11.2]], (H37_32 r1 r9 r11), iv r13, []⟩] hT mixed (by kernel_rfl) 16 (by kernel_rfl) [2, 7, 8, 9] [1, 4] (a2 := (st 85 [(2, pt 1 0), (7, pt 4 0), (8, iv (w64 ((w64 (r1.1.1 * r1.2.1.2)) - (w64 (r1.1.2 * r1.2.1.1))))), (9, iv r13)])) (h2 := (H37_36 r9 r11)) ?_ ?_
      · refine QJ.run (s1 := (qs (st 85 [(2, pt 1 0), (4, pt 2 0), (5, pt 3 0), (7, pt 4 0), (36, pt 2 0), (37, iv r1.1.1), (38, pt 3 1), (39, iv r1.2.1.2), (40, iv (w64 (r1.1.1 * r1.2.1.2))), (41, pt 2 1), (42, iv r1.1.2), (43, pt 3 0), (44, iv r1.2.1.1), (45, iv (w64 (r1.1.2 * r1.2.1.1))), (46, iv (w64 ((w64 (r1.1.1 * r1.2.1.2)) - (w64 (r1.1.2 * r1.2.1.1))))), (47, pt 4 0), (48, ag [iv r9.1, iv r9.2]), (49, pt 4 2), (50, ag [iv r11.1, iv r11.2])]) (H37_32 r1 r9 r11) [] [])) 15 (by kernel_rfl) (by kernel_rfl) ?_
        refine QJ.op (q := { val := iv r13, new := [] }) (by decide) (qOf_call (g := 41) (args := [ag [iv r9.1, iv r9.2], ag [iv r11.1, iv r11.2]]) (by kernel_rfl) lookC_hit) ?_
        refine QJ.done (by kernel_rfl) ⟨rfl, ?_⟩
        refine SJ.last (by kernel_rfl)
      refine TS.seqP (by kernel_rfl) ?_
      have hX := of_do hF
      clear hF
      obtain ⟨m31, hm32, hF⟩ := hX
      have hK : NX Try.prog 0 0 [.sq c37.s2.s2.s2.s2.s2.s2] (FinP Try.prog Try.f37 0 (V37 0 r) (N37 0 r)) .normal (st 85 [(2, pt 1 0), (3, .bool m31)]) (H37_40 r9 r11) := by
        refine NX.sq ?_
        refine TS.ret' (by kernel_rfl) ?_
        have hF := Option.some.inj hF
        subst hF
        exact ⟨.inr rfl, rfl, .tuple ⟨[ag [iv r9.1, iv r9.2, iv r11.1, iv r11.2], .bool m31]⟩, by kernel_rfl, WkV.flat0 (by kernel_rfl) (Nat.le_of_ble_eq_true rfl)⟩
      rcases Bool.eq_false_or_eq_true ((w64 ((w64 (r1.1.1 * r1.2.1.2)) - (w64 (r1.1.2 * r1.2.1.1)))) == 1) with hc15 | hc15
      · replace hm32 := of_pos hm32 hc15
        have hX := of_do hm32
        clear hm32
        obtain ⟨r16, h17, hm32⟩ := hX
        have hX := of_do hm32
        clear hm32
        obtain ⟨r18, h19, hm32⟩ := hX
        rcases Bool.eq_false_or_eq_true (decide (r16 ≤ r18)) with hc20 | hc20
        · replace hm32 := of_pos hm32 hc20
          have hX := of_do hm32
          clear hm32
          obtain ⟨r21, h22, hm32⟩ := hX
          have hm32 := Option.some.inj hm32
          subst hm32
          have hT : ∀ e ∈ ([⟨41, [ag [iv r9.1, iv r9.2], ag [iv r9.1, iv r9.2]], (H37_36 r9 r11), iv r16, []⟩, ⟨41, [ag [iv r11.1, iv r11.2], ag [iv r11.1, iv r11.2]], (H37_36 r9 r11), iv r18, []⟩, ⟨41, [ag [iv r9.1, iv r9.2], ag [iv r9.1, iv r9.2]], (H37_36 r9 r11), iv r21, []⟩] : List Entry), PureSim Try.prog e.g e.args e.h e.v e.new := by
            intro e he
            simp only [List.mem_cons, List.not_mem_nil, or_false] at he
            rcases he with rfl | rfl | rfl
            · exact PureSim.anyK (C41 _ _ _ _ _ h17) (by kernel_rfl)
            · exact PureSim.anyK (C41 _ _ _ _ _ h19) (by kernel_rfl)
            · exact PureSim.anyK (C41 _ _ _ _ _ h22) (by kernel_rfl)
          refine TS.draw' (id := 6) (b := true) (ops := c37.s2.s2.s2.s2.s2.s1.rops) (fin := (qs (S37_3 r1 r13 r9 r11 r16 r18 r21) (H37_34 r9 r11) [] [(33, 1)])) (fin2 := (qs (S37_3 r1 r13 r9 r11 r16 r18 r21) (H37_34 r9 r11) [] [(33, 1)])) (a1 := (S37_1 r13 r21 r1 r9 r11 r16 r18)) (h1 := (H37_34 r9 r11)) (a2 := (st 85 [(2, pt 1 0), (3, .bool (decide ((w64 (2 * (mx r13 (w64 (0 - r13))))) ≤ r21)))])) (h2 := (H37_40 r9 r11)) [⟨41, [ag [iv r9.1, iv r9.2], ag [iv r9.1, iv r9.2]], (H37_36 r9 r11), iv r16, []⟩, ⟨41, [ag [iv r11.1, iv r11.2], ag [iv r11.1, iv r11.2]], (H37_36 r9 r11), iv r18, []⟩, ⟨41, [ag [iv r9.1, iv r9.2], ag [iv r9.1, iv r9.2]], (H37_36 r9 r11), iv r21, []⟩] hT mixed (by kernel_rfl) rfl 34 (by kernel_rfl) [(33, 1)] ?_ rfl (.inr ⟨?_, (by kernel_rfl)⟩) ?_ [2, 3] [1] (by kernel_rfl) ?_
          · refine QI.run (s1 := (qs (S37_31 r1 r13 r9 r11) (H37_36 r9 r11) [] [])) 2 (by kernel_rfl) (by kernel_rfl) ?_
            refine QI.op (q := { val := .bool true }) (s1 := (qs (S37_30 r1 r13 r9 r11) (H37_36 r9 r11) [] [])) (by decide) (q_conv (e := (w64 ((w64 (r1.1.1 * r1.2.1.2)) - (w64 (r1.1.2 * r1.2.1.1)))) == 1) (b := true) (by kernel_rfl) hc15) (by kernel_rfl) ?_
            refine QI.run (s1 := (qs (S37_25 r1 r13 r9 r11) (H37_36 r9 r11) [] [])) 9 (by kernel_rfl) (by kernel_rfl) ?_
            refine QI.op (q := { val := iv r16, new := [] }) (s1 := (qs (S37_24 r1 r13 r9 r11 r16) (H37_36 r9 r11) [] [])) (by decide) (qOf_call (g := 41) (args := [ag [iv r9.1, iv r9.2], ag [iv r9.1, iv r9.2]]) (by kernel_rfl) lookC_hit) (by kernel_rfl) ?_
            refine QI.run (s1 := (qs (S37_21 r1 r13 r9 r11 r16) (H37_36 r9 r11) [] [])) 4 (by kernel_rfl) (by kernel_rfl) ?_
            refine QI.op (q := { val := iv r18, new := [] }) (s1 := (qs (S37_20 r1 r13 r9 r11 r16 r18) (H37_36 r9 r11) [] [])) (by decide) (qOf_call (g := 41) (args := [ag [iv r11.1, iv r11.2], ag [iv r11.1, iv r11.2]]) (by kernel_rfl) (lookC_skip (by intro _ ha _; have hr := Option.some.inj (h17.symm.trans (Eq.trans (congr (congr (congr (congrArg F41 (show r9.1 = r11.1 from congrArg (leafI 0) ha)) (show r9.2 = r11.2 from congrArg (leafI 1) ha)) (show r9.1 = r11.1 from congrArg (leafI 2) ha)) (show r9.2 = r11.2 from congrArg (leafI 3) ha)) h19)); first | (subst hr; rfl) | (cases hr; done) | (cases hr; rfl)) lookC_hit)) (by kernel_rfl) ?_
            refine QI.op (q := { val := .bool true }) (s1 := (qs (S37_19 r1 r13 r9 r11 r16 r18) (H37_36 r9 r11) [] [])) (by decide) (q_conv (e := decide (r16 ≤ r18)) (b := true) (by kernel_rfl) hc20) (by kernel_rfl) ?_
            refine QI.run (s1 := (qs (S37_9 r1 r13 r9 r11 r16 r18) (H37_36 r9 r11) [] [])) 11 (by kernel_rfl) (by kernel_rfl) ?_
            refine QI.op (q := { val := iv r21, new := [] }) (s1 := (qs (S37_7 r1 r13 r9 r11 r16 r18 r21) (H37_36 r9 r11) [] [])) (by decide) (qOf_call (g := 41) (args := [ag [iv r9.1, iv r9.2], ag [iv r9.1, iv r9.2]]) (by kernel_rfl) (lookC_skip (by intro _ ha _; have hr := Option.some.inj (h17.symm.trans (Eq.trans (congr (congr (congr (congrArg F41 (Eq.refl r9.1)) (Eq.refl r9.2)) (Eq.refl r9.1)) (Eq.refl r9.2)) h22)); first | (subst hr; rfl) | (cases hr; done) | (cases hr; rfl)) (lookC_skip (by intro _ ha _; have hr := Option.some.inj (h19.symm.trans (Eq.trans (congr (congr (congr (congrArg F41 (show r11.1 = r9.1 from congrArg (leafI 0) ha)) (show r11.2 = r9.2 from congrArg (leafI 1) ha)) (show r11.1 = r9.1 from congrArg (leafI 2) ha)) (show r11.2 = r9.2 from congrArg (leafI 3) ha)) h22)); first | (subst hr; rfl) | (cases hr; done) | (cases hr; rfl)) lookC_hit))) (by kernel_rfl) ?_
            refine QI.run (s1 := (qs (S37_3 r1 r13 r9 r11 r16 r18 r21) (H37_34 r9 r11) [] [(33, 1)])) 3 (by kernel_rfl) (by kernel_rfl) ?_
            exact QI.done (by kernel_rfl)
          · refine QI.run (s1 := (qs (S37_31 r1 r13 r9 r11) (H37_36 r9 r11) [] [])) 2 (by kernel_rfl) (by kernel_rfl) ?_
            refine QI.op (q := { val := .bool true }) (s1 := (qs (S37_30 r1 r13 r9 r11) (H37_36 r9 r11) [] [])) (by decide) (q_conv (e := (w64 ((w64 (r1.1.1 * r1.2.1.2)) - (w64 (r1.1.2 * r1.2.1.1)))) == 1) (b := true) (by kernel_rfl) hc15) (by kernel_rfl) ?_
            refine QI.run (s1 := (qs (S37_25 r1 r13 r9 r11) (H37_36 r9 r11) [] [])) 9 (by kernel_rfl) (by kernel_rfl) ?_
            refine QI.op (q := { val := iv r16, new := [] }) (s1 := (qs (S37_24 r1 r13 r9 r11 r16) (H37_36 r9 r11) [] [])) (by decide) (qOf_call (g := 41) (args := [ag [iv r9.1, iv r9.2], ag [iv r9.1, iv r9.2]]) (by kernel_rfl) lookC_hit) (by kernel_rfl) ?_
            refine QI.run (s1 := (qs (S37_21 r1 r13 r9 r11 r16) (H37_36 r9 r11) [] [])) 4 (by kernel_rfl) (by kernel_rfl) ?_
            refine QI.op (q := { val := iv r18, new := [] }) (s1 := (qs (S37_20 r1 r13 r9 r11 r16 r18) (H37_36 r9 r11) [] [])) (by decide) (qOf_call (g := 41) (args := [ag [iv r11.1, iv r11.2], ag [iv r11.1, iv r11.2]]) (by kernel_rfl) (lookC_skip (by intro _ ha _; have hr := Option.some.inj (h17.symm.trans (Eq.trans (congr (congr (congr (congrArg F41 (show r9.1 = r11.1 from congrArg (leafI 0) ha)) (show r9.2 = r11.2 from congrArg (leafI 1) ha)) (show r9.1 = r11.1 from congrArg (leafI 2) ha)) (show r9.2 = r11.2 from congrArg (leafI 3) ha)) h19)); first | (subst hr; rfl) | (cases hr; done) | (cases hr; rfl)) lookC_hit)) (by kernel_rfl) ?_
            refine QI.op (q := { val := .bool true }) (s1 := (qs (S37_19 r1 r13 r9 r11 r16 r18) (H37_36 r9 r11) [] [])) (by decide) (q_conv (e := decide (r16 ≤ r18)) (b := true) (by kernel_rfl) hc20) (by kernel_rfl) ?_
            refine QI.run (s1 := (qs (S37_9 r1 r13 r9 r11 r16 r18) (H37_36 r9 r11) [] [])) 11 (by kernel_rfl) (by kernel_rfl) ?_
            refine QI.op (q := { val := iv r21, new := [] }) (s1 := (qs (S37_7 r1 r13 r9 r11 r16 r18 r21) (H37_36 r9 r11) [] [])) (by decide) (qOf_call (g := 41) (args := [ag [iv r9.1, iv r9.2], ag [iv r9.1, iv r9.2]]) (by kernel_rfl) (lookC_skip (by intro _ ha _; have hr := Option.some.inj (h17.symm.trans (Eq.trans (congr (congr (congr (congrArg F41 (Eq.refl r9.1)) (Eq.refl r9.2)) (Eq.refl r9.1)) (Eq.refl r9.2)) h22)); first | (subst hr; rfl) | (cases hr; done) | (cases hr; rfl)) (lookC_skip (by intro _ ha _; have hr := Option.some.inj (h19.symm.trans (Eq.trans (congr (congr (congr (congrArg F41 (show r11.1 = r9.1 from congrArg (leafI 0) ha)) (show r11.2 = r9.2 from congrArg (leafI 1) ha)) (show r11.1 = r9.1 from congrArg (leafI 2) ha)) (show r11.2 = r9.2 from congrArg (leafI 3) ha)) h22)); first | (subst hr; rfl) | (cases hr; done) | (cases hr; rfl)) lookC_hit))) (by kernel_rfl) ?_
            refine QI.run (s1 := (qs (S37_3 r1 r13 r9 r11 r16 r18 r21) (H37_34 r9 r11) [] [(33, 1)])) 3 (by kernel_rfl) (by kernel_rfl) ?_
            exact QI.done (by kernel_rfl)
          · refine SI.run (a2 := (S37_1 r13 r21 r1 r9 r11 r16 r18)) (h2 := (H37_34 r9 r11)) 1 (by kernel_rfl) ?_
            exact SI.done (by kernel_rfl)
          exact hK
        · replace hm32 := of_neg hm32 hc20
          have hm32 := Option.some.inj hm32
          subst hm32
          have hT : ∀ e ∈ ([⟨41, [ag [iv r9.1, iv r9.2], ag [iv r9.1, iv r9.2]], (H37_36 r9 r11), iv r16, []⟩, ⟨41, [ag [iv r11.1, iv r11.2], ag [iv r11.1, iv r11.2]], (H37_36 r9 r11), iv r18, []⟩] : List Entry), PureSim Try.prog e.g e.args e.h e.v e.new := by
            intro e he
            simp only [List.mem_cons, List.not_mem_nil, or_false] at he
            rcases he with rfl | rfl
            · exact PureSim.anyK (C41 _ _ _ _ _ h17) (by kernel_rfl)
            · exact PureSim.anyK (C41 _ _ _ _ _ h19) (by kernel_rfl)
          refine TS.draw' (id := 6) (b := true) (ops := c37.s2.s2.s2.s2.s2.s1.rops) (fin := (qs (S37_12 r1 r13 r9 r11 r16 r18) (H37_34 r9 r11) [] [(33, 1)])) (fin2 := (qs (S37_12 r1 r13 r9 r11 r16 r18) (H37_34 r9 r11) [] [(33, 1)])) (a1 := (S37_10 r1 r13 r9 r11 r16 r18)) (h1 := (H37_34 r9 r11)) (a2 := (st 85 [(2, pt 1 0), (3, .bool false)])) (h2 := (H37_40 r9 r11)) [⟨41, [ag [iv r9.1, iv r9.2], ag [iv r9.1, iv r9.2]], (H37_36 r9 r11), iv r16, []⟩, ⟨41, [ag [iv r11.1, iv r11.2], ag [iv r11.1, iv r11.2]], (H37_36 r9 r11), iv r18, []⟩] hT mixed (by kernel_rfl) rfl 34 (by kernel_rfl) [(33, 1)] ?_ rfl (.inr ⟨?_, (by kernel_rfl)⟩) ?_ [2, 3] [1] (by kernel_rfl) ?_
          · refine QI.run (s1 := (qs (S37_31 r1 r13 r9 r11) (H37_36 r9 r11) [] [])) 2 (by kernel_rfl) (by kernel_rfl) ?_
            refine QI.op (q := { val := .bool true }) (s1 := (qs (S37_30 r1 r13 r9 r11) (H37_36 r9 r11) [] [])) (by decide) (q_conv (e := (w64 ((w64 (r1.1.1 * r1.2.1.2)) - (w64 (r1.1.2 * r1.2.1.1)))) == 1) (b := true) (by kernel_rfl) hc15) (by kernel_rfl) ?_
            refine QI.run (s1 := (qs (S37_25 r1 r13 r9 r11) (H37_36 r9 r11) [] [])) 9 (by kernel_rfl) (by kernel_rfl) ?_
            refine QI.op (q := { val := iv r16, new := [] }) (s1 := (qs (S37_24 r1 r13 r9 r11 r16) (H37_36 r9 r11) [] [])) (by decide) (qOf_call (g := 41) (args := [ag [iv r9.1, iv r9.2], ag [iv r9.1, iv r9.2]]) (by kernel_rfl) lookC_hit) (by kernel_rfl) ?_
            refine QI.run (s1 := (qs (S37_21 r1 r13 r9 r11 r16) (H37_36 r9 r11) [] [])) 4 (by kernel_rfl) (by kernel_rfl) ?_
            refine QI.op (q := { val := iv r18, new := [] }) (s1 := (qs (S37_20 r1 r13 r9 r11 r16 r18) (H37_36 r9 r11) [] [])) (by decide) (qOf_call (g := 41) (args := [ag [iv r11.1, iv r11.2], ag [iv r11.1, iv r11.2]]) (by kernel_rfl) (lookC_skip (by intro _ ha _; have hr := Option.some.inj (h17.symm.trans (Eq.trans (congr (congr (congr (congrArg F41 (show r9.1 = r11.1 from congrArg (leafI 0) ha)) (show r9.2 = r11.2 from congrArg (leafI 1) ha)) (show r9.1 = r11.1 from congrArg (leafI 2) ha)) (show r9.2 = r11.2 from congrArg (leafI 3) ha)) h19)); first | (subst hr; rfl) | (cases hr; done) | (cases hr; rfl)) lookC_hit)) (by kernel_rfl) ?_
            refine QI.op (q := { val := .bool false }) (s1 := (qs (S37_18 r1 r13 r9 r11 r16 r18) (H37_36 r9 r11) [] [])) (by decide) (q_conv (e := decide (r16 ≤ r18)) (b := false) (by kernel_rfl) hc20) (by kernel_rfl) ?_
            refine QI.run (s1 := (qs (S37_12 r1 r13 r9 r11 r16 r18) (H37_34 r9 r11) [] [(33, 1)])) 15 (by kernel_rfl) (by kernel_rfl) ?_
            exact QI.done (by kernel_rfl)
          · refine QI.run (s1 := (qs (S37_31 r1 r13 r9 r11) (H37_36 r9 r11) [] [])) 2 (by kernel_rfl) (by kernel_rfl) ?_
            refine QI.op (q := { val := .bool true }) (s1 := (qs (S37_30 r1 r13 r9 r11) (H37_36 r9 r11) [] [])) (by decide) (q_conv (e := (w64 ((w64 (r1.1.1 * r1.2.1.2)) - (w64 (r1.1.2 * r1.2.1.1)))) == 1) (b := true) (by kernel_rfl) hc15) (by kernel_rfl) ?_
            refine QI.run (s1 := (qs (S37_25 r1 r13 r9 r11) (H37_36 r9 r11) [] [])) 9 (by kernel_rfl) (by kernel_rfl) ?_
            refine QI.op (q := { val := iv r16, new := [] }) (s1 := (qs (S37_24 r1 r13 r9 r11 r16) (H37_36 r9 r11) [] [])) (by decide) (qOf_call (g := 41) (args := [ag [iv r9.1, iv r9.2], ag [iv r9.1, iv r9.2]]) (by kernel_rfl) lookC_hit) (by kernel_rfl) ?_
            refine QI.run (s1 := (qs (S37_21 r1 r13 r9 r11 r16) (H37_36 r9 r11) [] [])) 4 (by kernel_rfl) (by kernel_rfl) ?_
            refine QI.op (q := { val := iv r18, new := [] }) (s1 := (qs (S37_20 r1 r13 r9 r11 r16 r18) (H37_36 r9 r11) [] [])) (by decide) (qOf_call (g := 41) (args := [ag [iv r11.1, iv r11.2], ag [iv r11.1, iv r11.2]]) (by kernel_rfl) (lookC_skip (by intro _ ha _; have hr := Option.some.inj (h17.symm.trans (Eq.trans (congr (congr (congr (congrArg F41 (show r9.1 = r11.1 from congrArg (leafI 0) ha)) (show r9.2 = r11.2 from congrArg (leafI 1) ha)) (show r9.1 = r11.1 from congrArg (leafI 2) ha)) (show r9.2 = r11.2 from congrArg (leafI 3) ha)) h19)); first | (subst hr; rfl) | (cases hr; done) | (cases hr; rfl)) lookC_hit)) (by kernel_rfl) ?_
            refine QI.op (q := { val := .bool false }) (s1 := (qs (S37_18 r1 r13 r9 r11 r16 r18) (H37_36 r9 r11) [] [])) (by decide) (q_conv (e := decide (r16 ≤ r18)) (b := false) (by kernel_rfl) hc20) (by kernel_rfl) ?_
            refine QI.run (s1 := (qs (S37_12 r1 r13 r9 r11 r16 r18) (H37_34 r9 r11) [] [(33, 1)])) 15 (by kernel_rfl) (by kernel_rfl) ?_
            exact QI.done (by kernel_rfl)
          · refine SI.run (a2 := (S37_10 r1 r13 r9 r11 r16 r18)) (h2 := (H37_34 r9 r11)) 1 (by kernel_rfl) ?_
            exact SI.done (by kernel_rfl)
          exact hK
      · replace hm32 := of_neg hm32 hc15
        rcases Bool.eq_false_or_eq_true ((w64 ((w64 (r1.1.1 * r1.2.1.2)) - (w64 (r1.1.2 * r1.2.1.1)))) == (-1)) with hc23 | hc23
        · replace hm32 := of_pos hm32 hc23
          have hX := of_do hm32
          clear hm32
          obtain ⟨r24, h25, hm32⟩ := hX
          have hX := of_do hm32
          clear hm32
          obtain ⟨r26, h27, hm32⟩ := hX
          rcases Bool.eq_false_or_eq_true (decide (r24 ≤ r26)) with hc28 | hc28
          · replace hm32 := of_pos hm32 hc28
            have hX := of_do hm32
            clear hm32
            obtain ⟨r29, h30, hm32⟩ := hX
            have hm32 := Option.some.inj hm32
            subst hm32
            have hT : ∀ e ∈ ([⟨41, [ag [iv r9.1, iv r9.2], ag [iv r9.1, iv r9.2]], (H37_36 r9 r11), iv r24, []⟩, ⟨41, [ag [iv r11.1, iv r11.2], ag [iv r11.1, iv r11.2]], (H37_36 r9 r11), iv r26, []⟩, ⟨41, [ag [iv r9.1, iv r9.2], ag [iv r9.1, iv r9.2]], (H37_36 r9 r11), iv r29, []⟩] : List Entry), PureSim Try.prog e.g e.args e.h e.v e.new := by
              intro e he
              simp only [List.mem_cons, List.not_mem_nil, or_false] at he
              rcases he with rfl | rfl | rfl
              · exact PureSim.anyK (C41 _ _ _ _ _ h25) (by kernel_rfl)
              · exact PureSim.anyK (C41 _ _ _ _ _ h27) (by kernel_rfl)
              · exact PureSim.anyK (C41 _ _ _ _ _ h30) (by kernel_rfl)
            refine TS.draw' (id := 6) (b := true) (ops := c37.s2.s2.s2.s2.s2.s1.rops) (fin := (qs (S37_2 r1 r13 r9 r11 r24 r26 r29) (H37_34 r9 r11) [] [(33, 1)])) (fin2 := (qs (S37_2 r1 r13 r9 r11 r24 r26 r29) (H37_34 r9 r11) [] [(33, 1)])) (a1 := (S37_0 r13 r29 r1 r9 r11 r24 r26)) (h1 := (H37_34 r9 r11)) (a2 := (st 85 [(2, pt 1 0), (3, .bool (decide ((w64 (2 * (mx r13 (w64 (0 - r13))))) ≤ r29)))])) (h2 := (H37_40 r9 r11)) [⟨41, [ag [iv r9.1, iv r9.2], ag [iv r9.1, iv r9.2]], (H37_36 r9 r11), iv r24, []⟩, ⟨41, [ag [iv r11.1, iv r11.2], ag [iv r11.1, iv r11.2]], (H37_36 r9 r11), iv r26, []⟩, ⟨41, [ag [iv r9.1, iv r9.2], ag [iv r9.1, iv r9.2]], (H37_36 r9 r11), iv r29, []⟩] hT mixed (by kernel_rfl) rfl 34 (by kernel_rfl) [(33, 1)] ?_ rfl (.inr ⟨?_, (by kernel_rfl)⟩) ?_ [2, 3] [1] (by kernel_rfl) ?_
            · refine QI.run (s1 := (qs (S37_31 r1 r13 r9 r11) (H37_36 r9 r11) [] [])) 2 (by kernel_rfl) (by kernel_rfl) ?_
              refine QI.op (q := { val := .bool false }) (s1 := (qs (S37_29 r1 r13 r9 r11) (H37_36 r9 r11) [] [])) (by decide) (q_conv (e := (w64 ((w64 (r1.1.1 * r1.2.1.2)) - (w64 (r1.1.2 * r1.2.1.1)))) == 1) (b := false) (by kernel_rfl) hc15) (by kernel_rfl) ?_
              refine QI.run (s1 := (qs (S37_28 r1 r13 r9 r11) (H37_36 r9 r11) [] [])) 2 (by kernel_rfl) (by kernel_rfl) ?_
              refine QI.op (q := { val := .bool true }) (s1 := (qs (S37_27 r1 r13 r9 r11) (H37_36 r9 r11) [] [])) (by decide) (q_conv (e := (w64 ((w64 (r1.1.1 * r1.2.1.2)) - (w64 (r1.1.2 * r1.2.1.1)))) == (-1)) (b := true) (by kernel_rfl) hc23) (by kernel_rfl) ?_
              refine QI.run (s1 := (qs (S37_23 r1 r13 r9 r11) (H37_36 r9 r11) [] [])) 6 (by kernel_rfl) (by kernel_rfl) ?_
              refine QI.op (q := { val := iv r24, new := [] }) (s1 := (qs (S37_22 r1 r13 r9 r11 r24) (H37_36 r9 r11) [] [])) (by decide) (qOf_call (g := 41) (args := [ag [iv r9.1, iv r9.2], ag [iv r9.1, iv r9.2]]) (by kernel_rfl) lookC_hit) (by kernel_rfl) ?_
              refine QI.run (s1 := (qs (S37_17 r1 r13 r9 r11 r24) (H37_36 r9 r11) [] [])) 4 (by kernel_rfl) (by kernel_rfl) ?_
              refine QI.op (q := { val := iv r26, new := [] }) (s1 := (qs (S37_16 r1 r13 r9 r11 r24 r26) (H37_36 r9 r11) [] [])) (by decide) (qOf_call (g := 41) (args := [ag [iv r11.1, iv r11.2], ag [iv r11.1, iv r11.2]]) (by kernel_rfl) (lookC_skip (by intro _ ha _; have hr := Option.some.inj (h25.symm.trans (Eq.trans (congr (congr (congr (congrArg F41 (show r9.1 = r11.1 from congrArg (leafI 0) ha)) (show r9.2 = r11.2 from congrArg (leafI 1) ha)) (show r9.1 = r11.1 from congrArg (leafI 2) ha)) (show r9.2 = r11.2 from congrArg (leafI 3) ha)) h27)); first | (subst hr; rfl) | (cases hr; done) | (cases hr; rfl)) lookC_hit)) (by kernel_rfl) ?_
              refine QI.op (q := { val := .bool true }) (s1 := (qs (S37_15 r1 r13 r9 r11 r24 r26) (H37_36 r9 r11) [] [])) (by decide) (q_conv (e := decide (r24 ≤ r26)) (b := true) (by kernel_rfl) hc28) (by kernel_rfl) ?_
              refine QI.run (s1 := (qs (S37_5 r1 r13 r9 r11 r24 r26) (H37_36 r9 r11) [] [])) 11 (by kernel_rfl) (by kernel_rfl) ?_
              refine QI.op (q := { val := iv r29, new := [] }) (s1 := (qs (S37_4 r1 r13 r9 r11 r24 r26 r29) (H37_36 r9 r11) [] [])) (by decide) (qOf_call (g := 41) (args := [ag [iv r9.1, iv r9.2], ag [iv r9.1, iv r9.2]]) (by kernel_rfl) (lookC_skip (by intro _ ha _; have hr := Option.some.inj (h25.symm.trans (Eq.trans (congr (congr (congr (congrArg F41 (Eq.refl r9.1)) (Eq.refl r9.2)) (Eq.refl r9.1)) (Eq.refl r9.2)) h30)); first | (subst hr; rfl) | (cases hr; done) | (cases hr; rfl)) (lookC_skip (by intro _ ha _; have hr := Option.some.inj (h27.symm.trans (Eq.trans (congr (congr (congr (congrArg F41 (show r11.1 = r9.1 from congrArg (leafI 0) ha)) (show r11.2 = r9.2 from congrArg (leafI 1) ha)) (show r11.1 = r9.1 from congrArg (leafI 2) ha)) (show r11.2 = r9.2 from congrArg (leafI 3) ha)) h30)); first | (subst hr; rfl) | (cases hr; done) | (cases hr; rfl)) lookC_hit))) (by kernel_rfl) ?_
              refine QI.run (s1 := (qs (S37_2 r1 r13 r9 r11 r24 r26 r29) (H37_34 r9 r11) [] [(33, 1)])) 3 (by kernel_rfl) (by kernel_rfl) ?_
              exact QI.done (by kernel_rfl)
            · refine QI.run (s1 := (qs (S37_31 r1 r13 r9 r11) (H37_36 r9 r11) [] [])) 2 (by kernel_rfl) (by kernel_rfl) ?_
              refine QI.op (q := { val := .bool false }) (s1 := (qs (S37_29 r1 r13 r9 r11) (H37_36 r9 r11) [] [])) (by decide) (q_conv (e := (w64 ((w64 (r1.1.1 * r1.2.1.2)) - (w64 (r1.1.2 * r1.2.1.1)))) == 1) (b := false) (by kernel_rfl) hc15) (by kernel_rfl) ?_
              refine QI.run (s1 := (qs (S37_28 r1 r13 r9 r11) (H37_36 r9 r11) [] [])) 2 (by kernel_rfl) (by kernel_rfl) ?_
              refine QI.op (q := { val := .bool true }) (s1 := (qs (S37_27 r1 r13 r9 r11) (H37_36 r9 r11) [] [])) (by decide) (q_conv (e := (w64 ((w64 (r1.1.1 * r1.2.1.2)) - (w64 (r1.1.2 * r1.2.1.1)))) == (-1)) (b := true) (by kernel_rfl) hc23) (by kernel_rfl) ?_
              refine QI.run (s1 := (qs (S37_23 r1 r13 r9 r11) (H37_36 r9 r11) [] [])) 6 (by kernel_rfl) (by kernel_rfl) ?_
              refine QI.op (q := { val := iv r24, new := [] }) (s1 := (qs (S37_22 r1 r13 r9 r11 r24) (H37_36 r9 r11) [] [])) (by decide) (qOf_call (g := 41) (args := [ag [iv r9.1, iv r9.2], ag [iv r9.1, iv r9.2]]) (by kernel_rfl) lookC_hit) (by kernel_rfl) ?_
              refine QI.run (s1 := (qs (S37_17 r1 r13 r9 r11 r24) (H37_36 r9 r11) [] [])) 4 (by kernel_rfl) (by kernel_rfl) ?_
              refine QI.op (q := { val := iv r26, new := [] }) (s1 := (qs (S37_16 r1 r13 r9 r11 r24 r26) (H37_36 r9 r11) [] [])) (by decide) (qOf_call (g := 41) (args := [ag [iv r11.1, iv r11.2], ag [iv r11.1, iv r11.2]]) (by kernel_rfl) (lookC_skip (by intro _ ha _; have hr := Option.some.inj (h25.symm.trans (Eq.trans (congr (congr (congr (congrArg F41 (show r9.1 = r11.1 from congrArg (leafI 0) ha)) (show r9.2 = r11.2 from congrArg (leafI 1) ha)) (show r9.1 = r11.1 from congrArg (leafI 2) ha)) (show r9.2 = r11.2 from congrArg (leafI 3) ha)) h27)); first | (subst hr; rfl) | (cases hr; done) | (cases hr; rfl)) lookC_hit)) (by kernel_rfl) ?_
              refine QI.op (q := { val := .bool true }) (s1 := (qs (S37_15 r1 r13 r9 r11 r24 r26) (H37_36 r9 r11) [] [])) (by decide) (q_conv (e := decide (r24 ≤ r26)) (b := true) (by kernel_rfl) hc28) (by kernel_rfl) ?_
              refine QI.run (s1 := (qs (S37_5 r1 r13 r9 r11 r24 r26) (H37_36 r9 r11) [] [])) 11 (by kernel_rfl) (by kernel_rfl) ?_
              refine QI.op (q := { val := iv r29, new := [] }) (s1 := (qs (S37_4 r1 r13 r9 r11 r24 r26 r29) (H37_36 r9 r11) [] [])) (by decide) (qOf_call (g := 41) (args := [ag [iv r9.1, iv r9.2], ag [iv r9.1, iv r9.2]]) (by kernel_rfl) (lookC_skip (by intro _ ha _; have hr := Option.some.inj (h25.symm.trans (Eq.trans (congr (congr (congr (congrArg F41 (Eq.refl r9.1)) (Eq.refl r9.2)) (Eq.refl r9.1)) (Eq.refl r9.2)) h30)); first | (subst hr; rfl) | (cases hr; done) | (cases hr; rfl)) (lookC_skip (by intro _ ha _; have hr := Option.some.inj (h27.symm.trans (Eq.trans (congr (congr (congr (congrArg F41 (show r11.1 = r9.1 from congrArg (leafI 0) ha)) (show r11.2 = r9.2 from congrArg (leafI 1) ha)) (show r11.1 = r9.1 from congrArg (leafI 2) ha)) (show r11.2 = r9.2 from congrArg (leafI 3) ha)) h30)); first | (subst hr; rfl) | (cases hr; done) | (cases hr; rfl)) lookC_hit))) (by kernel_rfl) ?_
              refine QI.run (s1 := (qs (S37_2 r1 r13 r9 r11 r24 r26 r29) (H37_34 r9 r11) [] [(33, 1)])) 3 (by kernel_rfl) (by kernel_rfl) ?_
              exact QI.done (by kernel_rfl)
            · refine SI.run (a2 := (S37_0 r13 r29 r1 r9 r11 r24 r26)) (h2 := (H37_34 r9 r11)) 1 (by kernel_rfl) ?_
              exact SI.done (by kernel_rfl)
            exact hK
          · replace hm32 := of_neg hm32 hc28
            have hm32 := Option.some.inj hm32
            subst hm32
            have hT : ∀ e ∈ ([⟨41, [ag [iv r9.1, iv r9.2], ag [iv r9.1, iv r9.2]], (H37_36 r9 r11), iv r24, []⟩, ⟨41, [ag [iv r11.1, iv r11.2], ag [iv r11.1, iv r11.2]], (H37_36 r9 r11), iv r26, []⟩] : List Entry), PureSim Try.prog e.g e.args e.h e.v e.new := by
              intro e he
              simp only [List.mem_cons, List.not_mem_nil, or_false] at he
              rcases he with rfl | rfl
              · exact PureSim.anyK (C41 _ _ _ _ _ h25) (by kernel_rfl)
              · exact PureSim.anyK (C41 _ _ _ _ _ h27) (by kernel_rfl)
            refine TS.draw' (id := 6) (b := true) (ops := c37.s2.s2.s2.s2.s2.s1.rops) (fin := (qs (S37_8 r1 r13 r9 r11 r24 r26) (H37_34 r9 r11) [] [(33, 1)])) (fin2 := (qs (S37_8 r1 r13 r9 r11 r24 r26) (H37_34 r9 r11) [] [(33, 1)])) (a1 := (S37_6 r1 r13 r9 r11 r24 r26)) (h1 := (H37_34 r9 r11)) (a2 := (st 85 [(2, pt 1 0), (3, .bool false)])) (h2 := (H37_40 r9 r11)) [⟨41, [ag [iv r9.1, iv r9.2], ag [iv r9.1, iv r9.2]], (H37_36 r9 r11), iv r24, []⟩, ⟨41, [ag [iv r11.1, iv r11.2], ag [iv r11.1, iv r11.2]], (H37_36 r9 r11), iv r26, []⟩] hT mixed (by kernel_rfl) rfl 34 (by kernel_rfl) [(33, 1)] ?_ rfl (.inr ⟨?_, (by kernel_rfl)⟩) ?_ [2, 3] [1] (by kernel_rfl) ?_
            · refine QI.run (s1 := (qs (S37_31 r1 r13 r9 r11) (H37_36 r9 r11) [] [])) 2 (by kernel_rfl) (by kernel_rfl) ?_
              refine QI.op (q := { val := .bool false }) (s1 := (qs (S37_29 r1 r13 r9 r11) (H37_36 r9 r11) [] [])) (by decide) (q_conv (e := (w64 ((w64 (r1.1.1 * r1.2.1.2)) - (w64 (r1.1.2 * r1.2.1.1)))) == 1) (b := false) (by kernel_rfl) hc15) (by kernel_rfl) ?_
              refine QI.run (s1 := (qs (S37_28 r1 r13 r9 r11) (H37_36 r9 r11) [] [])) 2 (by kernel_rfl) (by kernel_rfl) ?_
              refine QI.op (q := { val := .bool true }) (s1 := (qs (S37_27 r1 r13 r9 r11) (H37_36 r9 r11) [] [])) (by decide) (q_conv (e := (w64 ((w64 (r1.1.1 * r1.2.1.2)) - (w64 (r1.1.2 * r1.2.1.1)))) == (-1)) (b := true) (by kernel_rfl) hc23) (by kernel_rfl) ?_
              refine QI.run (s1 := (qs (S37_23 r1 r13 r9 r11) (H37_36 r9 r11) [] [])) 6 (by kernel_rfl) (by kernel_rfl) ?_
              refine QI.op (q := { val := iv r24, new := [] }) (s1 := (qs (S37_22 r1 r13 r9 r11 r24) (H37_36 r9 r11) [] [])) (by decide) (qOf_call (g := 41) (args := [ag [iv r9.1, iv r9.2], ag [iv r9.1, iv r9.2]]) (by kernel_rfl) lookC_hit) (by kernel_rfl) ?_
              refine QI.run (s1 := (qs (S37_17 r1 r13 r9 r11 r24) (H37_36 r9 r11) [] [])) 4 (by kernel_rfl) (by kernel_rfl) ?_
              refine QI.op (q := { val := iv r26, new := [] }) (s1 := (qs (S37_16 r1 r13 r9 r11 r24 r26) (H37_36 r9 r11) [] [])) (by decide) (qOf_call (g := 41) (args := [ag [iv r11.1, iv r11.2], ag [iv r11.1, iv r11.2]]) (by kernel_rfl) (lookC_skip (by intro _ ha _; have hr := Option.some.inj (h25.symm.trans (Eq.trans (congr (congr (congr (congrArg F41 (show r9.1 = r11.1 from congrArg (leafI 0) ha)) (show r9.2 = r11.2 from congrArg (leafI 1) ha)) (show r9.1 = r11.1 from congrArg (leafI 2) ha)) (show r9.2 = r11.2 from congrArg (leafI 3) ha)) h27)); first | (subst hr; rfl) | (cases hr; done) | (cases hr; rfl)) lookC_hit)) (by kernel_rfl) ?_
              refine QI.op (q := { val := .bool false }) (s1 := (qs (S37_14 r1 r13 r9 r11 r24 r26) (H37_36 r9 r11) [] [])) (by decide) (q_conv (e := decide (r24 ≤ r26)) (b := false) (by kernel_rfl) hc28) (by kernel_rfl) ?_
              refine QI.run (s1 := (qs (S37_8 r1 r13 r9 r11 r24 r26) (H37_34 r9 r11) [] [(33, 1)])) 15 (by kernel_rfl) (by kernel_rfl) ?_
              exact QI.done (by kernel_rfl)
            · refine QI.run (s1 := (qs (S37_31 r1 r13 r9 r11) (H37_36 r9 r11) [] [])) 2 (by kernel_rfl) (by kernel_rfl) ?_
              refine QI.op (q := { val := .bool false }) (s1 := (qs (S37_29 r1 r13 r9 r11) (H37_36 r9 r11) [] [])) (by decide) (q_conv (e := (w64 ((w64 (r1.1.1 * r1.2.1.2)) - (w64 (r1.1.2 * r1.2.1.1)))) == 1) (b := false) (by kernel_rfl) hc15) (by kernel_rfl) ?_
              refine QI.run (s1 := (qs (S37_28 r1 r13 r9 r11) (H37_36 r9 r11) [] [])) 2 (by kernel_rfl) (by kernel_rfl) ?_
              refine QI.op (q := { val := .bool true }) (s1 := (qs (S37_27 r1 r13 r9 r11) (H37_36 r9 r11) [] [])) (by decide) (q_conv (e := (w64 ((w64 (r1.1.1 * r1.2.1.2)) - (w64 (r1.1.2 * r1.2.1.1)))) == (-1)) (b := true) (by kernel_rfl) hc23) (by kernel_rfl) ?_
              refine QI.run (s1 := (qs (S37_23 r1 r13 r9 r11) (H37_36 r9 r11) [] [])) 6 (by kernel_rfl) (by kernel_rfl) ?_
              refine QI.op (q := { val := iv r24, new := [] }) (s1 := (qs (S37_22 r1 r13 r9 r11 r24) (H37_36 r9 r11) [] [])) (by decide) (qOf_call (g := 41) (args := [ag [iv r9.1, iv r9.2], ag [iv r9.1, iv r9.2]]) (by kernel_rfl) lookC_hit) (by kernel_rfl) ?_
              refine QI.run (s1 := (qs (S37_17 r1 r13 r9 r11 r24) (H37_36 r9 r11) [] [])) 4 (by kernel_rfl) (by kernel_rfl) ?_
              refine QI.op (q := { val := iv r26, new := [] }) (s1 := (qs (S37_16 r1 r13 r9 r11 r24 r26) (H37_36 r9 r11) [] [])) (by decide) (qOf_call (g := 41) (args := [ag [iv r11.1, iv r11.2], ag [iv r11.1, iv r11.2]]) (by kernel_rfl) (lookC_skip (by intro _ ha _; have hr := Option.some.inj (h25.symm.trans (Eq.trans (congr (congr (congr (congrArg F41 (show r9.1 = r11.1 from congrArg (leafI 0) ha)) (show r9.2 = r11.2 from congrArg (leafI 1) ha)) (show r9.1 = r11.1 from congrArg (leafI 2) ha)) (show r9.2 = r11.2 from congrArg (leafI 3) ha)) h27)); first | (subst hr; rfl) | (cases hr; done) | (cases hr; rfl)) lookC_hit)) (by kernel_rfl) ?_
              refine QI.op (q := { val := .bool false }) (s1 := (qs (S37_14 r1 r13 r9 r11 r24 r26) (H37_36 r9 r11) [] [])) (by decide) (q_conv (e := decide (r24 ≤ r26)) (b := false) (by kernel_rfl) hc28) (by kernel_rfl) ?_
              refine QI.run (s1 := (qs (S37_8 r1 r13 r9 r11 r24 r26) (H37_34 r9 r11) [] [(33, 1)])) 15 (by kernel_rfl) (by kernel_rfl) ?_
              exact QI.done (by kernel_rfl)
            · refine SI.run (a2 := (S37_6 r1 r13 r9 r11 r24 r26)) (h2 := (H37_34 r9 r11)) 1 (by kernel_rfl) ?_
              exact SI.done (by kernel_rfl)
            exact hK
        · replace hm32 := of_neg hm32 hc23
          have hm32 := Option.some.inj hm32
          subst hm32
          refine TS.draw' (id := 6) (b := true) (ops := c37.s2.s2.s2.s2.s2.s1.rops) (fin := (qs (S37_13 r1 r13 r9 r11) (H37_34 r9 r11) [] [(33, 1)])) (fin2 := (qs (S37_13 r1 r13 r9 r11) (H37_34 r9 r11) [] [(33, 1)])) (a1 := (S37_11 r1 r13 r9 r11)) (h1 := (H37_34 r9 r11)) (a2 := (st 85 [(2, pt 1 0), (3, .bool false)])) (h2 := (H37_40 r9 r11)) [] (fun e he => by cases he) mixed (by kernel_rfl) rfl 34 (by kernel_rfl) [(33, 1)] ?_ rfl (.inr ⟨?_, (by kernel_rfl)⟩) ?_ [2, 3] [1] (by kernel_rfl) ?_
          · refine QI.run (s1 := (qs (S37_31 r1 r13 r9 r11) (H37_36 r9 r11) [] [])) 2 (by kernel_rfl) (by kernel_rfl) ?_
            refine QI.op (q := { val := .bool false }) (s1 := (qs (S37_29 r1 r13 r9 r11) (H37_36 r9 r11) [] [])) (by decide) (q_conv (e := (w64 ((w64 (r1.1.1 * r1.2.1.2)) - (w64 (r1.1.2 * r1.2.1.1)))) == 1) (b := false) (by kernel_rfl) hc15) (by kernel_rfl) ?_
            refine QI.run (s1 := (qs (S37_28 r1 r13 r9 r11) (H37_36 r9 r11) [] [])) 2 (by kernel_rfl) (by kernel_rfl) ?_
            refine QI.op (q := { val := .bool false }) (s1 := (qs (S37_26 r1 r13 r9 r11) (H37_36 r9 r11) [] [])) (by decide) (q_conv (e := (w64 ((w64 (r1.1.1 * r1.2.1.2)) - (w64 (r1.1.2 * r1.2.1.1)))) == (-1)) (b := false) (by kernel_rfl) hc23) (by kernel_rfl) ?_
            refine QI.run (s1 := (qs (S37_13 r1 r13 r9 r11) (H37_34 r9 r11) [] [(33, 1)])) 28 (by kernel_rfl) (by kernel_rfl) ?_
            exact QI.done (by kernel_rfl)
          · refine QI.run (s1 := (qs (S37_31 r1 r13 r9 r11) (H37_36 r9 r11) [] [])) 2 (by kernel_rfl) (by kernel_rfl) ?_
            refine QI.op (q := { val := .bool false }) (s1 := (qs (S37_29 r1 r13 r9 r11) (H37_36 r9 r11) [] [])) (by decide) (q_conv (e := (w64 ((w64 (r1.1.1 * r1.2.1.2)) - (w64 (r1.1.2 * r1.2.1.1)))) == 1) (b := false) (by kernel_rfl) hc15) (by kernel_rfl) ?_
            refine QI.run (s1 := (qs (S37_28 r1 r13 r9 r11) (H37_36 r9 r11) [] [])) 2 (by kernel_rfl) (by kernel_rfl) ?_
            refine QI.op (q := { val := .bool false }) (s1 := (qs (S37_26 r1 r13 r9 r11) (H37_36 r9 r11) [] [])) (by decide) (q_conv (e := (w64 ((w64 (r1.1.1 * r1.2.1.2)) - (w64 (r1.1.2 * r1.2.1.1)))) == (-1)) (b := false) (by kernel_rfl) hc23) (by kernel_rfl) ?_
            refine QI.run (s1 := (qs (S37_13 r1 r13 r9 r11) (H37_34 r9 r11) [] [(33, 1)])) 28 (by kernel_rfl) (by kernel_rfl) ?_
            exact QI.done (by kernel_rfl)
          · refine SI.run (a2 := (S37_11 r1 r13 r9 r11)) (h2 := (H37_34 r9 r11)) 1 (by kernel_rfl) ?_
            exact SI.done (by kernel_rfl)
          exact hK
  rcases Bool.eq_false_or_eq_true (r1.2.2 != 0) with hc3 | hc3
  · replace hm33 := of_pos hm33 hc3
    have hm33 := Option.some.inj hm33
    subst hm33
    refine TS.regionP (by kernel_rfl) ?_
    refine TI.runA 1 [1, 2, 4, 5, 16] (a2 := (S37_39 r1)) (by kernel_rfl) ?_
    refine TI.op (q := { val := .bool true }) (q_conv (e := r1.2.2 != 0) (b := true) (by kernel_rfl) hc3) [1, 2, 4, 5, 17] [0, 1, 2, 3] (a2 := (st 85 [(1, pt 0 0), (2, pt 1 0), (4, pt 2 0), (5, pt 3 0), (17, .bool true)])) (h2 := (H37_33 p0 p1 p2 p3 r1)) (by kernel_rfl) ?_
    refine TI.runA 10 [1, 2, 4, 5, 27] (a2 := (S37_38)) (by kernel_rfl) ?_
    refine TI.done (by kernel_rfl) ?_
    exact hK
  · replace hm33 := of_neg hm33 hc3
    have hX := of_do hm33
    clear hm33
    obtain ⟨r4, h5, hm33⟩ := hX
    cases r4 with
    | true =>
      replace hm33 := of_pos hm33 rfl
      have hX := of_do hm33
      clear hm33
      obtain ⟨r6, h7, hm33⟩ := hX
      cases r6 with
      | true =>
        replace hm33 := of_pos hm33 rfl
        have hm33 := Option.some.inj hm33
        subst hm33
        refine TS.regionP (by kernel_rfl) ?_
        refine TI.runA 1 [1, 2, 4, 5, 16] (a2 := (S37_39 r1)) (by kernel_rfl) ?_
        refine TI.op (q := { val := .bool false }) (q_conv (e := r1.2.2 != 0) (b := false) (by kernel_rfl) hc3) [1, 2, 4, 5, 17] [0, 1, 2, 3] (a2 := (S37_37)) (h2 := (H37_33 p0 p1 p2 p3 r1)) (by kernel_rfl) ?_
        refine TI.runA 2 [1, 2, 4, 5, 18, 19] (a2 := (S37_35 r1)) (by kernel_rfl) ?_
        refine TI.callF (C38 _ _ _ h5) (by kernel_rfl) (by kernel_rfl) ?_
        refine TI.runA 4 [1, 2, 4, 5, 23, 24] (a2 := (st 85 [(1, pt 0 0), (2, pt 1 0), (4, pt 2 0), (5, pt 3 0), (23, .bool false), (24, ag [iv r1.2.1.1, iv r1.2.1.2])])) (by kernel_rfl) ?_
        refine TI.callF (C38 _ _ _ h7) (by kernel_rfl) (by kernel_rfl) ?_
        refine TI.runA 2 [1, 2, 4, 5, 27] (a2 := (st 85 [(1, pt 0 0), (2, pt 1 0), (4, pt 2 0), (5, pt 3 0), (27, .bool false)])) (by kernel_rfl) ?_
        refine TI.done (by kernel_rfl) ?_
        exact hK
      | false =>
        replace hm33 := of_neg hm33 rfl
        have hm33 := Option.some.inj hm33
        subst hm33
        refine TS.regionP (by kernel_rfl) ?_
        refine TI.runA 1 [1, 2, 4, 5, 16] (a2 := (S37_39 r1)) (by kernel_rfl) ?_
        refine TI.op (q := { val := .bool false }) (q_conv (e := r1.2.2 != 0) (b := false) (by kernel_rfl) hc3) [1, 2, 4, 5, 17] [0, 1, 2, 3] (a2 := (S37_37)) (h2 := (H37_33 p0 p1 p2 p3 r1)) (by kernel_rfl) ?_
        refine TI.runA 2 [1, 2, 4, 5, 18, 19] (a2 := (S37_35 r1)) (by kernel_rfl) ?_
        refine TI.callF (C38 _ _ _ h5) (by kernel_rfl) (by kernel_rfl) ?_
        refine TI.runA 4 [1, 2, 4, 5, 23, 24] (a2 := (st 85 [(1, pt 0 0), (2, pt 1 0), (4, pt 2 0), (5, pt 3 0), (23, .bool false), (24, ag [iv r1.2.1.1, iv r1.2.1.2])])) (by kernel_rfl) ?_
        refine TI.callF (C38 _ _ _ h7) (by kernel_rfl) (by kernel_rfl) ?_
        refine TI.runA 2 [1, 2, 4, 5, 27] (a2 := (S37_38)) (by kernel_rfl) ?_
        refine TI.done (by kernel_rfl) ?_
        exact hK
    | false =>
      replace hm33 := of_neg hm33 rfl
      have hm33 := Option.some.inj hm33
      subst hm33
      refine TS.regionP (by kernel_rfl) ?_
      refine TI.runA 1 [1, 2, 4, 5, 16] (a2 := (S37_39 r1)) (by kernel_rfl) ?_
      refine TI.op (q := { val := .bool false }) (q_conv (e := r1.2.2 != 0) (b := false) (by kernel_rfl) hc3) [1, 2, 4, 5, 17] [0, 1, 2, 3] (a2 := (S37_37)) (h2 := (H37_33 p0 p1 p2 p3 r1)) (by kernel_rfl) ?_
      refine TI.runA 2 [1, 2, 4, 5, 18, 19] (a2 := (S37_35 r1)) (by kernel_rfl) ?_
      refine TI.callF (C38 _ _ _ h5) (by kernel_rfl) (by kernel_rfl) ?_
      refine TI.runA 7 [1, 2, 4, 5, 27] (a2 := (S37_38)) (by kernel_rfl) ?_
      refine TI.done (by kernel_rfl) ?_
      exact hK
theorem C37 (p0 : Int) (p1 : Int) (p2 : Int) (p3 : Int) (r : (((Int × Int) × (Int × Int)) × Bool)) (hF : F37 p0 p1 p2 p3 = some r) : PureSim Try.prog 37 [ag [iv p0, iv p1, iv p2, iv p3]] [] (V37 0 r) (N37 0 r) :=
  PureSim.of_Fin Try.func37 (c := c37) (by kernel_rfl) (by kernel_rfl) 0 rfl [0] [] (by kernel_rfl) (B37 p0 p1 p2 p3 r hF)

-- agonic/agoniclaw06.pulls
noncomputable def c42 : Code := Try.f42.code
def H42_0 (p0 : Int) (p1 : Int) (p2 : Int) (p3 : Int) (p4 : Int) (p5 : Int) (v110 : (List (Int × Int))) (r126 : (Int × Int)) : List Blk := [cl 25 [iv p0, iv p1, iv p2, iv p3], cl 23 [iv p4, iv p5], accB 23 (List.length v110) (List.flatMap e23 v110), cl 23 [iv r126.1, iv r126.2]]
def F42l1 (p0 : Int) (p1 : Int) (p2 : Int) (p3 : Int) (p4 : Int) (p5 : Int) (p6 : Int) (r1 : Int) (v48 : Int) (v111 : Int) (v110 : (List (Int × Int))) : Option (List (Int × Int)) :=
    if decide (v111 ≤ (w64 (p5 + p6))) then
      F43 v48 v111 >>= fun r126 =>
      F45 r126.1 r126.2 p2 p3 >>= fun r128 =>
      if r1 = 0 then none else
      (
        if (Int.tmod r128 r1) == 0 then
          F45 p0 p1 r126.1 r126.2 >>= fun r132 =>
          some ((Int.tmod r132 r1) == 0)
        else
          some (false)
      : Option Bool) >>= fun m134 =>
      (
        if m134 then
          if List.length v110 ≤ 1000000000 then
            some (v110 ++ [(r126.1, r126.2)])
          else none
        else
          some v110
      : Option (List (Int × Int))) >>= fun m137 =>
      F42l1 p0 p1 p2 p3 p4 p5 p6 r1 v48 (w64 (v111 + 1)) m137
    else
      some v110
  partial_fixpoint
def F42l0 (p0 : Int) (p1 : Int) (p2 : Int) (p3 : Int) (p4 : Int) (p5 : Int) (p6 : Int) (r1 : Int) (v49 : (List (Int × Int))) (v48 : Int) : Option (List (Int × Int)) :=
    if decide (v48 ≤ (w64 (p4 + p6))) then
      F42l1 p0 p1 p2 p3 p4 p5 p6 r1 v48 (w64 (p5 - p6)) v49 >>= fun r141 =>
      F42l0 p0 p1 p2 p3 p4 p5 p6 r1 r141 (w64 (v48 + 1))
    else
      some v49
  partial_fixpoint
def F42 (p0 : Int) (p1 : Int) (p2 : Int) (p3 : Int) (p4 : Int) (p5 : Int) (p6 : Int) : Option (List (Int × Int)) :=
  F45 p0 p1 p2 p3 >>= fun r1 =>
  F42l0 p0 p1 p2 p3 p4 p5 p6 r1 ([]) (w64 (p4 - p6)) >>= fun r143 =>
  some r143
def V42 (b : Nat) (r : (List (Int × Int))) : Value := accV (b + 0) (List.length r)
def N42 (b : Nat) (r : (List (Int × Int))) : List Blk := [accB 23 (List.length r) (List.flatMap e23 r)]
def P42l1 (p0 : Int) (p1 : Int) (p2 : Int) (p3 : Int) (p4 : Int) (p5 : Int) (p6 : Int) (r1 : Int) (v48 : Int) (r : (List (Int × Int))) : Post := fun e a h => e = .exit 2 ∧ Wk Try.prog 0 0 a h (st 65 [(2, iv p6), (3, pt 0 0), (4, pt 1 0), (7, iv r1), (8, accV 2 (List.length r)), (9, iv v48)]) [cl 25 [iv p0, iv p1, iv p2, iv p3], cl 23 [iv p4, iv p5], accB 23 (List.length r) (List.flatMap e23 r)]
theorem L42l1 (p0 : Int) (p1 : Int) (p2 : Int) (p3 : Int) (p4 : Int) (p5 : Int) (p6 : Int) (r1 : Int) (v48 : Int) (v111 : Int) (v110 : (List (Int × Int))) (r : (List (Int × Int))) (hF : F42l1 p0 p1 p2 p3 p4 p5 p6 r1 v48 v111 v110 = some r) : TL Try.prog 0 0 c42.s2.s2.s2.s1.s2.bd.bd.s2.s1.bd.s2.bd.bd (st 65 [(2, iv p6), (3, pt 0 0), (4, pt 1 0), (7, iv r1), (8, accV 2 (List.length v110)), (9, iv v48), (10, iv v111)]) [cl 25 [iv p0, iv p1, iv p2, iv p3], cl 23 [iv p4, iv p5], accB 23 (List.length v110) (List.flatMap e23 v110)] (P42l1 p0 p1 p2 p3 p4 p5 p6 r1 v48 r) := by
  refine F42l1.partial_correctness p0 p1 p2 p3 p4 p5 p6 r1 v48 (motive := fun v111 v110 r => TL Try.prog 0 0 c42.s2.s2.s2.s1.s2.bd.bd.s2.s1.bd.s2.bd.bd (st 65 [(2, iv p6), (3, pt 0 0), (4, pt 1 0), (7, iv r1), (8, accV 2 (List.length v110)), (9, iv v48), (10, iv v111)]) [cl 25 [iv p0, iv p1, iv p2, iv p3], cl 23 [iv p4, iv p5], accB 23 (List.length v110) (List.flatMap e23 v110)] (P42l1 p0 p1 p2 p3 p4 p5 p6 r1 v48 r)) ?_ v111 v110 r hF
  clear hF r v111 v110
  intro again ih v111 v110 r hF
  refine TL.round ?_
  refine TS.seqP (by kernel_rfl) ?_
  refine TS.seqP (by kernel_rfl) ?_
  refine TS.regionP (by kernel_rfl) ?_
  refine TI.runA 6 [2, 3, 4, 7, 8, 9, 10, 38] (a2 := (st 65 [(2, iv p6), (3, pt 0 0), (4, pt 1 0), (7, iv r1), (8, accV 2 (List.length v110)), (9, iv v48), (10, iv v111), (38, .bool (decide (v111 ≤ (w64 (p5 + p6)))))])) (by kernel_rfl) ?_
  refine TI.done (by kernel_rfl) ?_
  refine NX.sq ?_
  refine TS.condP (o := (.tmp 38)) (b := decide (v111 ≤ (w64 (p5 + p6)))) (by kernel_rfl) (by kernel_rfl) (fun hc125 => ?_) (fun hc125 => ?_)
  · replace hF := of_pos hF hc125
    refine TS.skip' (by kernel_rfl) ?_
    refine NX.sq ?_
    refine TS.seqP (by kernel_rfl) ?_
    refine TS.blockP (id := 3) (by kernel_rfl) ?_
    refine TS.seqP (by kernel_rfl) ?_
    have hX := of_do hF
    clear hF
    obtain ⟨r126, h127, hF⟩ := hX
    refine TS.regionP (by kernel_rfl) ?_
    refine TI.runA 2 [2, 3, 4, 7, 8, 9, 10, 41, 42] (a2 := (st 65 [(2, iv p6), (3, pt 0 0), (4, pt 1 0), (7, iv r1), (8, accV 2 (List.length v110)), (9, iv v48), (10, iv v111), (41, iv v48), (42, iv v111)])) (by kernel_rfl) ?_
    refine TI.callF (C43 _ _ _ h127) (by kernel_rfl) (by kernel_rfl) ?_
    refine TI.run 2 [2, 3, 4, 7, 8, 9, 10, 11] [0, 1, 2, 3] (a2 := (st 65 [(2, iv p6), (3, pt 0 0), (4, pt 1 0), (7, iv r1), (8, accV 2 (List.length v110)), (9, iv v48), (10, iv v111), (11, pt 3 0)])) (h2 := (H42_0 p0 p1 p2 p3 p4 p5 v110 r126)) (by kernel_rfl) ?_
    refine TI.done (by kernel_rfl) ?_
    refine NX.sq ?_
    refine TS.seqP (by kernel_rfl) ?_
    have hX := of_do hF
    clear hF
    obtain ⟨r128, h129, hF⟩ := hX
    have hX := of_guardn hF
    clear hF
    obtain ⟨hg130, hF⟩ := hX
    have hX := of_do hF
    clear hF
    obtain ⟨m134, hm140, hF⟩ := hX
    have hK : NX Try.prog 0 0 [.sq c42.s2.s2.s2.s1.s2.bd.bd.s2.s1.bd.s2.bd.bd.s2.s1.bd.s2.s2, .bk 3, .sq c42.s2.s2.s2.s1.s2.bd.bd.s2.s1.bd.s2.bd.bd.s2.s2] (Rd Try.prog 0 0 c42.s2.s2.s2.s1.s2.bd.bd.s2.s1.bd.s2.bd.bd (P42l1 p0 p1 p2 p3 p4 p5 p6 r1 v48 r)) .normal (st 65 [(2, iv p6), (3, pt 0 0), (4, pt 1 0), (7, iv r1), (8, accV 2 (List.length v110)), (9, iv v48), (10, iv v111), (11, pt 3 0), (59, .bool m134)]) (H42_0 p0 p1 p2 p3 p4 p5 v110 r126) := by
      refine NX.sq ?_
      have hX := of_do hF
      clear hF
      obtain ⟨m137, hm138, hF⟩ := hX
      have hK : NX Try.prog 0 0 [.bk 3, .sq c42.s2.s2.s2.s1.s2.bd.bd.s2.s1.bd.s2.bd.bd.s2.s2] (Rd Try.prog 0 0 c42.s2.s2.s2.s1.s2.bd.bd.s2.s1.bd.s2.bd.bd (P42l1 p0 p1 p2 p3 p4 p5 p6 r1 v48 r)) .normal (st 65 [(2, iv p6), (3, pt 0 0), (4, pt 1 0), (7, iv r1), (8, accV 2 (List.length m137)), (9, iv v48), (10, iv v111)]) [cl 25 [iv p0, iv p1, iv p2, iv p3], cl 23 [iv p4, iv p5], accB 23 (List.length m137) (List.flatMap e23 m137)] := by
        refine NX.bk ?_
        refine NX.sq ?_
        refine TS.regionP (by kernel_rfl) ?_
        refine TI.runA 3 [2, 3, 4, 7, 8, 9, 10] (a2 := (st 65 [(2, iv p6), (3, pt 0 0), (4, pt 1 0), (7, iv r1), (8, accV 2 (List.length m137)), (9, iv v48), (10, iv (w64 (v111 + 1)))])) (by kernel_rfl) ?_
        refine TI.done (by kernel_rfl) ?_
        exact Rd.again (a2 := (st 65 [(2, iv p6), (3, pt 0 0), (4, pt 1 0), (7, iv r1), (8, accV 2 (List.length m137)), (9, iv v48), (10, iv (w64 (v111 + 1)))])) (h2 := [cl 25 [iv p0, iv p1, iv p2, iv p3], cl 23 [iv p4, iv p5], accB 23 (List.length m137) (List.flatMap e23 m137)]) (Wk.anew (base := 0) (L := 0) (f := [0, 1, 2]) (by decide) (by decide) (Nat.le_of_ble_eq_true rfl) rfl (.cons (At.blk (by kernel_rfl) (RnB.lit (.cons (.flat (by kernel_rfl)) (.cons (.flat (by kernel_rfl)) (.cons (.flat (by kernel_rfl)) (.cons (.flat (by kernel_rfl)) .nil)))))) (.cons (At.blk (by kernel_rfl) (RnB.lit (.cons (.flat (by kernel_rfl)) (.cons (.flat (by kernel_rfl)) .nil)))) (.cons (At.acc (by kernel_rfl) rfl (fun _ => rfl)) (.nil _)))) (LRn.stx [2, 3, 4, 7, 8, 9, 10] [iv p6, pt 0 0, pt 1 0, iv r1, accV 2 (List.length m137), iv v48, iv (w64 (v111 + 1))] [iv p6, pt 0 0, pt 1 0, iv r1, accV 2 (List.length m137), iv v48, iv (w64 (v111 + 1))] (.cons (.flat (by kernel_rfl)) (.cons (Rn.ptr _ _ _ (Nat.le_of_ble_eq_true rfl) rfl) (.cons (Rn.ptr _ _ _ (Nat.le_of_ble_eq_true rfl) rfl) (.cons (.flat (by kernel_rfl)) (.cons (Rn.acc (Nat.le_of_ble_eq_true rfl) rfl) (.cons (.flat (by kernel_rfl)) (.cons (.flat (by kernel_rfl)) .nil))))))) (by kernel_rfl) (by kernel_rfl) rfl) rfl rfl) (ih (w64 (v111 + 1)) m137 _ hF)
      clear hF
      have hF := hm138
      clear hm138
      refine TS.start ?_
      cases m134 with
      | true =>
        replace hF := of_pos hF rfl
        refine TS.condTP (o := (.tmp 59)) (by kernel_rfl) (by kernel_rfl) ?_
        have hX := of_guard hF
        clear hF
        obtain ⟨hg139, hF⟩ := hX
        refine TS.regionP (by kernel_rfl) ?_
        refine TI.run 3 [2, 3, 4, 7, 9, 10, 60, 62] [0, 1, 2, 4] (a2 := (st 65 [(2, iv p6), (3, pt 0 0), (4, pt 1 0), (7, iv r1), (9, iv v48), (10, iv v111), (60, accV 2 (List.length v110)), (62, .slice (some ⟨4, 0, none⟩) 1 1)])) (h2 := [cl 25 [iv p0, iv p1, iv p2, iv p3], cl 23 [iv p4, iv p5], accB 23 (List.length v110) (List.flatMap e23 v110), .dead, cl 23 [iv r126.1, iv r126.2]]) (by kernel_rfl) ?_
        refine TI.acc (l := v110) (b := 2) (ts := #[86, 86]) (e := 23) (bytes := 16) (z := ag [iv 0, iv 0]) (y := .slice (some ⟨4, 0, none⟩) 1 1) (ys := [(r126.1, r126.2)]) (xs := List.flatMap e23 ([(r126.1, r126.2)])) (m := 1) (s := 2) (enc := e23) (by kernel_rfl) (by kernel_rfl) (by decide) (by kernel_rfl) (by kernel_rfl) (by kernel_rfl) (by kernel_rfl) (by kernel_rfl) (by kernel_rfl) (by kernel_rfl) (by kernel_rfl) (fun _ => rfl) rfl rfl (by omega) [2, 3, 4, 7, 9, 10, 63] [0, 1, 5] (a2 := (st 65 [(2, iv p6), (3, pt 0 0), (4, pt 1 0), (7, iv r1), (9, iv v48), (10, iv v111), (63, .slice (some ⟨5, 0, none⟩) (List.length (v110 ++ [(r126.1, r126.2)])) UNK)])) (h2 := [cl 25 [iv p0, iv p1, iv p2, iv p3], cl 23 [iv p4, iv p5], .dead, .dead, .dead, .cells 23 (List.flatMap e23 (v110 ++ [(r126.1, r126.2)]))]) (by kernel_rfl) ?_
        refine TI.runA 1 [2, 3, 4, 7, 8, 9, 10] (a2 := (st 65 [(2, iv p6), (3, pt 0 0), (4, pt 1 0), (7, iv r1), (8, .slice (some ⟨5, 0, none⟩) (List.length (v110 ++ [(r126.1, r126.2)])) UNK), (9, iv v48), (10, iv v111)])) (by kernel_rfl) ?_
        refine TI.done (by kernel_rfl) ?_
        have hF := Option.some.inj hF
        subst hF
        exact TS.weak (Wk.anew (base := 0) (L := 0) (f := [0, 1, 5]) (by decide) (by decide) (Nat.le_of_ble_eq_true rfl) rfl (.cons (At.blk (by kernel_rfl) (RnB.lit (.cons (.flat (by kernel_rfl)) (.cons (.flat (by kernel_rfl)) (.cons (.flat (by kernel_rfl)) (.cons (.flat (by kernel_rfl)) .nil)))))) (.cons (At.blk (by kernel_rfl) (RnB.lit (.cons (.flat (by kernel_rfl)) (.cons (.flat (by kernel_rfl)) .nil)))) (.cons (At.accU (by kernel_rfl) rfl (fun _ => rfl)) (.nil _)))) (LRn.stx [2, 3, 4, 7, 8, 9, 10] [iv p6, pt 0 0, pt 1 0, iv r1, accV 2 (List.length (v110 ++ [(r126.1, r126.2)])), iv v48, iv v111] [iv p6, pt 0 0, pt 1 0, iv r1, .slice (some ⟨5, 0, none⟩) (List.length (v110 ++ [(r126.1, r126.2)])) UNK, iv v48, iv v111] (.cons (.flat (by kernel_rfl)) (.cons (Rn.ptr _ _ _ (Nat.le_of_ble_eq_true rfl) rfl) (.cons (Rn.ptr _ _ _ (Nat.le_of_ble_eq_true rfl) rfl) (.cons (.flat (by kernel_rfl)) (.cons (Rn.accU (Nat.le_of_ble_eq_true rfl) rfl (by simp)) (.cons (.flat (by kernel_rfl)) (.cons (.flat (by kernel_rfl)) .nil))))))) (by kernel_rfl) (by kernel_rfl) rfl) rfl rfl) hK
      | false =>
        replace hF := of_neg hF rfl
        refine TS.condFP (o := (.tmp 59)) (by kernel_rfl) (by kernel_rfl) ?_
        refine TS.skip' (by kernel_rfl) ?_
        have hF := Option.some.inj hF
        subst hF
        exact TS.weak (Wk.anew (base := 0) (L := 0) (f := [0, 1, 2]) (by decide) (by decide) (Nat.le_of_ble_eq_true rfl) rfl (.cons (At.blk (by kernel_rfl) (RnB.lit (.cons (.flat (by kernel_rfl)) (.cons (.flat (by kernel_rfl)) (.cons (.flat (by kernel_rfl)) (.cons (.flat (by kernel_rfl)) .nil)))))) (.cons (At.blk (by kernel_rfl) (RnB.lit (.cons (.flat (by kernel_rfl)) (.cons (.flat (by kernel_rfl)) .nil)))) (.cons (At.acc (by kernel_rfl) rfl (fun _ => rfl)) (.nil _)))) (LRn.stx [2, 3, 4, 7, 8, 9, 10] [iv p6, pt 0 0, pt 1 0, iv r1, accV 2 (List.length v110), iv v48, iv v111] [iv p6, pt 0 0, pt 1 0, iv r1, accV 2 (List.length v110), iv v48, iv v111] (.cons (.flat (by kernel_rfl)) (.cons (Rn.ptr _ _ _ (Nat.le_of_ble_eq_true rfl) rfl) (.cons (Rn.ptr _ _ _ (Nat.le_of_ble_eq_true rfl) rfl) (.cons (.flat (by kernel_rfl)) (.cons (Rn.acc (Nat.le_of_ble_eq_true rfl) rfl) (.cons (.flat (by kernel_rfl)) (.cons (.flat (by kernel_rfl)) .nil))))))) (by kernel_rfl) (by kernel_rfl) rfl) rfl rfl) hK
    rcases Bool.eq_false_or_eq_true ((Int.tmod r128 r1) == 0) with hc131 | hc131
    · replace hm140 := of_pos hm140 hc131
      have hX := of_do hm140
      clear hm140
      obtain ⟨r132, h133, hm140⟩ := hX
      have hm140 := Option.some.inj hm140
      subst hm140
      refine TS.regionP (by kernel_rfl) ?_
      refine TI.runA 3 [2, 3, 4, 7, 8, 9, 10, 11, 44, 46] (a2 := (st 65 [(2, iv p6), (3, pt 0 0), (4, pt 1 0), (7, iv r1), (8, accV 2 (List.length v110)), (9, iv v48), (10, iv v111), (11, pt 3 0), (44, ag [iv r126.1, iv r126.2]), (46, ag [iv p2, iv p3])])) (by kernel_rfl) ?_
      refine TI.callF (C45 _ _ _ _ _ h129) (by kernel_rfl) (by kernel_rfl) ?_
      refine TI.runA 1 [2, 3, 4, 7, 8, 9, 10, 11, 47, 48] (a2 := (st 65 [(2, iv p6), (3, pt 0 0), (4, pt 1 0), (7, iv r1), (8, accV 2 (List.length v110)), (9, iv v48), (10, iv v111), (11, pt 3 0), (47, iv r128), (48, iv r1)])) (by kernel_rfl) ?_
      refine TI.op (q := { val := iv (Int.tmod r128 r1) }) (q_int (P := Try.prog) (op := .rem) (ty := 3) (ox := (.tmp 47)) (oy := (.tmp 48)) (k := .i64) (k' := .i64) (y := r128) (z := r1) (by kernel_rfl) (rem_ok hg130)) [2, 3, 4, 7, 8, 9, 10, 11, 49] [0, 1, 2, 3] (a2 := (st 65 [(2, iv p6), (3, pt 0 0), (4, pt 1 0), (7, iv r1), (8, accV 2 (List.length v110)), (9, iv v48), (10, iv v111), (11, pt 3 0), (49, iv (Int.tmod r128 r1))])) (h2 := (H42_0 p0 p1 p2 p3 p4 p5 v110 r126)) (by kernel_rfl) ?_
      refine TI.op (q := { val := .bool true }) (q_conv (e := (Int.tmod r128 r1) == 0) (b := true) (by kernel_rfl) hc131) [2, 3, 4, 7, 8, 9, 10, 11, 50] [0, 1, 2, 3] (a2 := (st 65 [(2, iv p6), (3, pt 0 0), (4, pt 1 0), (7, iv r1), (8, accV 2 (List.length v110)), (9, iv v48), (10, iv v111), (11, pt 3 0), (50, .bool true)])) (h2 := (H42_0 p0 p1 p2 p3 p4 p5 v110 r126)) (by kernel_rfl) ?_
      refine TI.runA 4 [2, 3, 4, 7, 8, 9, 10, 11, 51, 53, 54] (a2 := (st 65 [(2, iv p6), (3, pt 0 0), (4, pt 1 0), (7, iv r1), (8, accV 2 (List.length v110)), (9, iv v48), (10, iv v111), (11, pt 3 0), (51, .bool true), (53, ag [iv p0, iv p1]), (54, ag [iv r126.1, iv r126.2])])) (by kernel_rfl) ?_
      refine TI.callF (C45 _ _ _ _ _ h133) (by kernel_rfl) (by kernel_rfl) ?_
      refine TI.runA 1 [2, 3, 4, 7, 8, 9, 10, 11, 51, 55, 56] (a2 := (st 65 [(2, iv p6), (3, pt 0 0), (4, pt 1 0), (7, iv r1), (8, accV 2 (List.length v110)), (9, iv v48), (10, iv v111), (11, pt 3 0), (51, .bool true), (55, iv r132), (56, iv r1)])) (by kernel_rfl) ?_
      refine TI.op (q := { val := iv (Int.tmod r132 r1) }) (q_int (P := Try.prog) (op := .rem) (ty := 3) (ox := (.tmp 55)) (oy := (.tmp 56)) (k := .i64) (k' := .i64) (y := r132) (z := r1) (by kernel_rfl) (rem_ok hg130)) [2, 3, 4, 7, 8, 9, 10, 11, 51, 57] [0, 1, 2, 3] (a2 := (st 65 [(2, iv p6), (3, pt 0 0), (4, pt 1 0), (7, iv r1), (8, accV 2 (List.length v110)), (9, iv v48), (10, iv v111), (11, pt 3 0), (51, .bool true), (57, iv (Int.tmod r132 r1))])) (h2 := (H42_0 p0 p1 p2 p3 p4 p5 v110 r126)) (by kernel_rfl) ?_
      refine TI.runA 2 [2, 3, 4, 7, 8, 9, 10, 11, 59] (a2 := (st 65 [(2, iv p6), (3, pt 0 0), (4, pt 1 0), (7, iv r1), (8, accV 2 (List.length v110)), (9, iv v48), (10, iv v111), (11, pt 3 0), (59, .bool ((Int.tmod r132 r1) == 0))])) (by kernel_rfl) ?_
      refine TI.done (by kernel_rfl) ?_
      exact hK
    · replace hm140 := of_neg hm140 hc131
      have hm140 := Option.some.inj hm140
      subst hm140
      refine TS.regionP (by kernel_rfl) ?_
      refine TI.runA 3 [2, 3, 4, 7, 8, 9, 10, 11, 44, 46] (a2 := (st 65 [(2, iv p6), (3, pt 0 0), (4, pt 1 0), (7, iv r1), (8, accV 2 (List.length v110)), (9, iv v48), (10, iv v111), (11, pt 3 0), (44, ag [iv r126.1, iv r126.2]), (46, ag [iv p2, iv p3])])) (by kernel_rfl) ?_
      refine TI.callF (C45 _ _ _ _ _ h129) (by kernel_rfl) (by kernel_rfl) ?_
      refine TI.runA 1 [2, 3, 4, 7, 8, 9, 10, 11, 47, 48] (a2 := (st 65 [(2, iv p6), (3, pt 0 0), (4, pt 1 0), (7, iv r1), (8, accV 2 (List.length v110)), (9, iv v48), (10, iv v111), (11, pt 3 0), (47, iv r128), (48, iv r1)])) (by kernel_rfl) ?_
      refine TI.op (q := { val := iv (Int.tmod r128 r1) }) (q_int (P := Try.prog) (op := .rem) (ty := 3) (ox := (.tmp 47)) (oy := (.tmp 48)) (k := .i64) (k' := .i64) (y := r128) (z := r1) (by kernel_rfl) (rem_ok hg130)) [2, 3, 4, 7, 8, 9, 10, 11, 49] [0, 1, 2, 3] (a2 := (st 65 [(2, iv p6), (3, pt 0 0), (4, pt 1 0), (7, iv r1), (8, accV 2 (List.length v110)), (9, iv v48), (10, iv v111), (11, pt 3 0), (49, iv (Int.tmod r128 r1))])) (h2 := (H42_0 p0 p1 p2 p3 p4 p5 v110 r126)) (by kernel_rfl) ?_
      refine TI.op (q := { val := .bool false }) (q_conv (e := (Int.tmod r128 r1) == 0) (b := false) (by kernel_rfl) hc131) [2, 3, 4, 7, 8, 9, 10, 11, 50] [0, 1, 2, 3] (a2 := (st 65 [(2, iv p6), (3, pt 0 0), (4, pt 1 0), (7, iv r1), (8, accV 2 (List.length v110)), (9, iv v48), (10, iv v111), (11, pt 3 0), (50, .bool false)])) (h2 := (H42_0 p0 p1 p2 p3 p4 p5 v110 r126)) (by kernel_rfl) ?_
      refine TI.runA 9 [2, 3, 4, 7, 8, 9, 10, 11, 59] (a2 := (st 65 [(2, iv p6), (3, pt 0 0), (4, pt 1 0), (7, iv r1), (8, accV 2 (List.length v110)), (9, iv v48), (10, iv v111), (11, pt 3 0), (59, .bool false)])) (by kernel_rfl) ?_
      refine TI.done (by kernel_rfl) ?_
      exact hK
  · replace hF := of_neg hF hc125
    refine TS.exit' (id := 2) (by kernel_rfl) ?_
    refine NX.sqX ?_
    have hF := Option.some.inj hF
    subst hF
    exact Rd.out (e := .exit 2) (by intro h; cases h) (And.intro rfl (Wk.anew (base := 0) (L := 0) (f := [0, 1, 2]) (by decide) (by decide) (Nat.le_of_ble_eq_true rfl) rfl (.cons (At.blk (by kernel_rfl) (RnB.lit (.cons (.flat (by kernel_rfl)) (.cons (.flat (by kernel_rfl)) (.cons (.flat (by kernel_rfl)) (.cons (.flat (by kernel_rfl)) .nil)))))) (.cons (At.blk (by kernel_rfl) (RnB.lit (.cons (.flat (by kernel_rfl)) (.cons (.flat (by kernel_rfl)) .nil)))) (.cons (At.acc (by kernel_rfl) rfl (fun _ => rfl)) (.nil _)))) (LRn.stx [2, 3, 4, 7, 8, 9] [iv p6, pt 0 0, pt 1 0, iv r1, accV 2 (List.length v110), iv v48] [iv p6, pt 0 0, pt 1 0, iv r1, accV 2 (List.length v110), iv v48] (.cons (.flat (by kernel_rfl)) (.cons (Rn.ptr _ _ _ (Nat.le_of_ble_eq_true rfl) rfl) (.cons (Rn.ptr _ _ _ (Nat.le_of_ble_eq_true rfl) rfl) (.cons (.flat (by kernel_rfl)) (.cons (Rn.acc (Nat.le_of_ble_eq_true rfl) rfl) (.cons (.flat (by kernel_rfl)) .nil)))))) (by kernel_rfl) (by kernel_rfl) rfl) rfl rfl))
def P42l0 (p0 : Int) (p1 : Int) (p2 : Int) (p3 : Int) (p4 : Int) (p5 : Int) (p6 : Int) (r1 : Int) (r : (List (Int × Int))) : Post := fun e a h => e = .exit 0 ∧ Wk Try.prog 0 0 a h (st 65 [(8, accV 0 (List.length r))]) [accB 23 (List.length r) (List.flatMap e23 r)]
theorem L42l0 (p0 : Int) (p1 : Int) (p2 : Int) (p3 : Int) (p4 : Int) (p5 : Int) (p6 : Int) (r1 : Int) (v49 : (List (Int × Int))) (v48 : Int) (r : (List (Int × Int))) (hF : F42l0 p0 p1 p2 p3 p4 p5 p6 r1 v49 v48 = some r) : TL Try.prog 0 0 c42.s2.s2.s2.s1.s2.bd.bd (st 65 [(2, iv p6), (3, pt 0 0), (4, pt 1 0), (7, iv r1), (8, accV 2 (List.length v49)), (9, iv v48)]) [cl 25 [iv p0, iv p1, iv p2, iv p3], cl 23 [iv p4, iv p5], accB 23 (List.length v49) (List.flatMap e23 v49)] (P42l0 p0 p1 p2 p3 p4 p5 p6 r1 r) := by
  refine F42l0.partial_correctness p0 p1 p2 p3 p4 p5 p6 r1 (motive := fun v49 v48 r => TL Try.prog 0 0 c42.s2.s2.s2.s1.s2.bd.bd (st 65 [(2, iv p6), (3, pt 0 0), (4, pt 1 0), (7, iv r1), (8, accV 2 (List.length v49)), (9, iv v48)]) [cl 25 [iv p0, iv p1, iv p2, iv p3], cl 23 [iv p4, iv p5], accB 23 (List.length v49) (List.flatMap e23 v49)] (P42l0 p0 p1 p2 p3 p4 p5 p6 r1 r)) ?_ v49 v48 r hF
  clear hF r v49 v48
  intro again ih v49 v48 r hF
  refine TL.round ?_
  refine TS.seqP (by kernel_rfl) ?_
  refine TS.seqP (by kernel_rfl) ?_
  refine TS.regionP (by kernel_rfl) ?_
  refine TI.runA 6 [2, 3, 4, 7, 8, 9, 26] (a2 := (st 65 [(2, iv p6), (3, pt 0 0), (4, pt 1 0), (7, iv r1), (8, accV 2 (List.length v49)), (9, iv v48), (26, .bool (decide (v48 ≤ (w64 (p4 + p6)))))])) (by kernel_rfl) ?_
  refine TI.done (by kernel_rfl) ?_
  refine NX.sq ?_
  refine TS.condP (o := (.tmp 26)) (b := decide (v48 ≤ (w64 (p4 + p6)))) (by kernel_rfl) (by kernel_rfl) (fun hc97 => ?_) (fun hc97 => ?_)
  · replace hF := of_pos hF hc97
    refine TS.skip' (by kernel_rfl) ?_
    refine NX.sq ?_
    refine TS.seqP (by kernel_rfl) ?_
    refine TS.blockP (id := 1) (by kernel_rfl) ?_
    refine TS.seqP (by kernel_rfl) ?_
    refine TS.regionP (by kernel_rfl) ?_
    refine TI.runA 5 [2, 3, 4, 7, 8, 9, 10] (a2 := (st 65 [(2, iv p6), (3, pt 0 0), (4, pt 1 0), (7, iv r1), (8, accV 2 (List.length v49)), (9, iv v48), (10, iv (w64 (p5 - p6)))])) (by kernel_rfl) ?_
    refine TI.done (by kernel_rfl) ?_
    refine NX.sq ?_
    refine TS.blockP (id := 2) (by kernel_rfl) ?_
    have hX := of_do hF
    clear hF
    obtain ⟨r141, h142, hF⟩ := hX
    refine TS.loopP (by kernel_rfl) (TL.weak (a2 := (st 65 [(2, iv p6), (3, pt 0 0), (4, pt 1 0), (7, iv r1), (8, accV 2 (List.length v49)), (9, iv v48), (10, iv (w64 (p5 - p6)))])) (h2 := [cl 25 [iv p0, iv p1, iv p2, iv p3], cl 23 [iv p4, iv p5], accB 23 (List.length v49) (List.flatMap e23 v49)]) (Wk.anew (base := 0) (L := 0) (f := [0, 1, 2]) (by decide) (by decide) (Nat.le_of_ble_eq_true rfl) rfl (.cons (At.blk (by kernel_rfl) (RnB.lit (.cons (.flat (by kernel_rfl)) (.cons (.flat (by kernel_rfl)) (.cons (.flat (by kernel_rfl)) (.cons (.flat (by kernel_rfl)) .nil)))))) (.cons (At.blk (by kernel_rfl) (RnB.lit (.cons (.flat (by kernel_rfl)) (.cons (.flat (by kernel_rfl)) .nil)))) (.cons (At.acc (by kernel_rfl) rfl (fun _ => rfl)) (.nil _)))) (LRn.stx [2, 3, 4, 7, 8, 9, 10] [iv p6, pt 0 0, pt 1 0, iv r1, accV 2 (List.length v49), iv v48, iv (w64 (p5 - p6))] [iv p6, pt 0 0, pt 1 0, iv r1, accV 2 (List.length v49), iv v48, iv (w64 (p5 - p6))] (.cons (.flat (by kernel_rfl)) (.cons (Rn.ptr _ _ _ (Nat.le_of_ble_eq_true rfl) rfl) (.cons (Rn.ptr _ _ _ (Nat.le_of_ble_eq_true rfl) rfl) (.cons (.flat (by kernel_rfl)) (.cons (Rn.acc (Nat.le_of_ble_eq_true rfl) rfl) (.cons (.flat (by kernel_rfl)) (.cons (.flat (by kernel_rfl)) .nil))))))) (by kernel_rfl) (by kernel_rfl) rfl) rfl rfl) (TL.post (L42l1 p0 p1 p2 p3 p4 p5 p6 r1 v48 (w64 (p5 - p6)) v49 r141 h142) ?_))
    rintro e a1 h1 hp
    obtain ⟨rfl, hw⟩ := hp
    refine ⟨(st 65 [(2, iv p6), (3, pt 0 0), (4, pt 1 0), (7, iv r1), (8, accV 2 (List.length r141)), (9, iv v48)]), [cl 25 [iv p0, iv p1, iv p2, iv p3], cl 23 [iv p4, iv p5], accB 23 (List.length r141) (List.flatMap e23 r141)], ?_, hw⟩
    refine NX.bkX ?_
    refine NX.bk ?_
    refine NX.sq ?_
    refine TS.regionP (by kernel_rfl) ?_
    refine TI.runA 3 [2, 3, 4, 7, 8, 9] (a2 := (st 65 [(2, iv p6), (3, pt 0 0), (4, pt 1 0), (7, iv r1), (8, accV 2 (List.length r141)), (9, iv (w64 (v48 + 1)))])) (by kernel_rfl) ?_
    refine TI.done (by kernel_rfl) ?_
    exact Rd.again (a2 := (st 65 [(2, iv p6), (3, pt 0 0), (4, pt 1 0), (7, iv r1), (8, accV 2 (List.length r141)), (9, iv (w64 (v48 + 1)))])) (h2 := [cl 25 [iv p0, iv p1, iv p2, iv p3], cl 23 [iv p4, iv p5], accB 23 (List.length r141) (List.flatMap e23 r141)]) (Wk.anew (base := 0) (L := 0) (f := [0, 1, 2]) (by decide) (by decide) (Nat.le_of_ble_eq_true rfl) rfl (.cons (At.blk (by kernel_rfl) (RnB.lit (.cons (.flat (by kernel_rfl)) (.cons (.flat (by kernel_rfl)) (.cons (.flat (by kernel_rfl)) (.cons (.flat (by kernel_rfl)) .nil)))))) (.cons (At.blk (by kernel_rfl) (RnB.lit (.cons (.flat (by kernel_rfl)) (.cons (.flat (by kernel_rfl)) .nil)))) (.cons (At.acc (by kernel_rfl) rfl (fun _ => rfl)) (.nil _)))) (LRn.stx [2, 3, 4, 7, 8, 9] [iv p6, pt 0 0, pt 1 0, iv r1, accV 2 (List.length r141), iv (w64 (v48 + 1))] [iv p6, pt 0 0, pt 1 0, iv r1, accV 2 (List.length r141), iv (w64 (v48 + 1))] (.cons (.flat (by kernel_rfl)) (.cons (Rn.ptr _ _ _ (Nat.le_of_ble_eq_true rfl) rfl) (.cons (Rn.ptr _ _ _ (Nat.le_of_ble_eq_true rfl) rfl) (.cons (.flat (by kernel_rfl)) (.cons (Rn.acc (Nat.le_of_ble_eq_true rfl) rfl) (.cons (.flat (by kernel_rfl)) .nil)))))) (by kernel_rfl) (by kernel_rfl) rfl) rfl rfl) (ih r141 (w64 (v48 + 1)) _ hF)
  · replace hF := of_neg hF hc97
    refine TS.exit' (id := 0) (by kernel_rfl) ?_
    refine NX.sqX ?_
    have hF := Option.some.inj hF
    subst hF
    exact Rd.out (e := .exit 0) (by intro h; cases h) (And.intro rfl (Wk.anew (base := 0) (L := 0) (f := [2]) (by decide) (by decide) (Nat.le_of_ble_eq_true rfl) rfl (.cons (At.acc (by kernel_rfl) rfl (fun _ => rfl)) (.nil _)) (LRn.stx [8] [accV 0 (List.length v49)] [accV 2 (List.length v49)] (.cons (Rn.acc (Nat.le_of_ble_eq_true rfl) rfl) .nil) (by kernel_rfl) (by kernel_rfl) rfl) rfl rfl))
theorem B42 (p0 : Int) (p1 : Int) (p2 : Int) (p3 : Int) (p4 : Int) (p5 : Int) (p6 : Int) (r : (List (Int × Int))) (hF : F42 p0 p1 p2 p3 p4 p5 p6 = some r) : TS Try.prog 0 0 c42 (st 65 [(0, ag [iv p0, iv p1, iv p2, iv p3]), (1, ag [iv p4, iv p5]), (2, iv p6)]) [] (NX Try.prog 0 0 [] (FinP Try.prog Try.f42 0 (V42 0 r) (N42 0 r))) := by
  unfold F42 at hF
  refine TS.seqP (by kernel_rfl) ?_
  refine TS.regionP (by kernel_rfl) ?_
  refine TI.run 3 [2, 3, 4] [0, 1] (a2 := (st 65 [(2, iv p6), (3, pt 0 0), (4, pt 1 0)])) (h2 := [cl 25 [iv p0, iv p1, iv p2, iv p3], cl 23 [iv p4, iv p5]]) (by kernel_rfl) ?_
  refine TI.done (by kernel_rfl) ?_
  refine NX.sq ?_
  refine TS.seqP (by kernel_rfl) ?_
  have hX := of_do hF
  clear hF
  obtain ⟨r1, h2, hF⟩ := hX
  refine TS.regionP (by kernel_rfl) ?_
  refine TI.runA 4 [2, 3, 4, 13, 15] (a2 := (st 65 [(2, iv p6), (3, pt 0 0), (4, pt 1 0), (13, ag [iv p0, iv p1]), (15, ag [iv p2, iv p3])])) (by kernel_rfl) ?_
  refine TI.callF (C45 _ _ _ _ _ h2) (by kernel_rfl) (by kernel_rfl) ?_
  refine TI.runA 1 [2, 3, 4, 7] (a2 := (st 65 [(2, iv p6), (3, pt 0 0), (4, pt 1 0), (7, iv r1)])) (by kernel_rfl) ?_
  refine TI.done (by kernel_rfl) ?_
  refine NX.sq ?_
  refine TS.seqP (by kernel_rfl) ?_
  refine TS.regionP (by kernel_rfl) ?_
  refine TI.runA 1 [2, 3, 4, 7, 8] (a2 := (st 65 [(2, iv p6), (3, pt 0 0), (4, pt 1 0), (7, iv r1), (8, .slice none 0 0)])) (by kernel_rfl) ?_
  refine TI.done (by kernel_rfl) ?_
  refine NX.sq ?_
  refine TS.seqP (by kernel_rfl) ?_
  refine TS.seqP (by kernel_rfl) ?_
  refine TS.regionP (by kernel_rfl) ?_
  refine TI.runA 5 [2, 3, 4, 7, 8, 9] (a2 := (st 65 [(2, iv p6), (3, pt 0 0), (4, pt 1 0), (7, iv r1), (8, .slice none 0 0), (9, iv (w64 (p4 - p6)))])) (by kernel_rfl) ?_
  refine TI.done (by kernel_rfl) ?_
  refine NX.sq ?_
  refine TS.blockP (id := 0) (by kernel_rfl) ?_
  have hX := of_do hF
  clear hF
  obtain ⟨r143, h144, hF⟩ := hX
  refine TS.loopP (by kernel_rfl) (TL.weak (a2 := (st 65 [(2, iv p6), (3, pt 0 0), (4, pt 1 0), (7, iv r1), (8, accV 2 (List.length ([]))), (9, iv (w64 (p4 - p6)))])) (h2 := [cl 25 [iv p0, iv p1, iv p2, iv p3], cl 23 [iv p4, iv p5], accB 23 (List.length ([])) (List.flatMap e23 ([]))]) (Wk.anew (base := 0) (L := 0) (f := [0, 1, 2]) (by decide) (by decide) (Nat.le_of_ble_eq_true rfl) rfl (.cons (At.blk (by kernel_rfl) (RnB.lit (.cons (.flat (by kernel_rfl)) (.cons (.flat (by kernel_rfl)) (.cons (.flat (by kernel_rfl)) (.cons (.flat (by kernel_rfl)) .nil)))))) (.cons (At.blk (by kernel_rfl) (RnB.lit (.cons (.flat (by kernel_rfl)) (.cons (.flat (by kernel_rfl)) .nil)))) (.cons At.accN (.nil _)))) (LRn.stx [2, 3, 4, 7, 8, 9] [iv p6, pt 0 0, pt 1 0, iv r1, accV 2 (List.length ([])), iv (w64 (p4 - p6))] [iv p6, pt 0 0, pt 1 0, iv r1, .slice none 0 0, iv (w64 (p4 - p6))] (.cons (.flat (by kernel_rfl)) (.cons (Rn.ptr _ _ _ (Nat.le_of_ble_eq_true rfl) rfl) (.cons (Rn.ptr _ _ _ (Nat.le_of_ble_eq_true rfl) rfl) (.cons (.flat (by kernel_rfl)) (.cons (Rn.accN) (.cons (.flat (by kernel_rfl)) .nil)))))) (by kernel_rfl) (by kernel_rfl) rfl) rfl rfl) (TL.post (L42l0 p0 p1 p2 p3 p4 p5 p6 r1 ([]) (w64 (p4 - p6)) r143 h144) ?_))
  rintro e a1 h1 hp
  obtain ⟨rfl, hw⟩ := hp
  refine ⟨(st 65 [(8, accV 0 (List.length r143))]), [accB 23 (List.length r143) (List.flatMap e23 r143)], ?_, hw⟩
  refine NX.bkX ?_
  refine NX.sq ?_
  refine TS.seqP (by kernel_rfl) ?_
  refine TS.regionP (by kernel_rfl) ?_
  refine TI.runA 2 [6] (a2 := (st 65 [(6, accV 0 (List.length r143))])) (by kernel_rfl) ?_
  refine TI.done (by kernel_rfl) ?_
  refine NX.sq ?_
  refine TS.ret' (by kernel_rfl) ?_
  have hF := Option.some.inj hF
  subst hF
  exact ⟨.inr rfl, rfl, accV 0 (List.length r143), by kernel_rfl, WkV.made (L := 0) (f := [0]) (by decide) (by decide) rfl (.cons (At.acc (by kernel_rfl) rfl (fun _ => rfl)) (.nil _)) (Rn.acc (Nat.le_of_ble_eq_true rfl) rfl)⟩
theorem C42 (p0 : Int) (p1 : Int) (p2 : Int) (p3 : Int) (p4 : Int) (p5 : Int) (p6 : Int) (r : (List (Int × Int))) (hF : F42 p0 p1 p2 p3 p4 p5 p6 = some r) : PureSim Try.prog 42 [ag [iv p0, iv p1, iv p2, iv p3], ag [iv p4, iv p5], iv p6] [] (V42 0 r) (N42 0 r) :=
  PureSim.of_Fin Try.func42 (c := c42) (by kernel_rfl) (by kernel_rfl) 0 rfl [0, 1, 2] [] (by kernel_rfl) (B42 p0 p1 p2 p3 p4 p5 p6 r hF)

-- agonic/agoniclaw06.plus
noncomputable def c39 : Code := Try.f39.code
def F39 (p0 : Int) (p1 : Int) (p2 : Int) (p3 : Int) : Option (Int × Int) :=
  F43 (w64 (p0 + p2)) (w64 (p1 + p3)) >>= fun r1 =>
  some (r1.1, r1.2)
def V39 (b : Nat) (r : (Int × Int)) : Value := ag [iv r.1, iv r.2]
def N39 (b : Nat) (r : (Int × Int)) : List Blk := []
theorem B39 (p0 : Int) (p1 : Int) (p2 : Int) (p3 : Int) (r : (Int × Int)) (hF : F39 p0 p1 p2 p3 = some r) : TS Try.prog 0 0 c39 (st 16 [(0, ag [iv p0, iv p1]), (1, ag [iv p2, iv p3])]) [] (NX Try.prog 0 0 [] (FinP Try.prog Try.f39 0 (V39 0 r) (N39 0 r))) := by
  unfold F39 at hF
  refine TS.seqP (by kernel_rfl) ?_
  refine TS.regionP (by kernel_rfl) ?_
  refine TI.run 3 [2, 3, 4] [0, 1, 2] (a2 := (st 16 [(2, pt 0 0), (3, pt 1 0), (4, pt 2 0)])) (h2 := [cl 23 [iv p0, iv p1], cl 23 [iv p2, iv p3], cl 23 [iv 0, iv 0]]) (by kernel_rfl) ?_
  refine TI.done (by kernel_rfl) ?_
  refine NX.sq ?_
  refine TS.seqP (by kernel_rfl) ?_
  have hX := of_do hF
  clear hF
  obtain ⟨r1, h2, hF⟩ := hX
  refine TS.regionP (by kernel_rfl) ?_
  refine TI.run 10 [4, 9, 14] [2] (a2 := (st 16 [(4, pt 2 0), (9, iv (w64 (p0 + p2))), (14, iv (w64 (p1 + p3)))])) (h2 := [.dead, .dead, cl 23 [iv 0, iv 0]]) (by kernel_rfl) ?_
  refine TI.callF (C43 _ _ _ h2) (by kernel_rfl) (by kernel_rfl) ?_
  refine TI.run 1 [4] [2] (a2 := (st 16 [(4, pt 2 0)])) (h2 := [.dead, .dead, cl 23 [iv r1.1, iv r1.2]]) (by kernel_rfl) ?_
  refine TI.done (by kernel_rfl) ?_
  refine NX.sq ?_
  refine TS.ret' (by kernel_rfl) ?_
  have hF := Option.some.inj hF
  subst hF
  exact ⟨.inr rfl, rfl, ag [iv r1.1, iv r1.2], by kernel_rfl, WkV.flat0 (by kernel_rfl) (Nat.le_of_ble_eq_true rfl)⟩
theorem C39 (p0 : Int) (p1 : Int) (p2 : Int) (p3 : Int) (r : (Int × Int)) (hF : F39 p0 p1 p2 p3 = some r) : PureSim Try.prog 39 [ag [iv p0, iv p1], ag [iv p2, iv p3]] [] (V39 0 r) (N39 0 r) :=
  PureSim.of_Fin Try.func39 (c := c39) (by kernel_rfl) (by kernel_rfl) 0 rfl [0, 1] [] (by kernel_rfl) (B39 p0 p1 p2 p3 r hF)

-- agonic/agoniclaw06.MagnetCounted
noncomputable def c11 : Code := Try.f11.code
def S11_0 (p6 : Int) (r3 : (Int × Int)) (r5 : (Int × Int)) (r7 : ((Int × Int) × (Int × Int) × Int)) (r9 : (((Int × Int) × (Int × Int)) × Bool)) (r11 : (Int × Int)) : CAct := (st 139 [(1, .int .u8 p6), (7, pt 1 0), (8, pt 2 0), (9, iv r3.1), (11, iv r5.1), (14, pt 4 0), (15, iv r7.2.2), (17, .bool r9.2), (18, iv r11.1), (19, iv r11.2), (70, .bool false), (72, .bool false)])
def S11_1 (p6 : Int) (r3 : (Int × Int)) (r7 : ((Int × Int) × (Int × Int) × Int)) : CAct := (st 139 [(1, .int .u8 p6), (7, pt 1 0), (8, pt 2 0), (9, iv r3.1), (96, .bool false), (98, .bool false), (100, iv (w64 p6)), (101, ag [iv r7.2.1.1, iv r7.2.1.2]), (102, ag [iv r7.2.1.1, iv r7.2.1.2])])
def S11_2 (p6 : Int) (r3 : (Int × Int)) (r7 : ((Int × Int) × (Int × Int) × Int)) : CAct := (st 139 [(1, .int .u8 p6), (7, pt 1 0), (8, pt 2 0), (9, iv r3.1), (96, .bool false), (98, .bool true), (100, iv (w64 p6)), (101, ag [iv r7.2.1.1, iv r7.2.1.2]), (102, ag [iv r7.2.1.1, iv r7.2.1.2])])
def S11_3 (p6 : Int) (r3 : (Int × Int)) (r5 : (Int × Int)) (r7 : ((Int × Int) × (Int × Int) × Int)) (r9 : (((Int × Int) × (Int × Int)) × Bool)) (r11 : (Int × Int)) : CAct := (st 139 [(1, .int .u8 p6), (7, pt 1 0), (8, pt 2 0), (9, iv r3.1), (11, iv r5.1), (12, iv r5.2), (14, pt 4 0), (15, iv r7.2.2), (17, .bool r9.2), (18, iv r11.1), (19, iv r11.2), (69, .bool false)])
def S11_4 (p6 : Int) (r3 : (Int × Int)) (r5 : (Int × Int)) (r7 : ((Int × Int) × (Int × Int) × Int)) (r9 : (((Int × Int) × (Int × Int)) × Bool)) (r11 : (Int × Int)) : CAct := (st 139 [(1, .int .u8 p6), (7, pt 1 0), (8, pt 2 0), (9, iv r3.1), (11, iv r5.1), (14, pt 4 0), (15, iv r7.2.2), (17, .bool r9.2), (18, iv r11.1), (19, iv r11.2), (70, .bool false), (71, iv r5.2)])
def S11_5 (p6 : Int) (r3 : (Int × Int)) (r5 : (Int × Int)) (r7 : ((Int × Int) × (Int × Int) × Int)) (r9 : (((Int × Int) × (Int × Int)) × Bool)) (r11 : (Int × Int)) : CAct := (st 139 [(1, .int .u8 p6), (7, pt 1 0), (8, pt 2 0), (9, iv r3.1), (11, iv r5.1), (12, iv r5.2), (14, pt 4 0), (15, iv r7.2.2), (17, .bool r9.2), (18, iv r11.1), (19, iv r11.2), (68, iv r3.2)])
def S11_6 (p6 : Int) (r3 : (Int × Int)) (r5 : (Int × Int)) (r9 : (((Int × Int) × (Int × Int)) × Bool)) (r11 : (Int × Int)) : CAct := (st 139 [(1, .int .u8 p6), (7, pt 1 0), (8, pt 2 0), (9, iv r3.1), (11, iv r5.1), (14, pt 4 0), (17, .bool r9.2), (18, iv r11.1), (19, iv r11.2), (74, .bool false), (76, .bool false)])
def S11_7 (p6 : Int) (r3 : (Int × Int)) (r5 : (Int × Int)) (r9 : (((Int × Int) × (Int × Int)) × Bool)) (r11 : (Int × Int)) (r7 : ((Int × Int) × (Int × Int) × Int)) : CAct := (st 139 [(1, .int .u8 p6), (7, pt 1 0), (8, pt 2 0), (9, iv r3.1), (11, iv r5.1), (14, pt 4 0), (17, .bool r9.2), (18, iv r11.1), (19, iv r11.2), (74, .bool false), (75, iv r7.2.2)])
def S11_8 (p6 : Int) (r3 : (Int × Int)) (r5 : (Int × Int)) (r9 : (((Int × Int) × (Int × Int)) × Bool)) (r11 : (Int × Int)) : CAct := (st 139 [(1, .int .u8 p6), (7, pt 1 0), (8, pt 2 0), (9, iv r3.1), (11, iv r5.1), (14, pt 4 0), (17, .bool r9.2), (18, iv r11.1), (19, iv r11.2), (78, .bool false)])
def S11_9 (p6 : Int) (r3 : (Int × Int)) (r5 : (Int × Int)) (r11 : (Int × Int)) : CAct := (st 139 [(1, .int .u8 p6), (7, pt 1 0), (8, pt 2 0), (9, iv r3.1), (11, iv r5.1), (14, pt 4 0), (18, iv r11.1), (19, iv r11.2), (78, .bool false), (79, .bool true)])
def S11_10 (p6 : Int) (r3 : (Int × Int)) (r5 : (Int × Int)) (r11 : (Int × Int)) : CAct := (st 139 [(1, .int .u8 p6), (7, pt 1 0), (8, pt 2 0), (9, iv r3.1), (11, iv r5.1), (14, pt 4 0), (18, iv r11.1), (82, .bool false), (84, .bool false)])
def S11_11 (p6 : Int) (r3 : (Int × Int)) (r5 : (Int × Int)) (r11 : (Int × Int)) : CAct := (st 139 [(1, .int .u8 p6), (7, pt 1 0), (8, pt 2 0), (9, iv r3.1), (11, iv r5.1), (14, pt 4 0), (18, iv r11.1), (82, .bool false), (83, iv r11.2)])
def S11_12 (p6 : Int) (r3 : (Int × Int)) (r11 : (Int × Int)) (r5 : (Int × Int)) : CAct := (st 139 [(1, .int .u8 p6), (7, pt 1 0), (8, pt 2 0), (9, iv r3.1), (14, pt 4 0), (18, iv r11.1), (86, .bool false), (87, iv r5.1), (88, iv r3.1)])
def H11_13 (r1 : (((Int × Int) × (Int × Int)) × (Int × Int))) (r7 : ((Int × Int) × (Int × Int) × Int)) : List Blk := [.dead, cl 25 [iv r1.1.1.1, iv r1.1.1.2, iv r1.1.2.1, iv r1.1.2.2], cl 23 [iv r1.2.1, iv r1.2.2], .dead, cl 23 [iv r7.2.1.1, iv r7.2.1.2], .dead]
def S11_14 (p6 : Int) (r3 : (Int × Int)) (r20 : Int) : CAct := (st 139 [(1, .int .u8 p6), (7, pt 1 0), (8, pt 2 0), (9, iv r3.1), (96, .bool false), (98, .bool false), (100, iv (w64 p6)), (103, iv r20)])
def S11_15 (p6 : Int) (r3 : (Int × Int)) (r11 : (Int × Int)) : CAct := (st 139 [(1, .int .u8 p6), (7, pt 1 0), (8, pt 2 0), (9, iv r3.1), (14, pt 4 0), (18, iv r11.1), (86, .bool false), (89, .bool false)])
def S11_16 (p6 : Int) (r3 : (Int × Int)) (r11 : (Int × Int)) : CAct := (st 139 [(1, .int .u8 p6), (7, pt 1 0), (8, pt 2 0), (9, iv r3.1), (14, pt 4 0), (91, .bool false), (92, iv r11.1), (93, iv r3.1)])
def S11_17 (p6 : Int) (r3 : (Int × Int)) : CAct := (st 139 [(1, .int .u8 p6), (7, pt 1 0), (8, pt 2 0), (9, iv r3.1), (14, pt 4 0), (91, .bool false), (94, .bool false)])
def H11_18 (r1 : (((Int × Int) × (Int × Int)) × (Int × Int))) : List Blk := [.dead, cl 25 [iv r1.1.1.1, iv r1.1.1.2, iv r1.1.2.1, iv r1.1.2.2], cl 23 [iv r1.2.1, iv r1.2.2], .dead, .dead, .dead]
def S11_19 (p6 : Int) (r3 : (Int × Int)) : CAct := (st 139 [(1, .int .u8 p6), (7, pt 1 0), (8, pt 2 0), (9, iv r3.1), (14, pt 4 0), (96, .bool false), (97, iv r3.1)])
def S11_20 (p6 : Int) (r3 : (Int × Int)) : CAct := (st 139 [(1, .int .u8 p6), (7, pt 1 0), (8, pt 2 0), (9, iv r3.1), (106, .bool true)])
def H11_21 (r1 : (((Int × Int) × (Int × Int)) × (Int × Int))) (r28 : (List (Int × Int))) : List Blk := [cl 23 [iv r1.2.1, iv r1.2.2], accB 23 (List.length r28) (List.flatMap e23 r28)]
def F11l0 (p6 : Int) (r1 : (((Int × Int) × (Int × Int)) × (Int × Int))) (r3 : (Int × Int)) (r28 : (List (Int × Int))) (v39 : Int) (v40 : Int) : Option Int :=
    if decide (v40 < (List.length r28 : Int)) then
      if (0 : Int) ≤ v40 ∧ v40 < (List.length r28 : Int) then
        some (List.getD r28 (Int.toNat v40) (0, 0)) >>= fun o53 =>
        F39 r1.2.1 r1.2.2 o53.1 o53.2 >>= fun r55 =>
        F41 r55.1 r55.2 r55.1 r55.2 >>= fun r57 =>
        (
          if decide (r57 ≤ (w64 p6)) then
            some (w64 (v39 + 1))
          else
            some v39
        : Option Int) >>= fun m62 =>
        F11l0 p6 r1 r3 r28 m62 (w64 (v40 + 1))
      else none
    else
      some v39
  partial_fixpoint
def F11 (p0 : Int) (p1 : Int) (p2 : Int) (p3 : Int) (p4 : Int) (p5 : Int) (p6 : Int) (p7 : Int) : Option Bool :=
  F36 p0 p1 p2 p3 p4 p5 >>= fun r1 =>
  F34 r1.1.1.1 r1.1.1.2 r1.1.2.1 r1.1.2.2 r1.2.1 r1.2.2 (w64 p6) >>= fun r3 =>
  F34 r1.1.1.1 r1.1.1.2 r1.1.2.1 r1.1.2.2 r1.2.1 r1.2.2 (w64 ((w64 p6) + (w64 p7))) >>= fun r5 =>
  F28 r1.1.1.1 r1.1.1.2 r1.1.2.1 r1.1.2.2 r1.2.1 r1.2.2 >>= fun r7 =>
  F37 r1.1.1.1 r1.1.1.2 r1.1.2.1 r1.1.2.2 >>= fun r9 =>
  F34 r9.1.1.1 r9.1.1.2 r9.1.2.1 r9.1.2.2 r1.2.1 r1.2.2 (w64 p6) >>= fun r11 =>
  (
    if r3.2 != 0 then
      some (true)
    else
      if r5.2 != 0 then
        some (true)
      else
        if r7.2.2 != 0 then
          some (true)
        else
          if r9.2 then
            if r11.2 != 0 then
              some (true)
            else
              if decide (r5.1 < r3.1) then
                some (true)
              else
                if r11.1 != r3.1 then
                  some (true)
                else
                  F41 r7.2.1.1 r7.2.1.2 r7.2.1.1 r7.2.1.2 >>= fun r20 =>
                  if r3.1 == 0 then
                    if decide ((w64 p6) < r20) then
                      some (false)
                    else
                      some (true)
                  else
                    if decide ((w64 p6) < r20) then
                      some (true)
                    else
                      some (false)
          else
            some (true)
  : Option Bool) >>= fun m25 =>
  if m25 then
    some false
  else
    F43 (w64 (0 - r1.2.1)) (w64 (0 - r1.2.2)) >>= fun r26 =>
    F42 r1.1.1.1 r1.1.1.2 r1.1.2.1 r1.1.2.2 r26.1 r26.2 16 >>= fun r28 =>
    F11l0 p6 r1 r3 r28 0 0 >>= fun r65 =>
    (
      if r65 == r3.1 then
        F22 >>= fun r68 =>
        some (r68)
      else
        some (false)
    : Option Bool) >>= fun m70 =>
    some m70
def V11 (b : Nat) (r : Bool) : Value := .bool r
def N11 (b : Nat) (r : Bool) : List Blk := []
def P11l0 (p6 : Int) (r1 : (((Int × Int) × (Int × Int)) × (Int × Int))) (r3 : (Int × Int)) (r28 : (List (Int × Int))) (r : Int) : Post := fun e a h => e = .exit 0 ∧ Wk Try.prog 0 0 a h (st 139 [(9, iv r3.1), (20, iv r)]) []
theorem L11l0 (p6 : Int) (r1 : (((Int × Int) × (Int × Int)) × (Int × Int))) (r3 : (Int × Int)) (r28 : (List (Int × Int))) (v39 : Int) (v40 : Int) (r : Int) (hF : F11l0 p6 r1 r3 r28 v39 v40 = some r) : TL Try.prog 0 0 c11.s2.s2.s2.s2.s2.s2.s2.s2.s2.s1.s2.bd.bd (st 139 [(1, .int .u8 p6), (8, pt 0 0), (9, iv r3.1), (20, iv v39), (115, accV 1 (List.length r28)), (116, iv (List.length r28 : Int)), (117, iv v40)]) (H11_21 r1 r28) (P11l0 p6 r1 r3 r28 r) := by
  refine F11l0.partial_correctness p6 r1 r3 r28 (motive := fun v39 v40 r => TL Try.prog 0 0 c11.s2.s2.s2.s2.s2.s2.s2.s2.s2.s1.s2.bd.bd (st 139 [(1, .int .u8 p6), (8, pt 0 0), (9, iv r3.1), (20, iv v39), (115, accV 1 (List.length r28)), (116, iv (List.length r28 : Int)), (117, iv v40)]) (H11_21 r1 r28) (P11l0 p6 r1 r3 r28 r)) ?_ v39 v40 r hF
  clear hF r v39 v40
  intro again ih v39 v40 r hF
  refine TL.round ?_
  refine TS.seqP (by kernel_rfl) ?_
  refine TS.regionP (by kernel_rfl) ?_
  refine TI.runA 1 [1, 8, 9, 20, 115, 116, 117, 118] (a2 := (st 139 [(1, .int .u8 p6), (8, pt 0 0), (9, iv r3.1), (20, iv v39), (115, accV 1 (List.length r28)), (116, iv (List.length r28 : Int)), (117, iv v40), (118, .bool (decide (v40 < (List.length r28 : Int))))])) (by kernel_rfl) ?_
  refine TI.done (by kernel_rfl) ?_
  refine NX.sq ?_
  refine TS.seqP (by kernel_rfl) ?_
  refine TS.condP (o := (.tmp 118)) (b := decide (v40 < (List.length r28 : Int))) (by kernel_rfl) (by kernel_rfl) (fun hc51 => ?_) (fun hc51 => ?_)
  · replace hF := of_pos hF hc51
    refine TS.skip' (by kernel_rfl) ?_
    refine NX.sq ?_
    refine TS.seqP (by kernel_rfl) ?_
    refine TS.blockP (id := 1) (by kernel_rfl) ?_
    refine TS.seqP (by kernel_rfl) ?_
    have hX := of_guard hF
    clear hF
    obtain ⟨hg52, hF⟩ := hX
    have hX := of_do hF
    clear hF
    obtain ⟨o53, h54, hF⟩ := hX
    replace h54 := Option.some.inj h54
    refine TS.regionP (by kernel_rfl) ?_
    refine TI.op (q := { val := .pointer (some ⟨1, 0 + (Int.toNat v40) * 2, none⟩) }) (q_ixAcc (P := Try.prog) (t := 86) (s := 2) (e := 23) 1 (List.length r28) (by kernel_rfl) hg52 (by kernel_rfl) (by kernel_rfl)) [1, 8, 9, 20, 115, 116, 117, 119] [0, 1] (a2 := (st 139 [(1, .int .u8 p6), (8, pt 0 0), (9, iv r3.1), (20, iv v39), (115, accV 1 (List.length r28)), (116, iv (List.length r28 : Int)), (117, iv v40), (119, .pointer (some ⟨1, 0 + (Int.toNat v40) * 2, none⟩))])) (h2 := (H11_21 r1 r28)) (by kernel_rfl) ?_
    refine TI.op (q := { val := ag [iv o53.1, iv o53.2] }) (q_eqv (q_ldA (P := Try.prog) (hp := (H11_21 r1 r28)) (t := 23) (b := 1) (off := 0 + (Int.toNat v40) * 2) (l := r28) (enc := e23) (s := 2) (T := 23) (i := Int.toNat v40) (by kernel_rfl) (accB_at (h := (H11_21 r1 r28)) (n := List.length r28) (i := Int.toNat v40) (by kernel_rfl) (by first | omega | (simp only [List.length_set, List.length_replicate, List.length_cons, List.length_nil, List.length_append]; omega))) (by kernel_rfl) (by kernel_rfl) (fun _ => rfl) (by omega) (by first | omega | (simp only [List.length_set, List.length_replicate, List.length_cons, List.length_nil, List.length_append]; omega)) (0, 0)) (congrArg (fun (z : (Int × Int)) => ({ val := ag [iv z.1, iv z.2] } : QRes)) h54)) [1, 8, 9, 20, 115, 116, 117, 120] [0, 1] (a2 := (st 139 [(1, .int .u8 p6), (8, pt 0 0), (9, iv r3.1), (20, iv v39), (115, accV 1 (List.length r28)), (116, iv (List.length r28 : Int)), (117, iv v40), (120, ag [iv o53.1, iv o53.2])])) (h2 := (H11_21 r1 r28)) (by kernel_rfl) ?_
    refine TI.run 2 [1, 8, 9, 20, 22, 115, 116, 117] [0, 1, 2] (a2 := (st 139 [(1, .int .u8 p6), (8, pt 0 0), (9, iv r3.1), (20, iv v39), (22, pt 2 0), (115, accV 1 (List.length r28)), (116, iv (List.length r28 : Int)), (117, iv v40)])) (h2 := [cl 23 [iv r1.2.1, iv r1.2.2], accB 23 (List.length r28) (List.flatMap e23 r28), cl 23 [iv o53.1, iv o53.2]]) (by kernel_rfl) ?_
    refine TI.done (by kernel_rfl) ?_
    refine NX.sq ?_
    refine TS.seqP (by kernel_rfl) ?_
    have hX := of_do hF
    clear hF
    obtain ⟨r55, h56, hF⟩ := hX
    refine TS.regionP (by kernel_rfl) ?_
    refine TI.run 2 [1, 8, 9, 20, 115, 116, 117, 121, 122] [0, 1] (a2 := (st 139 [(1, .int .u8 p6), (8, pt 0 0), (9, iv r3.1), (20, iv v39), (115, accV 1 (List.length r28)), (116, iv (List.length r28 : Int)), (117, iv v40), (121, ag [iv r1.2.1, iv r1.2.2]), (122, ag [iv o53.1, iv o53.2])])) (h2 := [cl 23 [iv r1.2.1, iv r1.2.2], accB 23 (List.length r28) (List.flatMap e23 r28), .dead]) (by kernel_rfl) ?_
    refine TI.callF (C39 _ _ _ _ _ h56) (by kernel_rfl) (by kernel_rfl) ?_
    refine TI.run 2 [1, 8, 9, 20, 23, 115, 116, 117] [0, 1, 3] (a2 := (st 139 [(1, .int .u8 p6), (8, pt 0 0), (9, iv r3.1), (20, iv v39), (23, pt 3 0), (115, accV 1 (List.length r28)), (116, iv (List.length r28 : Int)), (117, iv v40)])) (h2 := [cl 23 [iv r1.2.1, iv r1.2.2], accB 23 (List.length r28) (List.flatMap e23 r28), .dead, cl 23 [iv r55.1, iv r55.2]]) (by kernel_rfl) ?_
    refine TI.done (by kernel_rfl) ?_
    refine NX.sq ?_
    refine TS.seqP (by kernel_rfl) ?_
    have hX := of_do hF
    clear hF
    obtain ⟨r57, h58, hF⟩ := hX
    refine TS.regionP (by kernel_rfl) ?_
    refine TI.run 2 [1, 8, 9, 20, 115, 116, 117, 124, 125] [0, 1] (a2 := (st 139 [(1, .int .u8 p6), (8, pt 0 0), (9, iv r3.1), (20, iv v39), (115, accV 1 (List.length r28)), (116, iv (List.length r28 : Int)), (117, iv v40), (124, ag [iv r55.1, iv r55.2]), (125, ag [iv r55.1, iv r55.2])])) (h2 := [cl 23 [iv r1.2.1, iv r1.2.2], accB 23 (List.length r28) (List.flatMap e23 r28), .dead, .dead]) (by kernel_rfl) ?_
    refine TI.callF (C41 _ _ _ _ _ h58) (by kernel_rfl) (by kernel_rfl) ?_
    refine TI.runA 3 [1, 8, 9, 20, 115, 116, 117, 129] (a2 := (st 139 [(1, .int .u8 p6), (8, pt 0 0), (9, iv r3.1), (20, iv v39), (115, accV 1 (List.length r28)), (116, iv (List.length r28 : Int)), (117, iv v40), (129, .bool (decide (r57 ≤ (w64 p6))))])) (by kernel_rfl) ?_
    refine TI.done (by kernel_rfl) ?_
    refine NX.sq ?_
    have hX := of_do hF
    clear hF
    obtain ⟨m62, hm63, hF⟩ := hX
    have hK : NX Try.prog 0 0 [.bk 1, .sq c11.s2.s2.s2.s2.s2.s2.s2.s2.s2.s1.s2.bd.bd.s2.s2.s2] (Rd Try.prog 0 0 c11.s2.s2.s2.s2.s2.s2.s2.s2.s2.s1.s2.bd.bd (P11l0 p6 r1 r3 r28 r)) .normal (st 139 [(1, .int .u8 p6), (8, pt 0 0), (9, iv r3.1), (20, iv m62), (115, accV 1 (List.length r28)), (116, iv (List.length r28 : Int)), (117, iv v40)]) (H11_21 r1 r28) := by
      refine NX.bk ?_
      refine NX.sq ?_
      refine TS.regionP (by kernel_rfl) ?_
      refine TI.runA 2 [1, 8, 9, 20, 115, 116, 117] (a2 := (st 139 [(1, .int .u8 p6), (8, pt 0 0), (9, iv r3.1), (20, iv m62), (115, accV 1 (List.length r28)), (116, iv (List.length r28 : Int)), (117, iv (w64 (v40 + 1)))])) (by kernel_rfl) ?_
      refine TI.done (by kernel_rfl) ?_
      exact Rd.again (a2 := (st 139 [(1, .int .u8 p6), (8, pt 0 0), (9, iv r3.1), (20, iv m62), (115, accV 1 (List.length r28)), (116, iv (List.length r28 : Int)), (117, iv (w64 (v40 + 1)))])) (h2 := (H11_21 r1 r28)) (Wk.anew (base := 0) (L := 0) (f := [0, 1]) (by decide) (by decide) (Nat.le_of_ble_eq_true rfl) rfl (.cons (At.blk (by kernel_rfl) (RnB.lit (.cons (.flat (by kernel_rfl)) (.cons (.flat (by kernel_rfl)) .nil)))) (.cons (At.acc (by kernel_rfl) rfl (fun _ => rfl)) (.nil _))) (LRn.stx [1, 8, 9, 20, 115, 116, 117] [.int .u8 p6, pt 0 0, iv r3.1, iv m62, accV 1 (List.length r28), iv (List.length r28 : Int), iv (w64 (v40 + 1))] [.int .u8 p6, pt 0 0, iv r3.1, iv m62, accV 1 (List.length r28), iv (List.length r28 : Int), iv (w64 (v40 + 1))] (.cons (.flat (by kernel_rfl)) (.cons (Rn.ptr _ _ _ (Nat.le_of_ble_eq_true rfl) rfl) (.cons (.flat (by kernel_rfl)) (.cons (.flat (by kernel_rfl)) (.cons (Rn.acc (Nat.le_of_ble_eq_true rfl) rfl) (.cons (.flat (by kernel_rfl)) (.cons (.flat (by kernel_rfl)) .nil))))))) (by kernel_rfl) (by kernel_rfl) rfl) rfl rfl) (ih m62 (w64 (v40 + 1)) _ hF)
    clear hF
    have hF := hm63
    clear hm63
    refine TS.start ?_
    refine TS.condP (o := (.tmp 129)) (b := decide (r57 ≤ (w64 p6))) (by kernel_rfl) (by kernel_rfl) (fun hc64 => ?_) (fun hc64 => ?_)
    · replace hF := of_pos hF hc64
      refine TS.regionP (by kernel_rfl) ?_
      refine TI.runA 3 [1, 8, 9, 20, 115, 116, 117] (a2 := (st 139 [(1, .int .u8 p6), (8, pt 0 0), (9, iv r3.1), (20, iv (w64 (v39 + 1))), (115, accV 1 (List.length r28)), (116, iv (List.length r28 : Int)), (117, iv v40)])) (by kernel_rfl) ?_
      refine TI.done (by kernel_rfl) ?_
      have hF := Option.some.inj hF
      subst hF
      exact TS.weak (Wk.anew (base := 0) (L := 0) (f := [0, 1]) (by decide) (by decide) (Nat.le_of_ble_eq_true rfl) rfl (.cons (At.blk (by kernel_rfl) (RnB.lit (.cons (.flat (by kernel_rfl)) (.cons (.flat (by kernel_rfl)) .nil)))) (.cons (At.acc (by kernel_rfl) rfl (fun _ => rfl)) (.nil _))) (LRn.stx [1, 8, 9, 20, 115, 116, 117] [.int .u8 p6, pt 0 0, iv r3.1, iv (w64 (v39 + 1)), accV 1 (List.length r28), iv (List.length r28 : Int), iv v40] [.int .u8 p6, pt 0 0, iv r3.1, iv (w64 (v39 + 1)), accV 1 (List.length r28), iv (List.length r28 : Int), iv v40] (.cons (.flat (by kernel_rfl)) (.cons (Rn.ptr _ _ _ (Nat.le_of_ble_eq_true rfl) rfl) (.cons (.flat (by kernel_rfl)) (.cons (.flat (by kernel_rfl)) (.cons (Rn.acc (Nat.le_of_ble_eq_true rfl) rfl) (.cons (.flat (by kernel_rfl)) (.cons (.flat (by kernel_rfl)) .nil))))))) (by kernel_rfl) (by kernel_rfl) rfl) rfl rfl) hK
    · replace hF := of_neg hF hc64
      refine TS.skip' (by kernel_rfl) ?_
      have hF := Option.some.inj hF
      subst hF
      exact TS.weak (Wk.anew (base := 0) (L := 0) (f := [0, 1]) (by decide) (by decide) (Nat.le_of_ble_eq_true rfl) rfl (.cons (At.blk (by kernel_rfl) (RnB.lit (.cons (.flat (by kernel_rfl)) (.cons (.flat (by kernel_rfl)) .nil)))) (.cons (At.acc (by kernel_rfl) rfl (fun _ => rfl)) (.nil _))) (LRn.stx [1, 8, 9, 20, 115, 116, 117] [.int .u8 p6, pt 0 0, iv r3.1, iv v39, accV 1 (List.length r28), iv (List.length r28 : Int), iv v40] [.int .u8 p6, pt 0 0, iv r3.1, iv v39, accV 1 (List.length r28), iv (List.length r28 : Int), iv v40] (.cons (.flat (by kernel_rfl)) (.cons (Rn.ptr _ _ _ (Nat.le_of_ble_eq_true rfl) rfl) (.cons (.flat (by kernel_rfl)) (.cons (.flat (by kernel_rfl)) (.cons (Rn.acc (Nat.le_of_ble_eq_true rfl) rfl) (.cons (.flat (by kernel_rfl)) (.cons (.flat (by kernel_rfl)) .nil))))))) (by kernel_rfl) (by kernel_rfl) rfl) rfl rfl) hK
  · replace hF := of_neg hF hc51
    refine TS.exit' (id := 0) (by kernel_rfl) ?_
    refine NX.sqX ?_
    have hF := Option.some.inj hF
    subst hF
    exact Rd.out (e := .exit 0) (by intro h; cases h) (And.intro rfl (Wk.anew (base := 0) (L := 0) (f := []) (by decide) (by decide) (Nat.le_of_ble_eq_true rfl) rfl (.nil _) (LRn.stx [9, 20] [iv r3.1, iv v39] [iv r3.1, iv v39] (.cons (.flat (by kernel_rfl)) (.cons (.flat (by kernel_rfl)) .nil)) (by kernel_rfl) (by kernel_rfl) rfl) rfl rfl))
theorem B11 (p0 : Int) (p1 : Int) (p2 : Int) (p3 : Int) (p4 : Int) (p5 : Int) (p6 : Int) (p7 : Int) (r : Bool) (hF : F11 p0 p1 p2 p3 p4 p5 p6 p7 = some r) : TS Try.prog 0 0 c11 (st 139 [(0, ag [.int .i8 p0, .int .i8 p1, .int .i8 p2, .int .i8 p3, .int .i16 p4, .int .i16 p5]), (1, .int .u8 p6), (2, .int .u8 p7)]) [] (NX Try.prog 0 0 [] (FinP Try.prog Try.f11 0 (V11 0 r) (N11 0 r))) := by
  unfold F11 at hF
  refine TS.seqP (by kernel_rfl) ?_
  refine TS.regionP (by kernel_rfl) ?_
  refine TI.run 2 [1, 2, 3] [0] (a2 := (st 139 [(1, .int .u8 p6), (2, .int .u8 p7), (3, pt 0 0)])) (h2 := [cl 77 [.int .i8 p0, .int .i8 p1, .int .i8 p2, .int .i8 p3, .int .i16 p4, .int .i16 p5]]) (by kernel_rfl) ?_
  refine TI.done (by kernel_rfl) ?_
  refine NX.sq ?_
  refine TS.seqP (by kernel_rfl) ?_
  have hX := of_do hF
  clear hF
  obtain ⟨r1, h2, hF⟩ := hX
  refine TS.regionP (by kernel_rfl) ?_
  refine TI.run 1 [1, 2, 25] [] (a2 := (st 139 [(1, .int .u8 p6), (2, .int .u8 p7), (25, ag [.int .i8 p0, .int .i8 p1, .int .i8 p2, .int .i8 p3, .int .i16 p4, .int .i16 p5])])) (h2 := [.dead]) (by kernel_rfl) ?_
  refine TI.callF (C36 _ _ _ _ _ _ _ h2) (by kernel_rfl) (by kernel_rfl) ?_
  refine TI.run 7 [1, 2, 7, 8] [1, 2] (a2 := (st 139 [(1, .int .u8 p6), (2, .int .u8 p7), (7, pt 1 0), (8, pt 2 0)])) (h2 := [.dead, cl 25 [iv r1.1.1.1, iv r1.1.1.2, iv r1.1.2.1, iv r1.1.2.2], cl 23 [iv r1.2.1, iv r1.2.2]]) (by kernel_rfl) ?_
  refine TI.done (by kernel_rfl) ?_
  refine NX.sq ?_
  refine TS.seqP (by kernel_rfl) ?_
  have hX := of_do hF
  clear hF
  obtain ⟨r3, h4, hF⟩ := hX
  refine TS.regionP (by kernel_rfl) ?_
  refine TI.runA 4 [1, 2, 7, 8, 30, 31, 33] (a2 := (st 139 [(1, .int .u8 p6), (2, .int .u8 p7), (7, pt 1 0), (8, pt 2 0), (30, ag [iv r1.1.1.1, iv r1.1.1.2, iv r1.1.2.1, iv r1.1.2.2]), (31, ag [iv r1.2.1, iv r1.2.2]), (33, iv (w64 p6))])) (by kernel_rfl) ?_
  refine TI.callF (C34 _ _ _ _ _ _ _ _ h4) (by kernel_rfl) (by kernel_rfl) ?_
  refine TI.runA 5 [1, 2, 7, 8, 9, 10] (a2 := (st 139 [(1, .int .u8 p6), (2, .int .u8 p7), (7, pt 1 0), (8, pt 2 0), (9, iv r3.1), (10, iv r3.2)])) (by kernel_rfl) ?_
  refine TI.done (by kernel_rfl) ?_
  refine NX.sq ?_
  refine TS.seqP (by kernel_rfl) ?_
  have hX := of_do hF
  clear hF
  obtain ⟨r5, h6, hF⟩ := hX
  refine TS.regionP (by kernel_rfl) ?_
  refine TI.runA 7 [1, 7, 8, 9, 10, 38, 39, 44] (a2 := (st 139 [(1, .int .u8 p6), (7, pt 1 0), (8, pt 2 0), (9, iv r3.1), (10, iv r3.2), (38, ag [iv r1.1.1.1, iv r1.1.1.2, iv r1.1.2.1, iv r1.1.2.2]), (39, ag [iv r1.2.1, iv r1.2.2]), (44, iv (w64 ((w64 p6) + (w64 p7))))])) (by kernel_rfl) ?_
  refine TI.callF (C34 _ _ _ _ _ _ _ _ h6) (by kernel_rfl) (by kernel_rfl) ?_
  refine TI.runA 5 [1, 7, 8, 9, 10, 11, 12] (a2 := (st 139 [(1, .int .u8 p6), (7, pt 1 0), (8, pt 2 0), (9, iv r3.1), (10, iv r3.2), (11, iv r5.1), (12, iv r5.2)])) (by kernel_rfl) ?_
  refine TI.done (by kernel_rfl) ?_
  refine NX.sq ?_
  refine TS.seqP (by kernel_rfl) ?_
  have hX := of_do hF
  clear hF
  obtain ⟨r7, h8, hF⟩ := hX
  refine TS.regionP (by kernel_rfl) ?_
  refine TI.runA 2 [1, 7, 8, 9, 10, 11, 12, 49, 50] (a2 := (st 139 [(1, .int .u8 p6), (7, pt 1 0), (8, pt 2 0), (9, iv r3.1), (10, iv r3.2), (11, iv r5.1), (12, iv r5.2), (49, ag [iv r1.1.1.1, iv r1.1.1.2, iv r1.1.2.1, iv r1.1.2.2]), (50, ag [iv r1.2.1, iv r1.2.2])])) (by kernel_rfl) ?_
  refine TI.callF (C28 _ _ _ _ _ _ _ h8) (by kernel_rfl) (by kernel_rfl) ?_
  refine TI.run 9 [1, 7, 8, 9, 10, 11, 12, 14, 15] [1, 2, 4] (a2 := (st 139 [(1, .int .u8 p6), (7, pt 1 0), (8, pt 2 0), (9, iv r3.1), (10, iv r3.2), (11, iv r5.1), (12, iv r5.2), (14, pt 4 0), (15, iv r7.2.2)])) (h2 := [.dead, cl 25 [iv r1.1.1.1, iv r1.1.1.2, iv r1.1.2.1, iv r1.1.2.2], cl 23 [iv r1.2.1, iv r1.2.2], .dead, cl 23 [iv r7.2.1.1, iv r7.2.1.2]]) (by kernel_rfl) ?_
  refine TI.done (by kernel_rfl) ?_
  refine NX.sq ?_
  refine TS.seqP (by kernel_rfl) ?_
  have hX := of_do hF
  clear hF
  obtain ⟨r9, h10, hF⟩ := hX
  refine TS.regionP (by kernel_rfl) ?_
  refine TI.runA 1 [1, 7, 8, 9, 10, 11, 12, 14, 15, 56] (a2 := (st 139 [(1, .int .u8 p6), (7, pt 1 0), (8, pt 2 0), (9, iv r3.1), (10, iv r3.2), (11, iv r5.1), (12, iv r5.2), (14, pt 4 0), (15, iv r7.2.2), (56, ag [iv r1.1.1.1, iv r1.1.1.2, iv r1.1.2.1, iv r1.1.2.2])])) (by kernel_rfl) ?_
  refine TI.callF (C37 _ _ _ _ _ h10) (by kernel_rfl) (by kernel_rfl) ?_
  refine TI.run 6 [1, 7, 8, 9, 10, 11, 12, 14, 15, 16, 17] [1, 2, 4, 5] (a2 := (st 139 [(1, .int .u8 p6), (7, pt 1 0), (8, pt 2 0), (9, iv r3.1), (10, iv r3.2), (11, iv r5.1), (12, iv r5.2), (14, pt 4 0), (15, iv r7.2.2), (16, pt 5 0), (17, .bool r9.2)])) (h2 := [.dead, cl 25 [iv r1.1.1.1, iv r1.1.1.2, iv r1.1.2.1, iv r1.1.2.2], cl 23 [iv r1.2.1, iv r1.2.2], .dead, cl 23 [iv r7.2.1.1, iv r7.2.1.2], cl 25 [iv r9.1.1.1, iv r9.1.1.2, iv r9.1.2.1, iv r9.1.2.2]]) (by kernel_rfl) ?_
  refine TI.done (by kernel_rfl) ?_
  refine NX.sq ?_
  refine TS.seqP (by kernel_rfl) ?_
  have hX := of_do hF
  clear hF
  obtain ⟨r11, h12, hF⟩ := hX
  refine TS.regionP (by kernel_rfl) ?_
  refine TI.run 4 [1, 7, 8, 9, 10, 11, 12, 14, 15, 17, 61, 62, 64] [1, 2, 4] (a2 := (st 139 [(1, .int .u8 p6), (7, pt 1 0), (8, pt 2 0), (9, iv r3.1), (10, iv r3.2), (11, iv r5.1), (12, iv r5.2), (14, pt 4 0), (15, iv r7.2.2), (17, .bool r9.2), (61, ag [iv r9.1.1.1, iv r9.1.1.2, iv r9.1.2.1, iv r9.1.2.2]), (62, ag [iv r1.2.1, iv r1.2.2]), (64, iv (w64 p6))])) (h2 := (H11_13 r1 r7)) (by kernel_rfl) ?_
  refine TI.callF (C34 _ _ _ _ _ _ _ _ h12) (by kernel_rfl) (by kernel_rfl) ?_
  refine TI.runA 5 [1, 7, 8, 9, 10, 11, 12, 14, 15, 17, 18, 19] (a2 := (st 139 [(1, .int .u8 p6), (7, pt 1 0), (8, pt 2 0), (9, iv r3.1), (10, iv r3.2), (11, iv r5.1), (12, iv r5.2), (14, pt 4 0), (15, iv r7.2.2), (17, .bool r9.2), (18, iv r11.1), (19, iv r11.2)])) (by kernel_rfl) ?_
  refine TI.done (by kernel_rfl) ?_
  refine NX.sq ?_
  refine TS.seqP (by kernel_rfl) ?_
  refine TS.seqP (by kernel_rfl) ?_
  have hX := of_do hF
  clear hF
  obtain ⟨m25, hm72, hF⟩ := hX
  have hK : NX Try.prog 0 0 [.sq c11.s2.s2.s2.s2.s2.s2.s2.s1.s2, .sq c11.s2.s2.s2.s2.s2.s2.s2.s2] (FinP Try.prog Try.f11 0 (V11 0 r) (N11 0 r)) .normal (st 139 [(1, .int .u8 p6), (7, pt 1 0), (8, pt 2 0), (9, iv r3.1), (106, .bool m25)]) (H11_18 r1) := by
    refine NX.sq ?_
    cases m25 with
    | true =>
      replace hF := of_pos hF rfl
      refine TS.condTP (o := (.tmp 106)) (by kernel_rfl) (by kernel_rfl) ?_
      refine TS.seqP (by kernel_rfl) ?_
      refine TS.regionP (by kernel_rfl) ?_
      refine TI.run 1 [6] [] (a2 := (st 139 [(6, .bool false)])) (h2 := [.dead, .dead, .dead, .dead, .dead, .dead]) (by kernel_rfl) ?_
      refine TI.done (by kernel_rfl) ?_
      refine NX.sq ?_
      refine TS.ret' (by kernel_rfl) ?_
      refine NX.sqR ?_
      have hF := Option.some.inj hF
      subst hF
      exact ⟨.inr rfl, rfl, .bool false, by kernel_rfl, WkV.flat0 (by kernel_rfl) (Nat.le_of_ble_eq_true rfl)⟩
    | false =>
      replace hF := of_neg hF rfl
      refine TS.condFP (o := (.tmp 106)) (by kernel_rfl) (by kernel_rfl) ?_
      refine TS.skip' (by kernel_rfl) ?_
      refine NX.sq ?_
      refine TS.seqP (by kernel_rfl) ?_
      refine TS.regionP (by kernel_rfl) ?_
      refine TI.runA 1 [1, 7, 8, 9, 20] (a2 := (st 139 [(1, .int .u8 p6), (7, pt 1 0), (8, pt 2 0), (9, iv r3.1), (20, iv 0)])) (by kernel_rfl) ?_
      refine TI.done (by kernel_rfl) ?_
      refine NX.sq ?_
      refine TS.seqP (by kernel_rfl) ?_
      refine TS.seqP (by kernel_rfl) ?_
      have hX := of_do hF
      clear hF
      obtain ⟨r26, h27, hF⟩ := hX
      have hX := of_do hF
      clear hF
      obtain ⟨r28, h29, hF⟩ := hX
      have hT : ∀ e ∈ ([⟨43, [iv (w64 (0 - r1.2.1)), iv (w64 (0 - r1.2.2))], (H11_18 r1), ag [iv r26.1, iv r26.2], []⟩, ⟨42, [ag [iv r1.1.1.1, iv r1.1.1.2, iv r1.1.2.1, iv r1.1.2.2], ag [iv r26.1, iv r26.2], iv 16], (H11_18 r1), accV 6 (List.length r28), [accB 23 (List.length r28) (List.flatMap e23 r28)]⟩] : List Entry), PureSim Try.prog e.g e.args e.h e.v e.new := by
        intro e he
        simp only [List.mem_cons, List.not_mem_nil, or_false] at he
        rcases he with rfl | rfl
        · exact PureSim.anyK (C43 _ _ _ h27) (by kernel_rfl)
        · exact (PureSim.ren (hc := []) (fun i => List.getD [] i (0, 0)) (C42 _ _ _ _ _ _ _ _ h29) (.nil _) (.cons (.flat (by kernel_rfl)) (.cons (.flat (by kernel_rfl)) (.cons (.flat (by kernel_rfl)) .nil))) (Rn.acc (i' := 6) (Nat.le_of_ble_eq_true rfl) rfl) (newflat_cons (accB_flat (fun _ => rfl)) newflat_nil))
      refine TS.drawP [⟨43, [iv (w64 (0 - r1.2.1)), iv (w64 (0 - r1.2.2))], (H11_18 r1), ag [iv r26.1, iv r26.2], []⟩, ⟨42, [ag [iv r1.1.1.1, iv r1.1.1.2, iv r1.1.2.1, iv r1.1.2.2], ag [iv r26.1, iv r26.2], iv 16], (H11_18 r1), accV 6 (List.length r28), [accB 23 (List.length r28) (List.flatMap e23 r28)]⟩] hT mixed (by kernel_rfl) 11 (by kernel_rfl) [1, 8, 9, 20, 115, 116, 117] [2, 6] (a2 := (st 139 [(1, .int .u8 p6), (8, pt 2 0), (9, iv r3.1), (20, iv 0), (115, accV 6 (List.length r28)), (116, iv (List.length r28 : Int)), (117, iv 0)])) (h2 := [.dead, .dead, cl 23 [iv r1.2.1, iv r1.2.2], .dead, .dead, .dead, accB 23 (List.length r28) (List.flatMap e23 r28)]) ?_ ?_
      · refine QJ.run (s1 := (qs (st 139 [(1, .int .u8 p6), (7, pt 1 0), (8, pt 2 0), (9, iv r3.1), (20, iv 0), (107, ag [iv r1.1.1.1, iv r1.1.1.2, iv r1.1.2.1, iv r1.1.2.2]), (108, pt 2 0), (109, iv r1.2.1), (110, iv (w64 (0 - r1.2.1))), (111, pt 2 1), (112, iv r1.2.2), (113, iv (w64 (0 - r1.2.2)))]) (H11_18 r1) [] [])) 7 (by kernel_rfl) (by kernel_rfl) ?_
        refine QJ.op (q := { val := ag [iv r26.1, iv r26.2], new := [] }) (by decide) (qOf_call (g := 43) (args := [iv (w64 (0 - r1.2.1)), iv (w64 (0 - r1.2.2))]) (by kernel_rfl) lookC_hit) ?_
        refine QJ.op (q := { val := accV 6 (List.length r28), new := [accB 23 (List.length r28) (List.flatMap e23 r28)] }) (by decide) (qOf_call (g := 42) (args := [ag [iv r1.1.1.1, iv r1.1.1.2, iv r1.1.2.1, iv r1.1.2.2], ag [iv r26.1, iv r26.2], iv 16]) (by kernel_rfl) (lookC_skip (fun hg => absurd (show (43 : Nat) = 42 from hg) (by decide)) lookC_hit)) ?_
        refine QJ.run (s1 := (qs (st 139 [(1, .int .u8 p6), (7, pt 1 0), (8, pt 2 0), (9, iv r3.1), (20, iv 0), (107, ag [iv r1.1.1.1, iv r1.1.1.2, iv r1.1.2.1, iv r1.1.2.2]), (108, pt 2 0), (109, iv r1.2.1), (110, iv (w64 (0 - r1.2.1))), (111, pt 2 1), (112, iv r1.2.2), (113, iv (w64 (0 - r1.2.2))), (114, ag [iv r26.1, iv r26.2]), (115, accV 6 (List.length r28)), (116, iv (List.length r28 : Int)), (117, iv 0)]) [.dead, cl 25 [iv r1.1.1.1, iv r1.1.1.2, iv r1.1.2.1, iv r1.1.2.2], cl 23 [iv r1.2.1, iv r1.2.2], .dead, .dead, .dead, accB 23 (List.length r28) (List.flatMap e23 r28)] [(8, 6, 7)] [])) 2 (by kernel_rfl) (by kernel_rfl) ?_
        refine QJ.done (by kernel_rfl) ⟨rfl, ?_⟩
        exact SJ.done (by kernel_rfl) (by kernel_rfl)
      refine TS.blockP (id := 0) (by kernel_rfl) ?_
      have hX := of_do hF
      clear hF
      obtain ⟨r65, h66, hF⟩ := hX
      refine TS.loopP (by kernel_rfl) (TL.weak (a2 := (st 139 [(1, .int .u8 p6), (8, pt 0 0), (9, iv r3.1), (20, iv 0), (115, accV 1 (List.length r28)), (116, iv (List.length r28 : Int)), (117, iv 0)])) (h2 := (H11_21 r1 r28)) (Wk.anew (base := 0) (L := 0) (f := [2, 6]) (by decide) (by decide) (Nat.le_of_ble_eq_true rfl) rfl (.cons (At.blk (by kernel_rfl) (RnB.lit (.cons (.flat (by kernel_rfl)) (.cons (.flat (by kernel_rfl)) .nil)))) (.cons (At.acc (by kernel_rfl) rfl (fun _ => rfl)) (.nil _))) (LRn.stx [1, 8, 9, 20, 115, 116, 117] [.int .u8 p6, pt 0 0, iv r3.1, iv 0, accV 1 (List.length r28), iv (List.length r28 : Int), iv 0] [.int .u8 p6, pt 2 0, iv r3.1, iv 0, accV 6 (List.length r28), iv (List.length r28 : Int), iv 0] (.cons (.flat (by kernel_rfl)) (.cons (Rn.ptr _ _ _ (Nat.le_of_ble_eq_true rfl) rfl) (.cons (.flat (by kernel_rfl)) (.cons (.flat (by kernel_rfl)) (.cons (Rn.acc (Nat.le_of_ble_eq_true rfl) rfl) (.cons (.flat (by kernel_rfl)) (.cons (.flat (by kernel_rfl)) .nil))))))) (by kernel_rfl) (by kernel_rfl) rfl) rfl rfl) (TL.post (L11l0 p6 r1 r3 r28 0 0 r65 h66) ?_))
      rintro e a1 h1 hp
      obtain ⟨rfl, hw⟩ := hp
      refine ⟨(st 139 [(9, iv r3.1), (20, iv r65)]), [], ?_, hw⟩
      refine NX.bkX ?_
      refine NX.sq ?_
      refine TS.seqP (by kernel_rfl) ?_
      have hX := of_do hF
      clear hF
      obtain ⟨m70, hm71, hF⟩ := hX
      have hK : NX Try.prog 0 0 [.sq c11.s2.s2.s2.s2.s2.s2.s2.s2.s2.s2.s2] (FinP Try.prog Try.f11 0 (V11 0 r) (N11 0 r)) .normal (st 139 [(6, .bool m70)]) [] := by
        refine NX.sq ?_
        refine TS.ret' (by kernel_rfl) ?_
        have hF := Option.some.inj hF
        subst hF
        exact ⟨.inr rfl, rfl, .bool m70, by kernel_rfl, WkV.flat0 (by kernel_rfl) (Nat.le_of_ble_eq_true rfl)⟩
      rcases Bool.eq_false_or_eq_true (r65 == r3.1) with hc67 | hc67
      · replace hm71 := of_pos hm71 hc67
        have hX := of_do hm71
        clear hm71
        obtain ⟨r68, h69, hm71⟩ := hX
        have hm71 := Option.some.inj hm71
        subst hm71
        refine TS.regionP (by kernel_rfl) ?_
        refine TI.runA 2 [133, 134] (a2 := (st 139 [(133, iv r65), (134, iv r3.1)])) (by kernel_rfl) ?_
        refine TI.op (q := { val := .bool true }) (q_conv (e := r65 == r3.1) (b := true) (by kernel_rfl) hc67) [135] [] (a2 := (st 139 [(135, .bool true)])) (h2 := []) (by kernel_rfl) ?_
        refine TI.runA 1 [136] (a2 := (st 139 [(136, .bool true)])) (by kernel_rfl) ?_
        refine TI.callF (C22 _ h69) (by kernel_rfl) (by kernel_rfl) ?_
        refine TI.runA 2 [6] (a2 := (st 139 [(6, .bool r68)])) (by kernel_rfl) ?_
        refine TI.done (by kernel_rfl) ?_
        exact hK
      · replace hm71 := of_neg hm71 hc67
        have hm71 := Option.some.inj hm71
        subst hm71
        refine TS.regionP (by kernel_rfl) ?_
        refine TI.runA 2 [133, 134] (a2 := (st 139 [(133, iv r65), (134, iv r3.1)])) (by kernel_rfl) ?_
        refine TI.op (q := { val := .bool false }) (q_conv (e := r65 == r3.1) (b := false) (by kernel_rfl) hc67) [135] [] (a2 := (st 139 [(135, .bool false)])) (h2 := []) (by kernel_rfl) ?_
        refine TI.runA 4 [6] (a2 := (st 139 [(6, .bool false)])) (by kernel_rfl) ?_
        refine TI.done (by kernel_rfl) ?_
        exact hK
  rcases Bool.eq_false_or_eq_true (r3.2 != 0) with hc13 | hc13
  · replace hm72 := of_pos hm72 hc13
    have hm72 := Option.some.inj hm72
    subst hm72
    refine TS.regionP (by kernel_rfl) ?_
    refine TI.runA 1 [1, 7, 8, 9, 11, 12, 14, 15, 17, 18, 19, 68] (a2 := (S11_5 p6 r3 r5 r7 r9 r11)) (by kernel_rfl) ?_
    refine TI.op (q := { val := .bool true }) (q_conv (e := r3.2 != 0) (b := true) (by kernel_rfl) hc13) [1, 7, 8, 9, 11, 12, 14, 15, 17, 18, 19, 69] [1, 2, 4] (a2 := (st 139 [(1, .int .u8 p6), (7, pt 1 0), (8, pt 2 0), (9, iv r3.1), (11, iv r5.1), (12, iv r5.2), (14, pt 4 0), (15, iv r7.2.2), (17, .bool r9.2), (18, iv r11.1), (19, iv r11.2), (69, .bool true)])) (h2 := (H11_13 r1 r7)) (by kernel_rfl) ?_
    refine TI.run 37 [1, 7, 8, 9, 106] [1, 2] (a2 := (S11_20 p6 r3)) (h2 := (H11_18 r1)) (by kernel_rfl) ?_
    refine TI.done (by kernel_rfl) ?_
    exact hK
  · replace hm72 := of_neg hm72 hc13
    rcases Bool.eq_false_or_eq_true (r5.2 != 0) with hc14 | hc14
    · replace hm72 := of_pos hm72 hc14
      have hm72 := Option.some.inj hm72
      subst hm72
      refine TS.regionP (by kernel_rfl) ?_
      refine TI.runA 1 [1, 7, 8, 9, 11, 12, 14, 15, 17, 18, 19, 68] (a2 := (S11_5 p6 r3 r5 r7 r9 r11)) (by kernel_rfl) ?_
      refine TI.op (q := { val := .bool false }) (q_conv (e := r3.2 != 0) (b := false) (by kernel_rfl) hc13) [1, 7, 8, 9, 11, 12, 14, 15, 17, 18, 19, 69] [1, 2, 4] (a2 := (S11_3 p6 r3 r5 r7 r9 r11)) (h2 := (H11_13 r1 r7)) (by kernel_rfl) ?_
      refine TI.runA 2 [1, 7, 8, 9, 11, 14, 15, 17, 18, 19, 70, 71] (a2 := (S11_4 p6 r3 r5 r7 r9 r11)) (by kernel_rfl) ?_
      refine TI.op (q := { val := .bool true }) (q_conv (e := r5.2 != 0) (b := true) (by kernel_rfl) hc14) [1, 7, 8, 9, 11, 14, 15, 17, 18, 19, 70, 72] [1, 2, 4] (a2 := (st 139 [(1, .int .u8 p6), (7, pt 1 0), (8, pt 2 0), (9, iv r3.1), (11, iv r5.1), (14, pt 4 0), (15, iv r7.2.2), (17, .bool r9.2), (18, iv r11.1), (19, iv r11.2), (70, .bool false), (72, .bool true)])) (h2 := (H11_13 r1 r7)) (by kernel_rfl) ?_
      refine TI.run 34 [1, 7, 8, 9, 106] [1, 2] (a2 := (S11_20 p6 r3)) (h2 := (H11_18 r1)) (by kernel_rfl) ?_
      refine TI.done (by kernel_rfl) ?_
      exact hK
    · replace hm72 := of_neg hm72 hc14
      rcases Bool.eq_false_or_eq_true (r7.2.2 != 0) with hc15 | hc15
      · replace hm72 := of_pos hm72 hc15
        have hm72 := Option.some.inj hm72
        subst hm72
        refine TS.regionP (by kernel_rfl) ?_
        refine TI.runA 1 [1, 7, 8, 9, 11, 12, 14, 15, 17, 18, 19, 68] (a2 := (S11_5 p6 r3 r5 r7 r9 r11)) (by kernel_rfl) ?_
        refine TI.op (q := { val := .bool false }) (q_conv (e := r3.2 != 0) (b := false) (by kernel_rfl) hc13) [1, 7, 8, 9, 11, 12, 14, 15, 17, 18, 19, 69] [1, 2, 4] (a2 := (S11_3 p6 r3 r5 r7 r9 r11)) (h2 := (H11_13 r1 r7)) (by kernel_rfl) ?_
        refine TI.runA 2 [1, 7, 8, 9, 11, 14, 15, 17, 18, 19, 70, 71] (a2 := (S11_4 p6 r3 r5 r7 r9 r11)) (by kernel_rfl) ?_
        refine TI.op (q := { val := .bool false }) (q_conv (e := r5.2 != 0) (b := false) (by kernel_rfl) hc14) [1, 7, 8, 9, 11, 14, 15, 17, 18, 19, 70, 72] [1, 2, 4] (a2 := (S11_0 p6 r3 r5 r7 r9 r11)) (h2 := (H11_13 r1 r7)) (by kernel_rfl) ?_
        refine TI.runA 3 [1, 7, 8, 9, 11, 14, 17, 18, 19, 74, 75] (a2 := (S11_7 p6 r3 r5 r9 r11 r7)) (by kernel_rfl) ?_
        refine TI.op (q := { val := .bool true }) (q_conv (e := r7.2.2 != 0) (b := true) (by kernel_rfl) hc15) [1, 7, 8, 9, 11, 14, 17, 18, 19, 74, 76] [1, 2, 4] (a2 := (st 139 [(1, .int .u8 p6), (7, pt 1 0), (8, pt 2 0), (9, iv r3.1), (11, iv r5.1), (14, pt 4 0), (17, .bool r9.2), (18, iv r11.1), (19, iv r11.2), (74, .bool false), (76, .bool true)])) (h2 := (H11_13 r1 r7)) (by kernel_rfl) ?_
        refine TI.run 30 [1, 7, 8, 9, 106] [1, 2] (a2 := (S11_20 p6 r3)) (h2 := (H11_18 r1)) (by kernel_rfl) ?_
        refine TI.done (by kernel_rfl) ?_
        exact hK
      · replace hm72 := of_neg hm72 hc15
        rcases Bool.eq_false_or_eq_true (r9.2) with hc16 | hc16
        · replace hm72 := of_pos hm72 hc16
          rcases Bool.eq_false_or_eq_true (r11.2 != 0) with hc17 | hc17
          · replace hm72 := of_pos hm72 hc17
            have hm72 := Option.some.inj hm72
            subst hm72
            refine TS.regionP (by kernel_rfl) ?_
            refine TI.runA 1 [1, 7, 8, 9, 11, 12, 14, 15, 17, 18, 19, 68] (a2 := (S11_5 p6 r3 r5 r7 r9 r11)) (by kernel_rfl) ?_
            refine TI.op (q := { val := .bool false }) (q_conv (e := r3.2 != 0) (b := false) (by kernel_rfl) hc13) [1, 7, 8, 9, 11, 12, 14, 15, 17, 18, 19, 69] [1, 2, 4] (a2 := (S11_3 p6 r3 r5 r7 r9 r11)) (h2 := (H11_13 r1 r7)) (by kernel_rfl) ?_
            refine TI.runA 2 [1, 7, 8, 9, 11, 14, 15, 17, 18, 19, 70, 71] (a2 := (S11_4 p6 r3 r5 r7 r9 r11)) (by kernel_rfl) ?_
            refine TI.op (q := { val := .bool false }) (q_conv (e := r5.2 != 0) (b := false) (by kernel_rfl) hc14) [1, 7, 8, 9, 11, 14, 15, 17, 18, 19, 70, 72] [1, 2, 4] (a2 := (S11_0 p6 r3 r5 r7 r9 r11)) (h2 := (H11_13 r1 r7)) (by kernel_rfl) ?_
            refine TI.runA 3 [1, 7, 8, 9, 11, 14, 17, 18, 19, 74, 75] (a2 := (S11_7 p6 r3 r5 r9 r11 r7)) (by kernel_rfl) ?_
            refine TI.op (q := { val := .bool false }) (q_conv (e := r7.2.2 != 0) (b := false) (by kernel_rfl) hc15) [1, 7, 8, 9, 11, 14, 17, 18, 19, 74, 76] [1, 2, 4] (a2 := (S11_6 p6 r3 r5 r9 r11)) (h2 := (H11_13 r1 r7)) (by kernel_rfl) ?_
            refine TI.runA 2 [1, 7, 8, 9, 11, 14, 17, 18, 19, 78] (a2 := (S11_8 p6 r3 r5 r9 r11)) (by kernel_rfl) ?_
            refine TI.op (q := { val := .bool true }) (q_conv (e := r9.2) (b := true) (by kernel_rfl) hc16) [1, 7, 8, 9, 11, 14, 18, 19, 78, 79] [1, 2, 4] (a2 := (S11_9 p6 r3 r5 r11)) (h2 := (H11_13 r1 r7)) (by kernel_rfl) ?_
            refine TI.runA 4 [1, 7, 8, 9, 11, 14, 18, 82, 83] (a2 := (S11_11 p6 r3 r5 r11)) (by kernel_rfl) ?_
            refine TI.op (q := { val := .bool true }) (q_conv (e := r11.2 != 0) (b := true) (by kernel_rfl) hc17) [1, 7, 8, 9, 11, 14, 18, 82, 84] [1, 2, 4] (a2 := (st 139 [(1, .int .u8 p6), (7, pt 1 0), (8, pt 2 0), (9, iv r3.1), (11, iv r5.1), (14, pt 4 0), (18, iv r11.1), (82, .bool false), (84, .bool true)])) (h2 := (H11_13 r1 r7)) (by kernel_rfl) ?_
            refine TI.run 22 [1, 7, 8, 9, 106] [1, 2] (a2 := (S11_20 p6 r3)) (h2 := (H11_18 r1)) (by kernel_rfl) ?_
            refine TI.done (by kernel_rfl) ?_
            exact hK
          · replace hm72 := of_neg hm72 hc17
            rcases Bool.eq_false_or_eq_true (decide (r5.1 < r3.1)) with hc18 | hc18
            · replace hm72 := of_pos hm72 hc18
              have hm72 := Option.some.inj hm72
              subst hm72
              refine TS.regionP (by kernel_rfl) ?_
              refine TI.runA 1 [1, 7, 8, 9, 11, 12, 14, 15, 17, 18, 19, 68] (a2 := (S11_5 p6 r3 r5 r7 r9 r11)) (by kernel_rfl) ?_
              refine TI.op (q := { val := .bool false }) (q_conv (e := r3.2 != 0) (b := false) (by kernel_rfl) hc13) [1, 7, 8, 9, 11, 12, 14, 15, 17, 18, 19, 69] [1, 2, 4] (a2 := (S11_3 p6 r3 r5 r7 r9 r11)) (h2 := (H11_13 r1 r7)) (by kernel_rfl) ?_
              refine TI.runA 2 [1, 7, 8, 9, 11, 14, 15, 17, 18, 19, 70, 71] (a2 := (S11_4 p6 r3 r5 r7 r9 r11)) (by kernel_rfl) ?_
              refine TI.op (q := { val := .bool false }) (q_conv (e := r5.2 != 0) (b := false) (by kernel_rfl) hc14) [1, 7, 8, 9, 11, 14, 15, 17, 18, 19, 70, 72] [1, 2, 4] (a2 := (S11_0 p6 r3 r5 r7 r9 r11)) (h2 := (H11_13 r1 r7)) (by kernel_rfl) ?_
              refine TI.runA 3 [1, 7, 8, 9, 11, 14, 17, 18, 19, 74, 75] (a2 := (S11_7 p6 r3 r5 r9 r11 r7)) (by kernel_rfl) ?_
              refine TI.op (q := { val := .bool false }) (q_conv (e := r7.2.2 != 0) (b := false) (by kernel_rfl) hc15) [1, 7, 8, 9, 11, 14, 17, 18, 19, 74, 76] [1, 2, 4] (a2 := (S11_6 p6 r3 r5 r9 r11)) (h2 := (H11_13 r1 r7)) (by kernel_rfl) ?_
              refine TI.runA 2 [1, 7, 8, 9, 11, 14, 17, 18, 19, 78] (a2 := (S11_8 p6 r3 r5 r9 r11)) (by kernel_rfl) ?_
              refine TI.op (q := { val := .bool true }) (q_conv (e := r9.2) (b := true) (by kernel_rfl) hc16) [1, 7, 8, 9, 11, 14, 18, 19, 78, 79] [1, 2, 4] (a2 := (S11_9 p6 r3 r5 r11)) (h2 := (H11_13 r1 r7)) (by kernel_rfl) ?_
              refine TI.runA 4 [1, 7, 8, 9, 11, 14, 18, 82, 83] (a2 := (S11_11 p6 r3 r5 r11)) (by kernel_rfl) ?_
              refine TI.op (q := { val := .bool false }) (q_conv (e := r11.2 != 0) (b := false) (by kernel_rfl) hc17) [1, 7, 8, 9, 11, 14, 18, 82, 84] [1, 2, 4] (a2 := (S11_10 p6 r3 r5 r11)) (h2 := (H11_13 r1 r7)) (by kernel_rfl) ?_
              refine TI.runA 4 [1, 7, 8, 9, 14, 18, 86, 87, 88] (a2 := (S11_12 p6 r3 r11 r5)) (by kernel_rfl) ?_
              refine TI.op (q := { val := .bool true }) (q_conv (e := decide (r5.1 < r3.1)) (b := true) (by kernel_rfl) hc18) [1, 7, 8, 9, 14, 18, 86, 89] [1, 2, 4] (a2 := (st 139 [(1, .int .u8 p6), (7, pt 1 0), (8, pt 2 0), (9, iv r3.1), (14, pt 4 0), (18, iv r11.1), (86, .bool false), (89, .bool true)])) (h2 := (H11_13 r1 r7)) (by kernel_rfl) ?_
              refine TI.run 17 [1, 7, 8, 9, 106] [1, 2] (a2 := (S11_20 p6 r3)) (h2 := (H11_18 r1)) (by kernel_rfl) ?_
              refine TI.done (by kernel_rfl) ?_
              exact hK
            · replace hm72 := of_neg hm72 hc18
              rcases Bool.eq_false_or_eq_true (r11.1 != r3.1) with hc19 | hc19
              · replace hm72 := of_pos hm72 hc19
                have hm72 := Option.some.inj hm72
                subst hm72
                refine TS.regionP (by kernel_rfl) ?_
                refine TI.runA 1 [1, 7, 8, 9, 11, 12, 14, 15, 17, 18, 19, 68] (a2 := (S11_5 p6 r3 r5 r7 r9 r11)) (by kernel_rfl) ?_
                refine TI.op (q := { val := .bool false }) (q_conv (e := r3.2 != 0) (b := false) (by kernel_rfl) hc13) [1, 7, 8, 9, 11, 12, 14, 15, 17, 18, 19, 69] [1, 2, 4] (a2 := (S11_3 p6 r3 r5 r7 r9 r11)) (h2 := (H11_13 r1 r7)) (by kernel_rfl) ?_
                refine TI.runA 2 [1, 7, 8, 9, 11, 14, 15, 17, 18, 19, 70, 71] (a2 := (S11_4 p6 r3 r5 r7 r9 r11)) (by kernel_rfl) ?_
                refine TI.op (q := { val := .bool false }) (q_conv (e := r5.2 != 0) (b := false) (by kernel_rfl) hc14) [1, 7, 8, 9, 11, 14, 15, 17, 18, 19, 70, 72] [1, 2, 4] (a2 := (S11_0 p6 r3 r5 r7 r9 r11)) (h2 := (H11_13 r1 r7)) (by kernel_rfl) ?_
                refine TI.runA 3 [1, 7, 8, 9, 11, 14, 17, 18, 19, 74, 75] (a2 := (S11_7 p6 r3 r5 r9 r11 r7)) (by kernel_rfl) ?_
                refine TI.op (q := { val := .bool false }) (q_conv (e := r7.2.2 != 0) (b := false) (by kernel_rfl) hc15) [1, 7, 8, 9, 11, 14, 17, 18, 19, 74, 76] [1, 2, 4] (a2 := (S11_6 p6 r3 r5 r9 r11)) (h2 := (H11_13 r1 r7)) (by kernel_rfl) ?_
                refine TI.runA 2 [1, 7, 8, 9, 11, 14, 17, 18, 19, 78] (a2 := (S11_8 p6 r3 r5 r9 r11)) (by kernel_rfl) ?_
                refine TI.op (q := { val := .bool true }) (q_conv (e := r9.2) (b := true) (by kernel_rfl) hc16) [1, 7, 8, 9, 11, 14, 18, 19, 78, 79] [1, 2, 4] (a2 := (S11_9 p6 r3 r5 r11)) (h2 := (H11_13 r1 r7)) (by kernel_rfl) ?_
                refine TI.runA 4 [1, 7, 8, 9, 11, 14, 18, 82, 83] (a2 := (S11_11 p6 r3 r5 r11)) (by kernel_rfl) ?_
                refine TI.op (q := { val := .bool false }) (q_conv (e := r11.2 != 0) (b := false) (by kernel_rfl) hc17) [1, 7, 8, 9, 11, 14, 18, 82, 84] [1, 2, 4] (a2 := (S11_10 p6 r3 r5 r11)) (h2 := (H11_13 r1 r7)) (by kernel_rfl) ?_
                refine TI.runA 4 [1, 7, 8, 9, 14, 18, 86, 87, 88] (a2 := (S11_12 p6 r3 r11 r5)) (by kernel_rfl) ?_
                refine TI.op (q := { val := .bool false }) (q_conv (e := decide (r5.1 < r3.1)) (b := false) (by kernel_rfl) hc18) [1, 7, 8, 9, 14, 18, 86, 89] [1, 2, 4] (a2 := (S11_15 p6 r3 r11)) (h2 := (H11_13 r1 r7)) (by kernel_rfl) ?_
                refine TI.runA 4 [1, 7, 8, 9, 14, 91, 92, 93] (a2 := (S11_16 p6 r3 r11)) (by kernel_rfl) ?_
                refine TI.op (q := { val := .bool true }) (q_conv (e := r11.1 != r3.1) (b := true) (by kernel_rfl) hc19) [1, 7, 8, 9, 14, 91, 94] [1, 2, 4] (a2 := (st 139 [(1, .int .u8 p6), (7, pt 1 0), (8, pt 2 0), (9, iv r3.1), (14, pt 4 0), (91, .bool false), (94, .bool true)])) (h2 := (H11_13 r1 r7)) (by kernel_rfl) ?_
                refine TI.run 12 [1, 7, 8, 9, 106] [1, 2] (a2 := (S11_20 p6 r3)) (h2 := (H11_18 r1)) (by kernel_rfl) ?_
                refine TI.done (by kernel_rfl) ?_
                exact hK
              · replace hm72 := of_neg hm72 hc19
                have hX := of_do hm72
                clear hm72
                obtain ⟨r20, h21, hm72⟩ := hX
                rcases Bool.eq_false_or_eq_true (r3.1 == 0) with hc22 | hc22
                · replace hm72 := of_pos hm72 hc22
                  rcases Bool.eq_false_or_eq_true (decide ((w64 p6) < r20)) with hc23 | hc23
                  · replace hm72 := of_pos hm72 hc23
                    have hm72 := Option.some.inj hm72
                    subst hm72
                    refine TS.regionP (by kernel_rfl) ?_
                    refine TI.runA 1 [1, 7, 8, 9, 11, 12, 14, 15, 17, 18, 19, 68] (a2 := (S11_5 p6 r3 r5 r7 r9 r11)) (by kernel_rfl) ?_
                    refine TI.op (q := { val := .bool false }) (q_conv (e := r3.2 != 0) (b := false) (by kernel_rfl) hc13) [1, 7, 8, 9, 11, 12, 14, 15, 17, 18, 19, 69] [1, 2, 4] (a2 := (S11_3 p6 r3 r5 r7 r9 r11)) (h2 := (H11_13 r1 r7)) (by kernel_rfl) ?_
                    refine TI.runA 2 [1, 7, 8, 9, 11, 14, 15, 17, 18, 19, 70, 71] (a2 := (S11_4 p6 r3 r5 r7 r9 r11)) (by kernel_rfl) ?_
                    refine TI.op (q := { val := .bool false }) (q_conv (e := r5.2 != 0) (b := false) (by kernel_rfl) hc14) [1, 7, 8, 9, 11, 14, 15, 17, 18, 19, 70, 72] [1, 2, 4] (a2 := (S11_0 p6 r3 r5 r7 r9 r11)) (h2 := (H11_13 r1 r7)) (by kernel_rfl) ?_
                    refine TI.runA 3 [1, 7, 8, 9, 11, 14, 17, 18, 19, 74, 75] (a2 := (S11_7 p6 r3 r5 r9 r11 r7)) (by kernel_rfl) ?_
                    refine TI.op (q := { val := .bool false }) (q_conv (e := r7.2.2 != 0) (b := false) (by kernel_rfl) hc15) [1, 7, 8, 9, 11, 14, 17, 18, 19, 74, 76] [1, 2, 4] (a2 := (S11_6 p6 r3 r5 r9 r11)) (h2 := (H11_13 r1 r7)) (by kernel_rfl) ?_
                    refine TI.runA 2 [1, 7, 8, 9, 11, 14, 17, 18, 19, 78] (a2 := (S11_8 p6 r3 r5 r9 r11)) (by kernel_rfl) ?_
                    refine TI.op (q := { val := .bool true }) (q_conv (e := r9.2) (b := true) (by kernel_rfl) hc16) [1, 7, 8, 9, 11, 14, 18, 19, 78, 79] [1, 2, 4] (a2 := (S11_9 p6 r3 r5 r11)) (h2 := (H11_13 r1 r7)) (by kernel_rfl) ?_
                    refine TI.runA 4 [1, 7, 8, 9, 11, 14, 18, 82, 83] (a2 := (S11_11 p6 r3 r5 r11)) (by kernel_rfl) ?_
                    refine TI.op (q := { val := .bool false }) (q_conv (e := r11.2 != 0) (b := false) (by kernel_rfl) hc17) [1, 7, 8, 9, 11, 14, 18, 82, 84] [1, 2, 4] (a2 := (S11_10 p6 r3 r5 r11)) (h2 := (H11_13 r1 r7)) (by kernel_rfl) ?_
                    refine TI.runA 4 [1, 7, 8, 9, 14, 18, 86, 87, 88] (a2 := (S11_12 p6 r3 r11 r5)) (by kernel_rfl) ?_
                    refine TI.op (q := { val := .bool false }) (q_conv (e := decide (r5.1 < r3.1)) (b := false) (by kernel_rfl) hc18) [1, 7, 8, 9, 14, 18, 86, 89] [1, 2, 4] (a2 := (S11_15 p6 r3 r11)) (h2 := (H11_13 r1 r7)) (by kernel_rfl) ?_
                    refine TI.runA 4 [1, 7, 8, 9, 14, 91, 92, 93] (a2 := (S11_16 p6 r3 r11)) (by kernel_rfl) ?_
                    refine TI.op (q := { val := .bool false }) (q_conv (e := r11.1 != r3.1) (b := false) (by kernel_rfl) hc19) [1, 7, 8, 9, 14, 91, 94] [1, 2, 4] (a2 := (S11_17 p6 r3)) (h2 := (H11_13 r1 r7)) (by kernel_rfl) ?_
                    refine TI.runA 3 [1, 7, 8, 9, 14, 96, 97] (a2 := (S11_19 p6 r3)) (by kernel_rfl) ?_
                    refine TI.op (q := { val := .bool true }) (q_conv (e := r3.1 == 0) (b := true) (by kernel_rfl) hc22) [1, 7, 8, 9, 14, 96, 98] [1, 2, 4] (a2 := (st 139 [(1, .int .u8 p6), (7, pt 1 0), (8, pt 2 0), (9, iv r3.1), (14, pt 4 0), (96, .bool false), (98, .bool true)])) (h2 := (H11_13 r1 r7)) (by kernel_rfl) ?_
                    refine TI.run 4 [1, 7, 8, 9, 96, 98, 100, 101, 102] [1, 2] (a2 := (S11_2 p6 r3 r7)) (h2 := (H11_18 r1)) (by kernel_rfl) ?_
                    refine TI.callM (by kernel_rfl) (PureSim.anyK (C41 _ _ _ _ _ h21) (by kernel_rfl)) [1, 7, 8, 9, 96, 98, 100, 103] [1, 2] (a2 := (st 139 [(1, .int .u8 p6), (7, pt 1 0), (8, pt 2 0), (9, iv r3.1), (96, .bool false), (98, .bool true), (100, iv (w64 p6)), (103, iv r20)])) (h2 := (H11_18 r1)) (by kernel_rfl) ?_
                    refine TI.op (q := { val := .bool true }) (q_conv (e := decide ((w64 p6) < r20)) (b := true) (by kernel_rfl) hc23) [1, 7, 8, 9, 96, 98, 104] [1, 2] (a2 := (st 139 [(1, .int .u8 p6), (7, pt 1 0), (8, pt 2 0), (9, iv r3.1), (96, .bool false), (98, .bool true), (104, .bool true)])) (h2 := (H11_18 r1)) (by kernel_rfl) ?_
                    refine TI.runA 2 [1, 7, 8, 9, 106] (a2 := (st 139 [(1, .int .u8 p6), (7, pt 1 0), (8, pt 2 0), (9, iv r3.1), (106, .bool false)])) (by kernel_rfl) ?_
                    refine TI.done (by kernel_rfl) ?_
                    exact hK
                  · replace hm72 := of_neg hm72 hc23
                    have hm72 := Option.some.inj hm72
                    subst hm72
                    refine TS.regionP (by kernel_rfl) ?_
                    refine TI.runA 1 [1, 7, 8, 9, 11, 12, 14, 15, 17, 18, 19, 68] (a2 := (S11_5 p6 r3 r5 r7 r9 r11)) (by kernel_rfl) ?_
                    refine TI.op (q := { val := .bool false }) (q_conv (e := r3.2 != 0) (b := false) (by kernel_rfl) hc13) [1, 7, 8, 9, 11, 12, 14, 15, 17, 18, 19, 69] [1, 2, 4] (a2 := (S11_3 p6 r3 r5 r7 r9 r11)) (h2 := (H11_13 r1 r7)) (by kernel_rfl) ?_
                    refine TI.runA 2 [1, 7, 8, 9, 11, 14, 15, 17, 18, 19, 70, 71] (a2 := (S11_4 p6 r3 r5 r7 r9 r11)) (by kernel_rfl) ?_
                    refine TI.op (q := { val := .bool false }) (q_conv (e := r5.2 != 0) (b := false) (by kernel_rfl) hc14) [1, 7, 8, 9, 11, 14, 15, 17, 18, 19, 70, 72] [1, 2, 4] (a2 := (S11_0 p6 r3 r5 r7 r9 r11)) (h2 := (H11_13 r1 r7)) (by kernel_rfl) ?_
                    refine TI.runA 3 [1, 7, 8, 9, 11, 14, 17, 18, 19, 74, 75] (a2 := (S11_7 p6 r3 r5 r9 r11 r7)) (by kernel_rfl) ?_
                    refine TI.op (q := { val := .bool false }) (q_conv (e := r7.2.2 != 0) (b := false) (by kernel_rfl) hc15) [1, 7, 8, 9, 11, 14, 17, 18, 19, 74, 76] [1, 2, 4] (a2 := (S11_6 p6 r3 r5 r9 r11)) (h2 := (H11_13 r1 r7)) (by kernel_rfl) ?_
                    refine TI.runA 2 [1, 7, 8, 9, 11, 14, 17, 18, 19, 78] (a2 := (S11_8 p6 r3 r5 r9 r11)) (by kernel_rfl) ?_
                    refine TI.op (q := { val := .bool true }) (q_conv (e := r9.2) (b := true) (by kernel_rfl) hc16) [1, 7, 8, 9, 11, 14, 18, 19, 78, 79] [1, 2, 4] (a2 := (S11_9 p6 r3 r5 r11)) (h2 := (H11_13 r1 r7)) (by kernel_rfl) ?_
                    refine TI.runA 4 [1, 7, 8, 9, 11, 14, 18, 82, 83] (a2 := (S11_11 p6 r3 r5 r11)) (by kernel_rfl) ?_
                    refine TI.op (q := { val := .bool false }) (q_conv (e := r11.2 != 0) (b := false) (by kernel_rfl) hc17) [1, 7, 8, 9, 11, 14, 18, 82, 84] [1, 2, 4] (a2 := (S11_10 p6 r3 r5 r11)) (h2 := (H11_13 r1 r7)) (by kernel_rfl) ?_
                    refine TI.runA 4 [1, 7, 8, 9, 14, 18, 86, 87, 88] (a2 := (S11_12 p6 r3 r11 r5)) (by kernel_rfl) ?_
                    refine TI.op (q := { val := .bool false }) (q_conv (e := decide (r5.1 < r3.1)) (b := false) (by kernel_rfl) hc18) [1, 7, 8, 9, 14, 18, 86, 89] [1, 2, 4] (a2 := (S11_15 p6 r3 r11)) (h2 := (H11_13 r1 r7)) (by kernel_rfl) ?_
                    refine TI.runA 4 [1, 7, 8, 9, 14, 91, 92, 93] (a2 := (S11_16 p6 r3 r11)) (by kernel_rfl) ?_
                    refine TI.op (q := { val := .bool false }) (q_conv (e := r11.1 != r3.1) (b := false) (by kernel_rfl) hc19) [1, 7, 8, 9, 14, 91, 94] [1, 2, 4] (a2 := (S11_17 p6 r3)) (h2 := (H11_13 r1 r7)) (by kernel_rfl) ?_
                    refine TI.runA 3 [1, 7, 8, 9, 14, 96, 97] (a2 := (S11_19 p6 r3)) (by kernel_rfl) ?_
                    refine TI.op (q := { val := .bool true }) (q_conv (e := r3.1 == 0) (b := true) (by kernel_rfl) hc22) [1, 7, 8, 9, 14, 96, 98] [1, 2, 4] (a2 := (st 139 [(1, .int .u8 p6), (7, pt 1 0), (8, pt 2 0), (9, iv r3.1), (14, pt 4 0), (96, .bool false), (98, .bool true)])) (h2 := (H11_13 r1 r7)) (by kernel_rfl) ?_
                    refine TI.run 4 [1, 7, 8, 9, 96, 98, 100, 101, 102] [1, 2] (a2 := (S11_2 p6 r3 r7)) (h2 := (H11_18 r1)) (by kernel_rfl) ?_
                    refine TI.callM (by kernel_rfl) (PureSim.anyK (C41 _ _ _ _ _ h21) (by kernel_rfl)) [1, 7, 8, 9, 96, 98, 100, 103] [1, 2] (a2 := (st 139 [(1, .int .u8 p6), (7, pt 1 0), (8, pt 2 0), (9, iv r3.1), (96, .bool false), (98, .bool true), (100, iv (w64 p6)), (103, iv r20)])) (h2 := (H11_18 r1)) (by kernel_rfl) ?_
                    refine TI.op (q := { val := .bool false }) (q_conv (e := decide ((w64 p6) < r20)) (b := false) (by kernel_rfl) hc23) [1, 7, 8, 9, 96, 98, 104] [1, 2] (a2 := (st 139 [(1, .int .u8 p6), (7, pt 1 0), (8, pt 2 0), (9, iv r3.1), (96, .bool false), (98, .bool true), (104, .bool false)])) (h2 := (H11_18 r1)) (by kernel_rfl) ?_
                    refine TI.runA 2 [1, 7, 8, 9, 106] (a2 := (S11_20 p6 r3)) (by kernel_rfl) ?_
                    refine TI.done (by kernel_rfl) ?_
                    exact hK
                · replace hm72 := of_neg hm72 hc22
                  rcases Bool.eq_false_or_eq_true (decide ((w64 p6) < r20)) with hc24 | hc24
                  · replace hm72 := of_pos hm72 hc24
                    have hm72 := Option.some.inj hm72
                    subst hm72
                    refine TS.regionP (by kernel_rfl) ?_
                    refine TI.runA 1 [1, 7, 8, 9, 11, 12, 14, 15, 17, 18, 19, 68] (a2 := (S11_5 p6 r3 r5 r7 r9 r11)) (by kernel_rfl) ?_
                    refine TI.op (q := { val := .bool false }) (q_conv (e := r3.2 != 0) (b := false) (by kernel_rfl) hc13) [1, 7, 8, 9, 11, 12, 14, 15, 17, 18, 19, 69] [1, 2, 4] (a2 := (S11_3 p6 r3 r5 r7 r9 r11)) (h2 := (H11_13 r1 r7)) (by kernel_rfl) ?_
                    refine TI.runA 2 [1, 7, 8, 9, 11, 14, 15, 17, 18, 19, 70, 71] (a2 := (S11_4 p6 r3 r5 r7 r9 r11)) (by kernel_rfl) ?_
                    refine TI.op (q := { val := .bool false }) (q_conv (e := r5.2 != 0) (b := false) (by kernel_rfl) hc14) [1, 7, 8, 9, 11, 14, 15, 17, 18, 19, 70, 72] [1, 2, 4] (a2 := (S11_0 p6 r3 r5 r7 r9 r11)) (h2 := (H11_13 r1 r7)) (by kernel_rfl) ?_
                    refine TI.runA 3 [1, 7, 8, 9, 11, 14, 17, 18, 19, 74, 75] (a2 := (S11_7 p6 r3 r5 r9 r11 r7)) (by kernel_rfl) ?_
                    refine TI.op (q := { val := .bool false }) (q_conv (e := r7.2.2 != 0) (b := false) (by kernel_rfl) hc15) [1, 7, 8, 9, 11, 14, 17, 18, 19, 74, 76] [1, 2, 4] (a2 := (S11_6 p6 r3 r5 r9 r11)) (h2 := (H11_13 r1 r7)) (by kernel_rfl) ?_
                    refine TI.runA 2 [1, 7, 8, 9, 11, 14, 17, 18, 19, 78] (a2 := (S11_8 p6 r3 r5 r9 r11)) (by kernel_rfl) ?_
                    refine TI.op (q := { val := .bool true }) (q_conv (e := r9.2) (b := true) (by kernel_rfl) hc16) [1, 7, 8, 9, 11, 14, 18, 19, 78, 79] [1, 2, 4] (a2 := (S11_9 p6 r3 r5 r11)) (h2 := (H11_13 r1 r7)) (by kernel_rfl) ?_
                    refine TI.runA 4 [1, 7, 8, 9, 11, 14, 18, 82, 83] (a2 := (S11_11 p6 r3 r5 r11)) (by kernel_rfl) ?_
                    refine TI.op (q := { val := .bool false }) (q_conv (e := r11.2 != 0) (b := false) (by kernel_rfl) hc17) [1, 7, 8, 9, 11, 14, 18, 82, 84] [1, 2, 4] (a2 := (S11_10 p6 r3 r5 r11)) (h2 := (H11_13 r1 r7)) (by kernel_rfl) ?_
                    refine TI.runA 4 [1, 7, 8, 9, 14, 18, 86, 87, 88] (a2 := (S11_12 p6 r3 r11 r5)) (by kernel_rfl) ?_
                    refine TI.op (q := { val := .bool false }) (q_conv (e := decide (r5.1 < r3.1)) (b := false) (by kernel_rfl) hc18) [1, 7, 8, 9, 14, 18, 86, 89] [1, 2, 4] (a2 := (S11_15 p6 r3 r11)) (h2 := (H11_13 r1 r7)) (by kernel_rfl) ?_
                    refine TI.runA 4 [1, 7, 8, 9, 14, 91, 92, 93] (a2 := (S11_16 p6 r3 r11)) (by kernel_rfl) ?_
                    refine TI.op (q := { val := .bool false }) (q_conv (e := r11.1 != r3.1) (b := false) (by kernel_rfl) hc19) [1, 7, 8, 9, 14, 91, 94] [1, 2, 4] (a2 := (S11_17 p6 r3)) (h2 := (H11_13 r1 r7)) (by kernel_rfl) ?_
                    refine TI.runA 3 [1, 7, 8, 9, 14, 96, 97] (a2 := (S11_19 p6 r3)) (by kernel_rfl) ?_
                    refine TI.op (q := { val := .bool false }) (q_conv (e := r3.1 == 0) (b := false) (by kernel_rfl) hc22) [1, 7, 8, 9, 14, 96, 98] [1, 2, 4] (a2 := (st 139 [(1, .int .u8 p6), (7, pt 1 0), (8, pt 2 0), (9, iv r3.1), (14, pt 4 0), (96, .bool false), (98, .bool false)])) (h2 := (H11_13 r1 r7)) (by kernel_rfl) ?_
                    refine TI.run 4 [1, 7, 8, 9, 96, 98, 100, 101, 102] [1, 2] (a2 := (S11_1 p6 r3 r7)) (h2 := (H11_18 r1)) (by kernel_rfl) ?_
                    refine TI.callM (by kernel_rfl) (PureSim.anyK (C41 _ _ _ _ _ h21) (by kernel_rfl)) [1, 7, 8, 9, 96, 98, 100, 103] [1, 2] (a2 := (S11_14 p6 r3 r20)) (h2 := (H11_18 r1)) (by kernel_rfl) ?_
                    refine TI.op (q := { val := .bool true }) (q_conv (e := decide ((w64 p6) < r20)) (b := true) (by kernel_rfl) hc24) [1, 7, 8, 9, 96, 98, 104] [1, 2] (a2 := (st 139 [(1, .int .u8 p6), (7, pt 1 0), (8, pt 2 0), (9, iv r3.1), (96, .bool false), (98, .bool false), (104, .bool true)])) (h2 := (H11_18 r1)) (by kernel_rfl) ?_
                    refine TI.runA 2 [1, 7, 8, 9, 106] (a2 := (S11_20 p6 r3)) (by kernel_rfl) ?_
                    refine TI.done (by kernel_rfl) ?_
                    exact hK
                  · replace hm72 := of_neg hm72 hc24
                    have hm72 := Option.some.inj hm72
                    subst hm72
                    refine TS.regionP (by kernel_rfl) ?_
                    refine TI.runA 1 [1, 7, 8, 9, 11, 12, 14, 15, 17, 18, 19, 68] (a2 := (S11_5 p6 r3 r5 r7 r9 r11)) (by kernel_rfl) ?_
                    refine TI.op (q := { val := .bool false }) (q_conv (e := r3.2 != 0) (b := false) (by kernel_rfl) hc13) [1, 7, 8, 9, 11, 12, 14, 15, 17, 18, 19, 69] [1, 2, 4] (a2 := (S11_3 p6 r3 r5 r7 r9 r11)) (h2 := (H11_13 r1 r7)) (by kernel_rfl) ?_
                    refine TI.runA 2 [1, 7, 8, 9, 11, 14, 15, 17, 18, 19, 70, 71] (a2 := (S11_4 p6 r3 r5 r7 r9 r11)) (by kernel_rfl) ?_
                    refine TI.op (q := { val := .bool false }) (q_conv (e := r5.2 != 0) (b := false) (by kernel_rfl) hc14) [1, 7, 8, 9, 11, 14, 15, 17, 18, 19, 70, 72] [1, 2, 4] (a2 := (S11_0 p6 r3 r5 r7 r9 r11)) (h2 := (H11_13 r1 r7)) (by kernel_rfl) ?_
                    refine TI.runA 3 [1, 7, 8, 9, 11, 14, 17, 18, 19, 74, 75] (a2 := (S11_7 p6 r3 r5 r9 r11 r7)) (by kernel_rfl) ?_
                    refine TI.op (q := { val := .bool false }) (q_conv (e := r7.2.2 != 0) (b := false) (by kernel_rfl) hc15) [1, 7, 8, 9, 11, 14, 17, 18, 19, 74, 76] [1, 2, 4] (a2 := (S11_6 p6 r3 r5 r9 r11)) (h2 := (H11_13 r1 r7)) (by kernel_rfl) ?_
                    refine TI.runA 2 [1, 7, 8, 9, 11, 14, 17, 18, 19, 78] (a2 := (S11_8 p6 r3 r5 r9 r11)) (by kernel_rfl) ?_
                    refine TI.op (q := { val := .bool true }) (q_conv (e := r9.2) (b := true) (by kernel_rfl) hc16) [1, 7, 8, 9, 11, 14, 18, 19, 78, 79] [1, 2, 4] (a2 := (S11_9 p6 r3 r5 r11)) (h2 := (H11_13 r1 r7)) (by kernel_rfl) ?_
                    refine TI.runA 4 [1, 7, 8, 9, 11, 14, 18, 82, 83] (a2 := (S11_11 p6 r3 r5 r11)) (by kernel_rfl) ?_
                    refine TI.op (q := { val := .bool false }) (q_conv (e := r11.2 != 0) (b := false) (by kernel_rfl) hc17) [1, 7, 8, 9, 11, 14, 18, 82, 84] [1, 2, 4] (a2 := (S11_10 p6 r3 r5 r11)) (h2 := (H11_13 r1 r7)) (by kernel_rfl) ?_
                    refine TI.runA 4 [1, 7, 8, 9, 14, 18, 86, 87, 88] (a2 := (S11_12 p6 r3 r11 r5)) (by kernel_rfl) ?_
                    refine TI.op (q := { val := .bool false }) (q_conv (e := decide (r5.1 < r3.1)) (b := false) (by kernel_rfl) hc18) [1, 7, 8, 9, 14, 18, 86, 89] [1, 2, 4] (a2 := (S11_15 p6 r3 r11)) (h2 := (H11_13 r1 r7)) (by kernel_rfl) ?_
                    refine TI.runA 4 [1, 7, 8, 9, 14, 91, 92, 93] (a2 := (S11_16 p6 r3 r11)) (by kernel_rfl) ?_
                    refine TI.op (q := { val := .bool false }) (q_conv (e := r11.1 != r3.1) (b := false) (by kernel_rfl) hc19) [1, 7, 8, 9, 14, 91, 94] [1, 2, 4] (a2 := (S11_17 p6 r3)) (h2 := (H11_13 r1 r7)) (by kernel_rfl) ?_
                    refine TI.runA 3 [1, 7, 8, 9, 14, 96, 97] (a2 := (S11_19 p6 r3)) (by kernel_rfl) ?_
                    refine TI.op (q := { val := .bool false }) (q_conv (e := r3.1 == 0) (b := false) (by kernel_rfl) hc22) [1, 7, 8, 9, 14, 96, 98] [1, 2, 4] (a2 := (st 139 [(1, .int .u8 p6), (7, pt 1 0), (8, pt 2 0), (9, iv r3.1), (14, pt 4 0), (96, .bool false), (98, .bool false)])) (h2 := (H11_13 r1 r7)) (by kernel_rfl) ?_
                    refine TI.run 4 [1, 7, 8, 9, 96, 98, 100, 101, 102] [1, 2] (a2 := (S11_1 p6 r3 r7)) (h2 := (H11_18 r1)) (by kernel_rfl) ?_
                    refine TI.callM (by kernel_rfl) (PureSim.anyK (C41 _ _ _ _ _ h21) (by kernel_rfl)) [1, 7, 8, 9, 96, 98, 100, 103] [1, 2] (a2 := (S11_14 p6 r3 r20)) (h2 := (H11_18 r1)) (by kernel_rfl) ?_
                    refine TI.op (q := { val := .bool false }) (q_conv (e := decide ((w64 p6) < r20)) (b := false) (by kernel_rfl) hc24) [1, 7, 8, 9, 96, 98, 104] [1, 2] (a2 := (st 139 [(1, .int .u8 p6), (7, pt 1 0), (8, pt 2 0), (9, iv r3.1), (96, .bool false), (98, .bool false), (104, .bool false)])) (h2 := (H11_18 r1)) (by kernel_rfl) ?_
                    refine TI.runA 2 [1, 7, 8, 9, 106] (a2 := (st 139 [(1, .int .u8 p6), (7, pt 1 0), (8, pt 2 0), (9, iv r3.1), (106, .bool false)])) (by kernel_rfl) ?_
                    refine TI.done (by kernel_rfl) ?_
                    exact hK
        · replace hm72 := of_neg hm72 hc16
          have hm72 := Option.some.inj hm72
          subst hm72
          refine TS.regionP (by kernel_rfl) ?_
          refine TI.runA 1 [1, 7, 8, 9, 11, 12, 14, 15, 17, 18, 19, 68] (a2 := (S11_5 p6 r3 r5 r7 r9 r11)) (by kernel_rfl) ?_
          refine TI.op (q := { val := .bool false }) (q_conv (e := r3.2 != 0) (b := false) (by kernel_rfl) hc13) [1, 7, 8, 9, 11, 12, 14, 15, 17, 18, 19, 69] [1, 2, 4] (a2 := (S11_3 p6 r3 r5 r7 r9 r11)) (h2 := (H11_13 r1 r7)) (by kernel_rfl) ?_
          refine TI.runA 2 [1, 7, 8, 9, 11, 14, 15, 17, 18, 19, 70, 71] (a2 := (S11_4 p6 r3 r5 r7 r9 r11)) (by kernel_rfl) ?_
          refine TI.op (q := { val := .bool false }) (q_conv (e := r5.2 != 0) (b := false) (by kernel_rfl) hc14) [1, 7, 8, 9, 11, 14, 15, 17, 18, 19, 70, 72] [1, 2, 4] (a2 := (S11_0 p6 r3 r5 r7 r9 r11)) (h2 := (H11_13 r1 r7)) (by kernel_rfl) ?_
          refine TI.runA 3 [1, 7, 8, 9, 11, 14, 17, 18, 19, 74, 75] (a2 := (S11_7 p6 r3 r5 r9 r11 r7)) (by kernel_rfl) ?_
          refine TI.op (q := { val := .bool false }) (q_conv (e := r7.2.2 != 0) (b := false) (by kernel_rfl) hc15) [1, 7, 8, 9, 11, 14, 17, 18, 19, 74, 76] [1, 2, 4] (a2 := (S11_6 p6 r3 r5 r9 r11)) (h2 := (H11_13 r1 r7)) (by kernel_rfl) ?_
          refine TI.runA 2 [1, 7, 8, 9, 11, 14, 17, 18, 19, 78] (a2 := (S11_8 p6 r3 r5 r9 r11)) (by kernel_rfl) ?_
          refine TI.op (q := { val := .bool false }) (q_conv (e := r9.2) (b := false) (by kernel_rfl) hc16) [1, 7, 8, 9, 11, 14, 18, 19, 78, 79] [1, 2, 4] (a2 := (st 139 [(1, .int .u8 p6), (7, pt 1 0), (8, pt 2 0), (9, iv r3.1), (11, iv r5.1), (14, pt 4 0), (18, iv r11.1), (19, iv r11.2), (78, .bool false), (79, .bool false)])) (h2 := (H11_13 r1 r7)) (by kernel_rfl) ?_
          refine TI.run 27 [1, 7, 8, 9, 106] [1, 2] (a2 := (S11_20 p6 r3)) (h2 := (H11_18 r1)) (by kernel_rfl) ?_
          refine TI.done (by kernel_rfl) ?_
          exact hK
theorem C11 (p0 : Int) (p1 : Int) (p2 : Int) (p3 : Int) (p4 : Int) (p5 : Int) (p6 : Int) (p7 : Int) (r : Bool) (hF : F11 p0 p1 p2 p3 p4 p5 p6 p7 = some r) : PureSim Try.prog 11 [ag [.int .i8 p0, .int .i8 p1, .int .i8 p2, .int .i8 p3, .int .i16 p4, .int .i16 p5], .int .u8 p6, .int .u8 p7] [] (V11 0 r) (N11 0 r) :=
  PureSim.of_Fin Try.func11 (c := c11) (by kernel_rfl) (by kernel_rfl) 0 rfl [0, 1, 2] [] (by kernel_rfl) (B11 p0 p1 p2 p3 p4 p5 p6 p7 r hF)

end Go.Proofs.Ytenjelagfbceeaa
