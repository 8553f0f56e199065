/- What functions of the program compute, and that they do. -/
import Derived.Test.YtenjelagfbceeaaGB
set_option linter.unusedVariables false
set_option linter.unusedSimpArgs false
set_option maxRecDepth 100000
set_option maxHeartbeats 4000000
namespace Go.Proofs.Ytenjelagfbceeaa
open Go Go.Cl
def e23 (x : (Int × Int)) : List Value := [.int .i64 x.1, .int .i64 x.2]
-- agonic/agoniclaw06.vector
noncomputable def c43 : Code := Try.f43.code
def F43 (p0 : Int) (p1 : Int) : Option (Int × Int) :=
  some (p0, p1)
def V43 (b : Nat) (r : (Int × Int)) : Value := ag [iv r.1, iv r.2]
def N43 (b : Nat) (r : (Int × Int)) : List Blk := []
theorem B43 (p0 : Int) (p1 : Int) (r : (Int × Int)) (hF : F43 p0 p1 = some r) : TS Try.prog 0 0 c43 (st 8 [(0, iv p0), (1, iv p1)]) [] (NX Try.prog 0 0 [] (FinP Try.prog Try.f43 0 (V43 0 r) (N43 0 r))) := by
  unfold F43 at hF
  refine TS.seqP (by kernel_rfl) ?_
  refine TS.regionP (by kernel_rfl) ?_
  refine TI.run 1 [0, 1, 4] [0] (a2 := (st 8 [(0, iv p0), (1, iv p1), (4, pt 0 0)])) (h2 := [cl 23 [iv 0, iv 0]]) (by kernel_rfl) ?_
  refine TI.done (by kernel_rfl) ?_
  refine NX.sq ?_
  refine TS.seqP (by kernel_rfl) ?_
  refine TS.regionP (by kernel_rfl) ?_
  refine TI.run 4 [4] [0] (a2 := (st 8 [(4, pt 0 0)])) (h2 := [cl 23 [iv p0, iv p1]]) (by kernel_rfl) ?_
  refine TI.done (by kernel_rfl) ?_
  refine NX.sq ?_
  refine TS.ret' (by kernel_rfl) ?_
  have hF := Option.some.inj hF
  subst hF
  exact ⟨.inr rfl, rfl, ag [iv p0, iv p1], by kernel_rfl, WkV.flat0 (by kernel_rfl) (Nat.le_of_ble_eq_true rfl)⟩
theorem C43 (p0 : Int) (p1 : Int) (r : (Int × Int)) (hF : F43 p0 p1 = some r) : PureSim Try.prog 43 [iv p0, iv p1] [] (V43 0 r) (N43 0 r) :=
  PureSim.of_Fin Try.func43 (c := c43) (by kernel_rfl) (by kernel_rfl) 0 rfl [0, 1] [] (by kernel_rfl) (B43 p0 p1 r hF)

-- agonic/agoniclaw06.kit
noncomputable def c49 : Code := Try.f49.code
def F49 (p0 : Int) (p1 : Int) (p2 : Int) (p3 : Int) : Option ((Int × Int) × (Int × Int)) :=
  F43 p0 p1 >>= fun r1 =>
  F43 p2 p3 >>= fun r3 =>
  some ((r1.1, r1.2), (r3.1, r3.2))
def V49 (b : Nat) (r : ((Int × Int) × (Int × Int))) : Value := ag [iv r.1.1, iv r.1.2, iv r.2.1, iv r.2.2]
def N49 (b : Nat) (r : ((Int × Int) × (Int × Int))) : List Blk := []
theorem B49 (p0 : Int) (p1 : Int) (p2 : Int) (p3 : Int) (r : ((Int × Int) × (Int × Int))) (hF : F49 p0 p1 p2 p3 = some r) : TS Try.prog 0 0 c49 (st 16 [(0, iv p0), (1, iv p1), (2, iv p2), (3, iv p3)]) [] (NX Try.prog 0 0 [] (FinP Try.prog Try.f49 0 (V49 0 r) (N49 0 r))) := by
  unfold F49 at hF
  refine TS.seqP (by kernel_rfl) ?_
  refine TS.regionP (by kernel_rfl) ?_
  refine TI.run 1 [0, 1, 2, 3, 8] [0] (a2 := (st 16 [(0, iv p0), (1, iv p1), (2, iv p2), (3, iv p3), (8, pt 0 0)])) (h2 := [cl 25 [iv 0, iv 0, iv 0, iv 0]]) (by kernel_rfl) ?_
  refine TI.done (by kernel_rfl) ?_
  refine NX.sq ?_
  refine TS.seqP (by kernel_rfl) ?_
  have hX := of_do hF
  clear hF
  obtain ⟨r1, h2, hF⟩ := hX
  have hX := of_do hF
  clear hF
  obtain ⟨r3, h4, hF⟩ := hX
  refine TS.regionP (by kernel_rfl) ?_
  refine TI.runA 2 [2, 3, 8, 9, 10] (a2 := (st 16 [(2, iv p2), (3, iv p3), (8, pt 0 0), (9, iv p0), (10, iv p1)])) (by kernel_rfl) ?_
  refine TI.callF (C43 _ _ _ h2) (by kernel_rfl) (by kernel_rfl) ?_
  refine TI.runA 2 [8, 11, 12, 13] (a2 := (st 16 [(8, pt 0 0), (11, ag [iv r1.1, iv r1.2]), (12, iv p2), (13, iv p3)])) (by kernel_rfl) ?_
  refine TI.callF (C43 _ _ _ h4) (by kernel_rfl) (by kernel_rfl) ?_
  refine TI.run 2 [8] [0] (a2 := (st 16 [(8, pt 0 0)])) (h2 := [cl 25 [iv r1.1, iv r1.2, iv r3.1, iv r3.2]]) (by kernel_rfl) ?_
  refine TI.done (by kernel_rfl) ?_
  refine NX.sq ?_
  refine TS.ret' (by kernel_rfl) ?_
  have hF := Option.some.inj hF
  subst hF
  exact ⟨.inr rfl, rfl, ag [iv r1.1, iv r1.2, iv r3.1, iv r3.2], by kernel_rfl, WkV.flat0 (by kernel_rfl) (Nat.le_of_ble_eq_true rfl)⟩
theorem C49 (p0 : Int) (p1 : Int) (p2 : Int) (p3 : Int) (r : ((Int × Int) × (Int × Int))) (hF : F49 p0 p1 p2 p3 = some r) : PureSim Try.prog 49 [iv p0, iv p1, iv p2, iv p3] [] (V49 0 r) (N49 0 r) :=
  PureSim.of_Fin Try.func49 (c := c49) (by kernel_rfl) (by kernel_rfl) 0 rfl [0, 1, 2, 3] [] (by kernel_rfl) (B49 p0 p1 p2 p3 r hF)

-- agonic/agoniclaw06.area
noncomputable def c45 : Code := Try.f45.code
def F45 (p0 : Int) (p1 : Int) (p2 : Int) (p3 : Int) : Option Int :=
  some (mx (w64 ((w64 (p0 * p3)) - (w64 (p1 * p2)))) (w64 (0 - (w64 ((w64 (p0 * p3)) - (w64 (p1 * p2))))))) >>= fun o1 =>
  some o1
def V45 (b : Nat) (r : Int) : Value := iv r
def N45 (b : Nat) (r : Int) : List Blk := []
theorem B45 (p0 : Int) (p1 : Int) (p2 : Int) (p3 : Int) (r : Int) (hF : F45 p0 p1 p2 p3 = some r) : TS Try.prog 0 0 c45 (st 21 [(0, ag [iv p0, iv p1]), (1, ag [iv p2, iv p3])]) [] (NX Try.prog 0 0 [] (FinP Try.prog Try.f45 0 (V45 0 r) (N45 0 r))) := by
  unfold F45 at hF
  refine TS.seqP (by kernel_rfl) ?_
  refine TS.regionP (by kernel_rfl) ?_
  refine TI.run 3 [2, 3] [0, 1] (a2 := (st 21 [(2, pt 0 0), (3, pt 1 0)])) (h2 := [cl 23 [iv p0, iv p1], cl 23 [iv p2, iv p3]]) (by kernel_rfl) ?_
  refine TI.done (by kernel_rfl) ?_
  refine NX.sq ?_
  refine TS.seqP (by kernel_rfl) ?_
  refine TS.regionP (by kernel_rfl) ?_
  refine TI.run 12 [5] [] (a2 := (st 21 [(5, iv (w64 ((w64 (p0 * p3)) - (w64 (p1 * p2)))))])) (h2 := [.dead, .dead]) (by kernel_rfl) ?_
  refine TI.done (by kernel_rfl) ?_
  refine NX.sq ?_
  refine TS.seqP (by kernel_rfl) ?_
  have hX := of_do hF
  clear hF
  obtain ⟨o1, h2, hF⟩ := hX
  replace h2 := Option.some.inj h2
  refine TS.regionP (by kernel_rfl) ?_
  refine TI.runA 3 [17, 19] (a2 := (st 21 [(17, iv (w64 ((w64 (p0 * p3)) - (w64 (p1 * p2))))), (19, iv (w64 (0 - (w64 ((w64 (p0 * p3)) - (w64 (p1 * p2)))))))])) (by kernel_rfl) ?_
  refine TI.op (q := { val := iv o1 }) (q_convI (e := mx (w64 ((w64 (p0 * p3)) - (w64 (p1 * p2)))) (w64 (0 - (w64 ((w64 (p0 * p3)) - (w64 (p1 * p2))))))) (y := o1) (by kernel_rfl) h2) [20] [] (a2 := (st 21 [(20, iv o1)])) (h2 := [.dead, .dead]) (by kernel_rfl) ?_
  refine TI.runA 1 [4] (a2 := (st 21 [(4, iv o1)])) (by kernel_rfl) ?_
  refine TI.done (by kernel_rfl) ?_
  refine NX.sq ?_
  refine TS.ret' (by kernel_rfl) ?_
  have hF := Option.some.inj hF
  subst hF
  exact ⟨.inr rfl, rfl, iv o1, by kernel_rfl, WkV.flat0 (by kernel_rfl) (Nat.le_of_ble_eq_true rfl)⟩
theorem C45 (p0 : Int) (p1 : Int) (p2 : Int) (p3 : Int) (r : Int) (hF : F45 p0 p1 p2 p3 = some r) : PureSim Try.prog 45 [ag [iv p0, iv p1], ag [iv p2, iv p3]] [] (V45 0 r) (N45 0 r) :=
  PureSim.of_Fin Try.func45 (c := c45) (by kernel_rfl) (by kernel_rfl) 0 rfl [0, 1] [] (by kernel_rfl) (B45 p0 p1 p2 p3 r hF)

-- (agonic/agoniclaw06.Ship).made
noncomputable def c36 : Code := Try.f36.code
def H36_0 (p0 : Int) (p1 : Int) (p2 : Int) (p3 : Int) (p4 : Int) (p5 : Int) (m12 : (Int × Int × Int × Int)) : List Blk := [cl 77 [.int .i8 p0, .int .i8 p1, .int .i8 p2, .int .i8 p3, .int .i16 p4, .int .i16 p5], cl 25 [iv 0, iv 0, iv 0, iv 0], cl 23 [iv 0, iv 0], cl 25 [iv m12.1, iv m12.2.1, iv m12.2.2.1, iv m12.2.2.2]]
def S36_1  : CAct := (st 45 [(1, pt 0 0), (2, pt 1 0), (3, pt 2 0), (4, pt 3 0)])
def F36 (p0 : Int) (p1 : Int) (p2 : Int) (p3 : Int) (p4 : Int) (p5 : Int) : Option (((Int × Int) × (Int × Int)) × (Int × Int)) :=
  F49 (Int.tmod (w64 p0) 13) (Int.tmod (w64 p1) 13) (Int.tmod (w64 p2) 13) (Int.tmod (w64 p3) 13) >>= fun r1 =>
  F45 r1.1.1 r1.1.2 r1.2.1 r1.2.2 >>= fun r3 =>
  (
    if r3 == 0 then
      F49 3 1 1 4 >>= fun r17 =>
      some (r17.1.1, r17.1.2, r17.2.1, r17.2.2)
    else
      some (r1.1.1, r1.1.2, r1.2.1, r1.2.2)
  : Option (Int × Int × Int × Int)) >>= fun m12 =>
  F43 (Int.tmod (w64 p4) 200) (Int.tmod (w64 p5) 200) >>= fun r14 =>
  some (((m12.1, m12.2.1), (m12.2.2.1, m12.2.2.2)), (r14.1, r14.2))
def V36 (b : Nat) (r : (((Int × Int) × (Int × Int)) × (Int × Int))) : Value := .tuple ⟨[ag [iv r.1.1.1, iv r.1.1.2, iv r.1.2.1, iv r.1.2.2], ag [iv r.2.1, iv r.2.2]]⟩
def N36 (b : Nat) (r : (((Int × Int) × (Int × Int)) × (Int × Int))) : List Blk := []
theorem B36 (p0 : Int) (p1 : Int) (p2 : Int) (p3 : Int) (p4 : Int) (p5 : Int) (r : (((Int × Int) × (Int × Int)) × (Int × Int))) (hF : F36 p0 p1 p2 p3 p4 p5 = some r) : TS Try.prog 0 0 c36 (st 45 [(0, ag [.int .i8 p0, .int .i8 p1, .int .i8 p2, .int .i8 p3, .int .i16 p4, .int .i16 p5])]) [] (NX Try.prog 0 0 [] (FinP Try.prog Try.f36 0 (V36 0 r) (N36 0 r))) := by
  unfold F36 at hF
  refine TS.seqP (by kernel_rfl) ?_
  refine TS.regionP (by kernel_rfl) ?_
  refine TI.run 3 [1, 2, 3] [0, 1, 2] (a2 := (st 45 [(1, pt 0 0), (2, pt 1 0), (3, pt 2 0)])) (h2 := [cl 77 [.int .i8 p0, .int .i8 p1, .int .i8 p2, .int .i8 p3, .int .i16 p4, .int .i16 p5], cl 25 [iv 0, iv 0, iv 0, iv 0], cl 23 [iv 0, iv 0]]) (by kernel_rfl) ?_
  refine TI.done (by kernel_rfl) ?_
  refine NX.sq ?_
  refine TS.seqP (by kernel_rfl) ?_
  have hX := of_do hF
  clear hF
  obtain ⟨r1, h2, hF⟩ := hX
  refine TS.regionP (by kernel_rfl) ?_
  refine TI.runA 20 [1, 2, 3, 9, 14, 19, 24] (a2 := (st 45 [(1, pt 0 0), (2, pt 1 0), (3, pt 2 0), (9, iv (Int.tmod (w64 p0) 13)), (14, iv (Int.tmod (w64 p1) 13)), (19, iv (Int.tmod (w64 p2) 13)), (24, iv (Int.tmod (w64 p3) 13))])) (by kernel_rfl) ?_
  refine TI.callF (C49 _ _ _ _ _ h2) (by kernel_rfl) (by kernel_rfl) ?_
  refine TI.run 2 [1, 2, 3, 4] [0, 1, 2, 3] (a2 := (S36_1)) (h2 := [cl 77 [.int .i8 p0, .int .i8 p1, .int .i8 p2, .int .i8 p3, .int .i16 p4, .int .i16 p5], cl 25 [iv 0, iv 0, iv 0, iv 0], cl 23 [iv 0, iv 0], cl 25 [iv r1.1.1, iv r1.1.2, iv r1.2.1, iv r1.2.2]]) (by kernel_rfl) ?_
  refine TI.done (by kernel_rfl) ?_
  refine NX.sq ?_
  refine TS.seqP (by kernel_rfl) ?_
  refine TS.seqP (by kernel_rfl) ?_
  have hX := of_do hF
  clear hF
  obtain ⟨r3, h4, hF⟩ := hX
  refine TS.regionP (by kernel_rfl) ?_
  refine TI.runA 4 [1, 2, 3, 4, 27, 29] (a2 := (st 45 [(1, pt 0 0), (2, pt 1 0), (3, pt 2 0), (4, pt 3 0), (27, ag [iv r1.1.1, iv r1.1.2]), (29, ag [iv r1.2.1, iv r1.2.2])])) (by kernel_rfl) ?_
  refine TI.callF (C45 _ _ _ _ _ h4) (by kernel_rfl) (by kernel_rfl) ?_
  refine TI.runA 1 [1, 2, 3, 4, 31] (a2 := (st 45 [(1, pt 0 0), (2, pt 1 0), (3, pt 2 0), (4, pt 3 0), (31, .bool (r3 == 0))])) (by kernel_rfl) ?_
  refine TI.done (by kernel_rfl) ?_
  refine NX.sq ?_
  have hX := of_do hF
  clear hF
  obtain ⟨m12, hm13, hF⟩ := hX
  have hK : NX Try.prog 0 0 [.sq c36.s2.s2.s2] (FinP Try.prog Try.f36 0 (V36 0 r) (N36 0 r)) .normal (S36_1) (H36_0 p0 p1 p2 p3 p4 p5 m12) := by
    refine NX.sq ?_
    refine TS.seqP (by kernel_rfl) ?_
    have hX := of_do hF
    clear hF
    obtain ⟨r14, h15, hF⟩ := hX
    have hT : ∀ e ∈ ([⟨43, [iv (Int.tmod (w64 p4) 200), iv (Int.tmod (w64 p5) 200)], (H36_0 p0 p1 p2 p3 p4 p5 m12), ag [iv r14.1, iv r14.2], []⟩] : List Entry), PureSim Try.prog e.g e.args e.h e.v e.new := by
      intro e he
      simp only [List.mem_cons, List.not_mem_nil, or_false] at he
      rcases he with rfl
      · exact PureSim.anyK (C43 _ _ _ h15) (by kernel_rfl)
    refine TS.drawP [⟨43, [iv (Int.tmod (w64 p4) 200), iv (Int.tmod (w64 p5) 200)], (H36_0 p0 p1 p2 p3 p4 p5 m12), ag [iv r14.1, iv r14.2], []⟩] hT mixed (by kernel_rfl) 12 (by kernel_rfl) [2, 3] [1, 2] (a2 := (st 45 [(2, pt 1 0), (3, pt 2 0)])) (h2 := [.dead, cl 25 [iv m12.1, iv m12.2.1, iv m12.2.2.1, iv m12.2.2.2], cl 23 [iv r14.1, iv r14.2], .dead]) ?_ ?_
    · refine QJ.run (s1 := (qs (st 45 [(1, pt 0 0), (2, pt 1 0), (3, pt 2 0), (4, pt 3 0), (33, ag [iv m12.1, iv m12.2.1, iv m12.2.2.1, iv m12.2.2.2]), (34, pt 0 4), (35, pt 0 4), (36, .int .i16 p4), (37, iv (w64 p4)), (38, iv (Int.tmod (w64 p4) 200)), (39, pt 0 4), (40, pt 0 5), (41, .int .i16 p5), (42, iv (w64 p5)), (43, iv (Int.tmod (w64 p5) 200))]) (H36_0 p0 p1 p2 p3 p4 p5 m12) [] [])) 11 (by kernel_rfl) (by kernel_rfl) ?_
      refine QJ.op (q := { val := ag [iv r14.1, iv r14.2], new := [] }) (by decide) (qOf_call (g := 43) (args := [iv (Int.tmod (w64 p4) 200), iv (Int.tmod (w64 p5) 200)]) (by kernel_rfl) lookC_hit) ?_
      refine QJ.done (by kernel_rfl) ⟨rfl, ?_⟩
      refine SJ.last (by kernel_rfl)
    refine TS.ret' (by kernel_rfl) ?_
    have hF := Option.some.inj hF
    subst hF
    exact ⟨.inr rfl, rfl, .tuple ⟨[ag [iv m12.1, iv m12.2.1, iv m12.2.2.1, iv m12.2.2.2], ag [iv r14.1, iv r14.2]]⟩, by kernel_rfl, WkV.flat0 (by kernel_rfl) (Nat.le_of_ble_eq_true rfl)⟩
  clear hF
  have hF := hm13
  clear hm13
  refine TS.start ?_
  refine TS.condP (o := (.tmp 31)) (b := r3 == 0) (by kernel_rfl) (by kernel_rfl) (fun hc16 => ?_) (fun hc16 => ?_)
  · replace hF := of_pos hF hc16
    have hX := of_do hF
    clear hF
    obtain ⟨r17, h18, hF⟩ := hX
    refine TS.regionP (by kernel_rfl) ?_
    refine TI.callF (C49 _ _ _ _ _ h18) (by kernel_rfl) (by kernel_rfl) ?_
    refine TI.run 1 [1, 2, 3, 4] [0, 1, 2, 3] (a2 := (S36_1)) (h2 := [cl 77 [.int .i8 p0, .int .i8 p1, .int .i8 p2, .int .i8 p3, .int .i16 p4, .int .i16 p5], cl 25 [iv 0, iv 0, iv 0, iv 0], cl 23 [iv 0, iv 0], cl 25 [iv r17.1.1, iv r17.1.2, iv r17.2.1, iv r17.2.2]]) (by kernel_rfl) ?_
    refine TI.done (by kernel_rfl) ?_
    have hF := Option.some.inj hF
    subst hF
    exact TS.weak (Wk.anew (base := 0) (L := 0) (f := [0, 1, 2, 3]) (by decide) (by decide) (Nat.le_of_ble_eq_true rfl) rfl (.cons (At.blk (by kernel_rfl) (RnB.lit (.cons (.flat (by kernel_rfl)) (.cons (.flat (by kernel_rfl)) (.cons (.flat (by kernel_rfl)) (.cons (.flat (by kernel_rfl)) (.cons (.flat (by kernel_rfl)) (.cons (.flat (by kernel_rfl)) .nil)))))))) (.cons (At.blk (by kernel_rfl) (RnB.lit (.cons (.flat (by kernel_rfl)) (.cons (.flat (by kernel_rfl)) (.cons (.flat (by kernel_rfl)) (.cons (.flat (by kernel_rfl)) .nil)))))) (.cons (At.blk (by kernel_rfl) (RnB.lit (.cons (.flat (by kernel_rfl)) (.cons (.flat (by kernel_rfl)) .nil)))) (.cons (At.blk (by kernel_rfl) (RnB.lit (.cons (.flat (by kernel_rfl)) (.cons (.flat (by kernel_rfl)) (.cons (.flat (by kernel_rfl)) (.cons (.flat (by kernel_rfl)) .nil)))))) (.nil _))))) (LRn.stx [1, 2, 3, 4] [pt 0 0, pt 1 0, pt 2 0, pt 3 0] [pt 0 0, pt 1 0, pt 2 0, pt 3 0] (.cons (Rn.ptr _ _ _ (Nat.le_of_ble_eq_true rfl) rfl) (.cons (Rn.ptr _ _ _ (Nat.le_of_ble_eq_true rfl) rfl) (.cons (Rn.ptr _ _ _ (Nat.le_of_ble_eq_true rfl) rfl) (.cons (Rn.ptr _ _ _ (Nat.le_of_ble_eq_true rfl) rfl) .nil)))) (by kernel_rfl) (by kernel_rfl) rfl) rfl rfl) hK
  · replace hF := of_neg hF hc16
    refine TS.skip' (by kernel_rfl) ?_
    have hF := Option.some.inj hF
    subst hF
    exact TS.weak (Wk.anew (base := 0) (L := 0) (f := [0, 1, 2, 3]) (by decide) (by decide) (Nat.le_of_ble_eq_true rfl) rfl (.cons (At.blk (by kernel_rfl) (RnB.lit (.cons (.flat (by kernel_rfl)) (.cons (.flat (by kernel_rfl)) (.cons (.flat (by kernel_rfl)) (.cons (.flat (by kernel_rfl)) (.cons (.flat (by kernel_rfl)) (.cons (.flat (by kernel_rfl)) .nil)))))))) (.cons (At.blk (by kernel_rfl) (RnB.lit (.cons (.flat (by kernel_rfl)) (.cons (.flat (by kernel_rfl)) (.cons (.flat (by kernel_rfl)) (.cons (.flat (by kernel_rfl)) .nil)))))) (.cons (At.blk (by kernel_rfl) (RnB.lit (.cons (.flat (by kernel_rfl)) (.cons (.flat (by kernel_rfl)) .nil)))) (.cons (At.blk (by kernel_rfl) (RnB.lit (.cons (.flat (by kernel_rfl)) (.cons (.flat (by kernel_rfl)) (.cons (.flat (by kernel_rfl)) (.cons (.flat (by kernel_rfl)) .nil)))))) (.nil _))))) (LRn.stx [1, 2, 3, 4] [pt 0 0, pt 1 0, pt 2 0, pt 3 0] [pt 0 0, pt 1 0, pt 2 0, pt 3 0] (.cons (Rn.ptr _ _ _ (Nat.le_of_ble_eq_true rfl) rfl) (.cons (Rn.ptr _ _ _ (Nat.le_of_ble_eq_true rfl) rfl) (.cons (Rn.ptr _ _ _ (Nat.le_of_ble_eq_true rfl) rfl) (.cons (Rn.ptr _ _ _ (Nat.le_of_ble_eq_true rfl) rfl) .nil)))) (by kernel_rfl) (by kernel_rfl) rfl) rfl rfl) hK
theorem C36 (p0 : Int) (p1 : Int) (p2 : Int) (p3 : Int) (p4 : Int) (p5 : Int) (r : (((Int × Int) × (Int × Int)) × (Int × Int))) (hF : F36 p0 p1 p2 p3 p4 p5 = some r) : PureSim Try.prog 36 [ag [.int .i8 p0, .int .i8 p1, .int .i8 p2, .int .i8 p3, .int .i16 p4, .int .i16 p5]] [] (V36 0 r) (N36 0 r) :=
  PureSim.of_Fin Try.func36 (c := c36) (by kernel_rfl) (by kernel_rfl) 0 rfl [0] [] (by kernel_rfl) (B36 p0 p1 p2 p3 p4 p5 r hF)

-- agonic/agoniclaw06.tame
noncomputable def c38 : Code := Try.f38.code
def F38 (p0 : Int) (p1 : Int) : Option Bool :=
  (
    if decide (p0 ≥ (-1000000)) then
      if decide (p0 ≤ 1000000) then
        if decide (p1 ≥ (-1000000)) then
          some (decide (p1 ≤ 1000000))
        else
          some (false)
      else
        some (false)
    else
      some (false)
  : Option Bool) >>= fun m4 =>
  some m4
def V38 (b : Nat) (r : Bool) : Value := .bool r
def N38 (b : Nat) (r : Bool) : List Blk := []
theorem B38 (p0 : Int) (p1 : Int) (r : Bool) (hF : F38 p0 p1 = some r) : TS Try.prog 0 0 c38 (st 21 [(0, ag [iv p0, iv p1])]) [] (NX Try.prog 0 0 [] (FinP Try.prog Try.f38 0 (V38 0 r) (N38 0 r))) := by
  unfold F38 at hF
  refine TS.seqP (by kernel_rfl) ?_
  refine TS.regionP (by kernel_rfl) ?_
  refine TI.run 2 [1] [0] (a2 := (st 21 [(1, pt 0 0)])) (h2 := [cl 27 [iv p0, iv p1]]) (by kernel_rfl) ?_
  refine TI.done (by kernel_rfl) ?_
  refine NX.sq ?_
  refine TS.seqP (by kernel_rfl) ?_
  have hX := of_do hF
  clear hF
  obtain ⟨m4, hm5, hF⟩ := hX
  have hK : NX Try.prog 0 0 [.sq c38.s2.s2] (FinP Try.prog Try.f38 0 (V38 0 r) (N38 0 r)) .normal (st 21 [(2, .bool m4)]) [.dead] := by
    refine NX.sq ?_
    refine TS.ret' (by kernel_rfl) ?_
    have hF := Option.some.inj hF
    subst hF
    exact ⟨.inr rfl, rfl, .bool m4, by kernel_rfl, WkV.flat0 (by kernel_rfl) (Nat.le_of_ble_eq_true rfl)⟩
  rcases Bool.eq_false_or_eq_true (decide (p0 ≥ (-1000000))) with hc1 | hc1
  · replace hm5 := of_pos hm5 hc1
    rcases Bool.eq_false_or_eq_true (decide (p0 ≤ 1000000)) with hc2 | hc2
    · replace hm5 := of_pos hm5 hc2
      rcases Bool.eq_false_or_eq_true (decide (p1 ≥ (-1000000))) with hc3 | hc3
      · replace hm5 := of_pos hm5 hc3
        have hm5 := Option.some.inj hm5
        subst hm5
        refine TS.regionP (by kernel_rfl) ?_
        refine TI.runA 2 [1, 4] (a2 := (st 21 [(1, pt 0 0), (4, iv p0)])) (by kernel_rfl) ?_
        refine TI.op (q := { val := .bool true }) (q_conv (e := decide (p0 ≥ (-1000000))) (b := true) (by kernel_rfl) hc1) [1, 5] [0] (a2 := (st 21 [(1, pt 0 0), (5, .bool true)])) (h2 := [cl 27 [iv p0, iv p1]]) (by kernel_rfl) ?_
        refine TI.runA 3 [1, 6, 8] (a2 := (st 21 [(1, pt 0 0), (6, .bool true), (8, iv p0)])) (by kernel_rfl) ?_
        refine TI.op (q := { val := .bool true }) (q_conv (e := decide (p0 ≤ 1000000)) (b := true) (by kernel_rfl) hc2) [1, 6, 9] [0] (a2 := (st 21 [(1, pt 0 0), (6, .bool true), (9, .bool true)])) (h2 := [cl 27 [iv p0, iv p1]]) (by kernel_rfl) ?_
        refine TI.runA 4 [1, 11, 13] (a2 := (st 21 [(1, pt 0 0), (11, .bool true), (13, iv p1)])) (by kernel_rfl) ?_
        refine TI.op (q := { val := .bool true }) (q_conv (e := decide (p1 ≥ (-1000000))) (b := true) (by kernel_rfl) hc3) [1, 11, 14] [0] (a2 := (st 21 [(1, pt 0 0), (11, .bool true), (14, .bool true)])) (h2 := [cl 27 [iv p0, iv p1]]) (by kernel_rfl) ?_
        refine TI.run 7 [2] [] (a2 := (st 21 [(2, .bool (decide (p1 ≤ 1000000)))])) (h2 := [.dead]) (by kernel_rfl) ?_
        refine TI.done (by kernel_rfl) ?_
        exact hK
      · replace hm5 := of_neg hm5 hc3
        have hm5 := Option.some.inj hm5
        subst hm5
        refine TS.regionP (by kernel_rfl) ?_
        refine TI.runA 2 [1, 4] (a2 := (st 21 [(1, pt 0 0), (4, iv p0)])) (by kernel_rfl) ?_
        refine TI.op (q := { val := .bool true }) (q_conv (e := decide (p0 ≥ (-1000000))) (b := true) (by kernel_rfl) hc1) [1, 5] [0] (a2 := (st 21 [(1, pt 0 0), (5, .bool true)])) (h2 := [cl 27 [iv p0, iv p1]]) (by kernel_rfl) ?_
        refine TI.runA 3 [1, 6, 8] (a2 := (st 21 [(1, pt 0 0), (6, .bool true), (8, iv p0)])) (by kernel_rfl) ?_
        refine TI.op (q := { val := .bool true }) (q_conv (e := decide (p0 ≤ 1000000)) (b := true) (by kernel_rfl) hc2) [1, 6, 9] [0] (a2 := (st 21 [(1, pt 0 0), (6, .bool true), (9, .bool true)])) (h2 := [cl 27 [iv p0, iv p1]]) (by kernel_rfl) ?_
        refine TI.runA 4 [1, 11, 13] (a2 := (st 21 [(1, pt 0 0), (11, .bool true), (13, iv p1)])) (by kernel_rfl) ?_
        refine TI.op (q := { val := .bool false }) (q_conv (e := decide (p1 ≥ (-1000000))) (b := false) (by kernel_rfl) hc3) [1, 11, 14] [0] (a2 := (st 21 [(1, pt 0 0), (11, .bool true), (14, .bool false)])) (h2 := [cl 27 [iv p0, iv p1]]) (by kernel_rfl) ?_
        refine TI.run 7 [2] [] (a2 := (st 21 [(2, .bool false)])) (h2 := [.dead]) (by kernel_rfl) ?_
        refine TI.done (by kernel_rfl) ?_
        exact hK
    · replace hm5 := of_neg hm5 hc2
      have hm5 := Option.some.inj hm5
      subst hm5
      refine TS.regionP (by kernel_rfl) ?_
      refine TI.runA 2 [1, 4] (a2 := (st 21 [(1, pt 0 0), (4, iv p0)])) (by kernel_rfl) ?_
      refine TI.op (q := { val := .bool true }) (q_conv (e := decide (p0 ≥ (-1000000))) (b := true) (by kernel_rfl) hc1) [1, 5] [0] (a2 := (st 21 [(1, pt 0 0), (5, .bool true)])) (h2 := [cl 27 [iv p0, iv p1]]) (by kernel_rfl) ?_
      refine TI.runA 3 [1, 6, 8] (a2 := (st 21 [(1, pt 0 0), (6, .bool true), (8, iv p0)])) (by kernel_rfl) ?_
      refine TI.op (q := { val := .bool false }) (q_conv (e := decide (p0 ≤ 1000000)) (b := false) (by kernel_rfl) hc2) [1, 6, 9] [0] (a2 := (st 21 [(1, pt 0 0), (6, .bool true), (9, .bool false)])) (h2 := [cl 27 [iv p0, iv p1]]) (by kernel_rfl) ?_
      refine TI.run 12 [2] [] (a2 := (st 21 [(2, .bool false)])) (h2 := [.dead]) (by kernel_rfl) ?_
      refine TI.done (by kernel_rfl) ?_
      exact hK
  · replace hm5 := of_neg hm5 hc1
    have hm5 := Option.some.inj hm5
    subst hm5
    refine TS.regionP (by kernel_rfl) ?_
    refine TI.runA 2 [1, 4] (a2 := (st 21 [(1, pt 0 0), (4, iv p0)])) (by kernel_rfl) ?_
    refine TI.op (q := { val := .bool false }) (q_conv (e := decide (p0 ≥ (-1000000))) (b := false) (by kernel_rfl) hc1) [1, 5] [0] (a2 := (st 21 [(1, pt 0 0), (5, .bool false)])) (h2 := [cl 27 [iv p0, iv p1]]) (by kernel_rfl) ?_
    refine TI.run 16 [2] [] (a2 := (st 21 [(2, .bool false)])) (h2 := [.dead]) (by kernel_rfl) ?_
    refine TI.done (by kernel_rfl) ?_
    exact hK
theorem C38 (p0 : Int) (p1 : Int) (r : Bool) (hF : F38 p0 p1 = some r) : PureSim Try.prog 38 [ag [iv p0, iv p1]] [] (V38 0 r) (N38 0 r) :=
  PureSim.of_Fin Try.func38 (c := c38) (by kernel_rfl) (by kernel_rfl) 0 rfl [0] [] (by kernel_rfl) (B38 p0 p1 r hF)

-- agonic/agoniclaw06.pull
noncomputable def c40 : Code := Try.f40.code
def F40 (p0 : Int) (p1 : Int) (p2 : Int) (p3 : Int) (p4 : Int) (p5 : Int) : Option (Int × Int) :=
  F43 (w64 ((w64 (p4 * p0)) + (w64 (p5 * p2)))) (w64 ((w64 (p4 * p1)) + (w64 (p5 * p3)))) >>= fun r1 =>
  some (r1.1, r1.2)
def V40 (b : Nat) (r : (Int × Int)) : Value := ag [iv r.1, iv r.2]
def N40 (b : Nat) (r : (Int × Int)) : List Blk := []
theorem B40 (p0 : Int) (p1 : Int) (p2 : Int) (p3 : Int) (p4 : Int) (p5 : Int) (r : (Int × Int)) (hF : F40 p0 p1 p2 p3 p4 p5 = some r) : TS Try.prog 0 0 c40 (st 32 [(0, ag [iv p0, iv p1, iv p2, iv p3]), (1, ag [iv p4, iv p5])]) [] (NX Try.prog 0 0 [] (FinP Try.prog Try.f40 0 (V40 0 r) (N40 0 r))) := by
  unfold F40 at hF
  refine TS.seqP (by kernel_rfl) ?_
  refine TS.regionP (by kernel_rfl) ?_
  refine TI.run 3 [2, 3, 4] [0, 1, 2] (a2 := (st 32 [(2, pt 0 0), (3, pt 1 0), (4, pt 2 0)])) (h2 := [cl 25 [iv p0, iv p1, iv p2, iv p3], cl 27 [iv p4, iv p5], cl 23 [iv 0, iv 0]]) (by kernel_rfl) ?_
  refine TI.done (by kernel_rfl) ?_
  refine NX.sq ?_
  refine TS.seqP (by kernel_rfl) ?_
  have hX := of_do hF
  clear hF
  obtain ⟨r1, h2, hF⟩ := hX
  refine TS.regionP (by kernel_rfl) ?_
  refine TI.run 26 [4, 17, 30] [2] (a2 := (st 32 [(4, pt 2 0), (17, iv (w64 ((w64 (p4 * p0)) + (w64 (p5 * p2))))), (30, iv (w64 ((w64 (p4 * p1)) + (w64 (p5 * p3)))))])) (h2 := [.dead, .dead, cl 23 [iv 0, iv 0]]) (by kernel_rfl) ?_
  refine TI.callF (C43 _ _ _ h2) (by kernel_rfl) (by kernel_rfl) ?_
  refine TI.run 1 [4] [2] (a2 := (st 32 [(4, pt 2 0)])) (h2 := [.dead, .dead, cl 23 [iv r1.1, iv r1.2]]) (by kernel_rfl) ?_
  refine TI.done (by kernel_rfl) ?_
  refine NX.sq ?_
  refine TS.ret' (by kernel_rfl) ?_
  have hF := Option.some.inj hF
  subst hF
  exact ⟨.inr rfl, rfl, ag [iv r1.1, iv r1.2], by kernel_rfl, WkV.flat0 (by kernel_rfl) (Nat.le_of_ble_eq_true rfl)⟩
theorem C40 (p0 : Int) (p1 : Int) (p2 : Int) (p3 : Int) (p4 : Int) (p5 : Int) (r : (Int × Int)) (hF : F40 p0 p1 p2 p3 p4 p5 = some r) : PureSim Try.prog 40 [ag [iv p0, iv p1, iv p2, iv p3], ag [iv p4, iv p5]] [] (V40 0 r) (N40 0 r) :=
  PureSim.of_Fin Try.func40 (c := c40) (by kernel_rfl) (by kernel_rfl) 0 rfl [0, 1] [] (by kernel_rfl) (B40 p0 p1 p2 p3 p4 p5 r hF)

-- agonic/agoniclaw06.dot
noncomputable def c41 : Code := Try.f41.code
def F41 (p0 : Int) (p1 : Int) (p2 : Int) (p3 : Int) : Option Int :=
  some (w64 ((w64 (p0 * p2)) + (w64 (p1 * p3))))
def V41 (b : Nat) (r : Int) : Value := iv r
def N41 (b : Nat) (r : Int) : List Blk := []
theorem B41 (p0 : Int) (p1 : Int) (p2 : Int) (p3 : Int) (r : Int) (hF : F41 p0 p1 p2 p3 = some r) : TS Try.prog 0 0 c41 (st 16 [(0, ag [iv p0, iv p1]), (1, ag [iv p2, iv p3])]) [] (NX Try.prog 0 0 [] (FinP Try.prog Try.f41 0 (V41 0 r) (N41 0 r))) := by
  unfold F41 at hF
  refine TS.seqP (by kernel_rfl) ?_
  refine TS.regionP (by kernel_rfl) ?_
  refine TI.run 3 [2, 3] [0, 1] (a2 := (st 16 [(2, pt 0 0), (3, pt 1 0)])) (h2 := [cl 23 [iv p0, iv p1], cl 23 [iv p2, iv p3]]) (by kernel_rfl) ?_
  refine TI.done (by kernel_rfl) ?_
  refine NX.sq ?_
  refine TS.seqP (by kernel_rfl) ?_
  refine TS.regionP (by kernel_rfl) ?_
  refine TI.run 12 [4] [] (a2 := (st 16 [(4, iv (w64 ((w64 (p0 * p2)) + (w64 (p1 * p3)))))])) (h2 := [.dead, .dead]) (by kernel_rfl) ?_
  refine TI.done (by kernel_rfl) ?_
  refine NX.sq ?_
  refine TS.ret' (by kernel_rfl) ?_
  have hF := Option.some.inj hF
  subst hF
  exact ⟨.inr rfl, rfl, iv (w64 ((w64 (p0 * p2)) + (w64 (p1 * p3)))), by kernel_rfl, WkV.flat0 (by kernel_rfl) (Nat.le_of_ble_eq_true rfl)⟩
theorem C41 (p0 : Int) (p1 : Int) (p2 : Int) (p3 : Int) (r : Int) (hF : F41 p0 p1 p2 p3 = some r) : PureSim Try.prog 41 [ag [iv p0, iv p1], ag [iv p2, iv p3]] [] (V41 0 r) (N41 0 r) :=
  PureSim.of_Fin Try.func41 (c := c41) (by kernel_rfl) (by kernel_rfl) 0 rfl [0, 1] [] (by kernel_rfl) (B41 p0 p1 p2 p3 r hF)

-- agonic/agoniclaw06.bundled
noncomputable def c37 : Code := Try.f37.code
def S37_0 (r13 : Int) (r29 : Int) (r1 : ((Int × Int) × (Int × Int) × Int)) (r9 : (Int × Int)) (r11 : (Int × Int)) (r24 : Int) (r26 : Int) : CAct := (st 85 [(2, pt 1 0), (3, .bool (decide ((w64 (2 * (mx r13 (w64 (0 - r13))))) ≤ r29))), (7, pt 4 0), (8, iv (w64 ((w64 (r1.1.1 * r1.2.1.2)) - (w64 (r1.1.2 * r1.2.1.1))))), (9, iv r13), (52, ag [iv r9.1, iv r9.2, iv r11.1, iv r11.2]), (53, iv (w64 ((w64 (r1.1.1 * r1.2.1.2)) - (w64 (r1.1.2 * r1.2.1.1))))), (54, .bool false), (55, .bool false), (56, iv (w64 ((w64 (r1.1.1 * r1.2.1.2)) - (w64 (r1.1.2 * r1.2.1.1))))), (57, .bool true), (58, .bool true), (59, .bool true), (60, pt 4 0), (61, ag [iv r9.1, iv r9.2]), (62, pt 4 0), (63, ag [iv r9.1, iv r9.2]), (64, iv r24), (65, pt 4 2), (66, ag [iv r11.1, iv r11.2]), (67, pt 4 2), (68, ag [iv r11.1, iv r11.2]), (69, iv r26), (70, .bool true), (71, .bool true), (72, .bool true), (73, iv r13), (74, iv r13), (75, iv (w64 (0 - r13))), (76, iv (mx r13 (w64 (0 - r13)))), (77, iv (w64 (2 * (mx r13 (w64 (0 - r13)))))), (78, pt 4 0), (79, ag [iv r9.1, iv r9.2]), (80, pt 4 0), (81, ag [iv r9.1, iv r9.2]), (82, iv r29), (83, .bool (decide ((w64 (2 * (mx r13 (w64 (0 - r13))))) ≤ r29))), (84, .bool (decide ((w64 (2 * (mx r13 (w64 (0 - r13))))) ≤ r29)))])
def S37_1 (r13 : Int) (r21 : Int) (r1 : ((Int × Int) × (Int × Int) × Int)) (r9 : (Int × Int)) (r11 : (Int × Int)) (r16 : Int) (r18 : Int) : CAct := (st 85 [(2, pt 1 0), (3, .bool (decide ((w64 (2 * (mx r13 (w64 (0 - r13))))) ≤ r21))), (7, pt 4 0), (8, iv (w64 ((w64 (r1.1.1 * r1.2.1.2)) - (w64 (r1.1.2 * r1.2.1.1))))), (9, iv r13), (52, ag [iv r9.1, iv r9.2, iv r11.1, iv r11.2]), (53, iv (w64 ((w64 (r1.1.1 * r1.2.1.2)) - (w64 (r1.1.2 * r1.2.1.1))))), (54, .bool true), (55, .bool true), (56, undef), (57, undef), (58, .bool true), (59, .bool true), (60, pt 4 0), (61, ag [iv r9.1, iv r9.2]), (62, pt 4 0), (63, ag [iv r9.1, iv r9.2]), (64, iv r16), (65, pt 4 2), (66, ag [iv r11.1, iv r11.2]), (67, pt 4 2), (68, ag [iv r11.1, iv r11.2]), (69, iv r18), (70, .bool true), (71, .bool true), (72, .bool true), (73, iv r13), (74, iv r13), (75, iv (w64 (0 - r13))), (76, iv (mx r13 (w64 (0 - r13)))), (77, iv (w64 (2 * (mx r13 (w64 (0 - r13)))))), (78, pt 4 0), (79, ag [iv r9.1, iv r9.2]), (80, pt 4 0), (81, ag [iv r9.1, iv r9.2]), (82, iv r21), (83, .bool (decide ((w64 (2 * (mx r13 (w64 (0 - r13))))) ≤ r21))), (84, .bool (decide ((w64 (2 * (mx r13 (w64 (0 - r13))))) ≤ r21)))])
def S37_2 (r1 : ((Int × Int) × (Int × Int) × Int)) (r13 : Int) (r9 : (Int × Int)) (r11 : (Int × Int)) (r24 : Int) (r26 : Int) (r29 : Int) : CAct := (st 85 [(2, pt 1 0), (7, pt 4 0), (8, iv (w64 ((w64 (r1.1.1 * r1.2.1.2)) - (w64 (r1.1.2 * r1.2.1.1))))), (9, iv r13), (52, ag [iv r9.1, iv r9.2, iv r11.1, iv r11.2]), (53, iv (w64 ((w64 (r1.1.1 * r1.2.1.2)) - (w64 (r1.1.2 * r1.2.1.1))))), (54, .bool false), (55, .bool false), (56, iv (w64 ((w64 (r1.1.1 * r1.2.1.2)) - (w64 (r1.1.2 * r1.2.1.1))))), (57, .bool true), (58, .bool true), (59, .bool true), (60, pt 4 0), (61, ag [iv r9.1, iv r9.2]), (62, pt 4 0), (63, ag [iv r9.1, iv r9.2]), (64, iv r24), (65, pt 4 2), (66, ag [iv r11.1, iv r11.2]), (67, pt 4 2), (68, ag [iv r11.1, iv r11.2]), (69, iv r26), (70, .bool true), (71, .bool true), (72, .bool true), (73, iv r13), (74, iv r13), (75, iv (w64 (0 - r13))), (76, iv (mx r13 (w64 (0 - r13)))), (77, iv (w64 (2 * (mx r13 (w64 (0 - r13)))))), (78, pt 4 0), (79, ag [iv r9.1, iv r9.2]), (80, pt 4 0), (81, ag [iv r9.1, iv r9.2]), (82, iv r29), (83, .bool (decide ((w64 (2 * (mx r13 (w64 (0 - r13))))) ≤ r29))), (84, .bool (decide ((w64 (2 * (mx r13 (w64 (0 - r13))))) ≤ r29)))])
def S37_3 (r1 : ((Int × Int) × (Int × Int) × Int)) (r13 : Int) (r9 : (Int × Int)) (r11 : (Int × Int)) (r16 : Int) (r18 : Int) (r21 : Int) : CAct := (st 85 [(2, pt 1 0), (7, pt 4 0), (8, iv (w64 ((w64 (r1.1.1 * r1.2.1.2)) - (w64 (r1.1.2 * r1.2.1.1))))), (9, iv r13), (52, ag [iv r9.1, iv r9.2, iv r11.1, iv r11.2]), (53, iv (w64 ((w64 (r1.1.1 * r1.2.1.2)) - (w64 (r1.1.2 * r1.2.1.1))))), (54, .bool true), (55, .bool true), (56, undef), (57, undef), (58, .bool true), (59, .bool true), (60, pt 4 0), (61, ag [iv r9.1, iv r9.2]), (62, pt 4 0), (63, ag [iv r9.1, iv r9.2]), (64, iv r16), (65, pt 4 2), (66, ag [iv r11.1, iv r11.2]), (67, pt 4 2), (68, ag [iv r11.1, iv r11.2]), (69, iv r18), (70, .bool true), (71, .bool true), (72, .bool true), (73, iv r13), (74, iv r13), (75, iv (w64 (0 - r13))), (76, iv (mx r13 (w64 (0 - r13)))), (77, iv (w64 (2 * (mx r13 (w64 (0 - r13)))))), (78, pt 4 0), (79, ag [iv r9.1, iv r9.2]), (80, pt 4 0), (81, ag [iv r9.1, iv r9.2]), (82, iv r21), (83, .bool (decide ((w64 (2 * (mx r13 (w64 (0 - r13))))) ≤ r21))), (84, .bool (decide ((w64 (2 * (mx r13 (w64 (0 - r13))))) ≤ r21)))])
def S37_4 (r1 : ((Int × Int) × (Int × Int) × Int)) (r13 : Int) (r9 : (Int × Int)) (r11 : (Int × Int)) (r24 : Int) (r26 : Int) (r29 : Int) : CAct := (st 85 [(2, pt 1 0), (7, pt 4 0), (8, iv (w64 ((w64 (r1.1.1 * r1.2.1.2)) - (w64 (r1.1.2 * r1.2.1.1))))), (9, iv r13), (52, ag [iv r9.1, iv r9.2, iv r11.1, iv r11.2]), (53, iv (w64 ((w64 (r1.1.1 * r1.2.1.2)) - (w64 (r1.1.2 * r1.2.1.1))))), (54, .bool false), (55, .bool false), (56, iv (w64 ((w64 (r1.1.1 * r1.2.1.2)) - (w64 (r1.1.2 * r1.2.1.1))))), (57, .bool true), (58, .bool true), (59, .bool true), (60, pt 4 0), (61, ag [iv r9.1, iv r9.2]), (62, pt 4 0), (63, ag [iv r9.1, iv r9.2]), (64, iv r24), (65, pt 4 2), (66, ag [iv r11.1, iv r11.2]), (67, pt 4 2), (68, ag [iv r11.1, iv r11.2]), (69, iv r26), (70, .bool true), (71, .bool true), (72, .bool true), (73, iv r13), (74, iv r13), (75, iv (w64 (0 - r13))), (76, iv (mx r13 (w64 (0 - r13)))), (77, iv (w64 (2 * (mx r13 (w64 (0 - r13)))))), (78, pt 4 0), (79, ag [iv r9.1, iv r9.2]), (80, pt 4 0), (81, ag [iv r9.1, iv r9.2]), (82, iv r29)])
def S37_5 (r1 : ((Int × Int) × (Int × Int) × Int)) (r13 : Int) (r9 : (Int × Int)) (r11 : (Int × Int)) (r24 : Int) (r26 : Int) : CAct := (st 85 [(2, pt 1 0), (7, pt 4 0), (8, iv (w64 ((w64 (r1.1.1 * r1.2.1.2)) - (w64 (r1.1.2 * r1.2.1.1))))), (9, iv r13), (52, ag [iv r9.1, iv r9.2, iv r11.1, iv r11.2]), (53, iv (w64 ((w64 (r1.1.1 * r1.2.1.2)) - (w64 (r1.1.2 * r1.2.1.1))))), (54, .bool false), (55, .bool false), (56, iv (w64 ((w64 (r1.1.1 * r1.2.1.2)) - (w64 (r1.1.2 * r1.2.1.1))))), (57, .bool true), (58, .bool true), (59, .bool true), (60, pt 4 0), (61, ag [iv r9.1, iv r9.2]), (62, pt 4 0), (63, ag [iv r9.1, iv r9.2]), (64, iv r24), (65, pt 4 2), (66, ag [iv r11.1, iv r11.2]), (67, pt 4 2), (68, ag [iv r11.1, iv r11.2]), (69, iv r26), (70, .bool true), (71, .bool true), (72, .bool true), (73, iv r13), (74, iv r13), (75, iv (w64 (0 - r13))), (76, iv (mx r13 (w64 (0 - r13)))), (77, iv (w64 (2 * (mx r13 (w64 (0 - r13)))))), (78, pt 4 0), (79, ag [iv r9.1, iv r9.2]), (80, pt 4 0), (81, ag [iv r9.1, iv r9.2])])
def S37_6 (r1 : ((Int × Int) × (Int × Int) × Int)) (r13 : Int) (r9 : (Int × Int)) (r11 : (Int × Int)) (r24 : Int) (r26 : Int) : CAct := (st 85 [(2, pt 1 0), (3, .bool false), (7, pt 4 0), (8, iv (w64 ((w64 (r1.1.1 * r1.2.1.2)) - (w64 (r1.1.2 * r1.2.1.1))))), (9, iv r13), (52, ag [iv r9.1, iv r9.2, iv r11.1, iv r11.2]), (53, iv (w64 ((w64 (r1.1.1 * r1.2.1.2)) - (w64 (r1.1.2 * r1.2.1.1))))), (54, .bool false), (55, .bool false), (56, iv (w64 ((w64 (r1.1.1 * r1.2.1.2)) - (w64 (r1.1.2 * r1.2.1.1))))), (57, .bool true), (58, .bool true), (59, .bool true), (60, pt 4 0), (61, ag [iv r9.1, iv r9.2]), (62, pt 4 0), (63, ag [iv r9.1, iv r9.2]), (64, iv r24), (65, pt 4 2), (66, ag [iv r11.1, iv r11.2]), (67, pt 4 2), (68, ag [iv r11.1, iv r11.2]), (69, iv r26), (70, .bool false), (71, .bool false), (72, .bool false), (73, undef), (74, undef), (75, undef), (76, undef), (77, undef), (78, undef), (79, undef), (80, undef), (81, undef), (82, undef), (83, undef), (84, .bool false)])
def S37_7 (r1 : ((Int × Int) × (Int × Int) × Int)) (r13 : Int) (r9 : (Int × Int)) (r11 : (Int × Int)) (r16 : Int) (r18 : Int) (r21 : Int) : CAct := (st 85 [(2, pt 1 0), (7, pt 4 0), (8, iv (w64 ((w64 (r1.1.1 * r1.2.1.2)) - (w64 (r1.1.2 * r1.2.1.1))))), (9, iv r13), (52, ag [iv r9.1, iv r9.2, iv r11.1, iv r11.2]), (53, iv (w64 ((w64 (r1.1.1 * r1.2.1.2)) - (w64 (r1.1.2 * r1.2.1.1))))), (54, .bool true), (55, .bool true), (56, undef), (57, undef), (58, .bool true), (59, .bool true), (60, pt 4 0), (61, ag [iv r9.1, iv r9.2]), (62, pt 4 0), (63, ag [iv r9.1, iv r9.2]), (64, iv r16), (65, pt 4 2), (66, ag [iv r11.1, iv r11.2]), (67, pt 4 2), (68, ag [iv r11.1, iv r11.2]), (69, iv r18), (70, .bool true), (71, .bool true), (72, .bool true), (73, iv r13), (74, iv r13), (75, iv (w64 (0 - r13))), (76, iv (mx r13 (w64 (0 - r13)))), (77, iv (w64 (2 * (mx r13 (w64 (0 - r13)))))), (78, pt 4 0), (79, ag [iv r9.1, iv r9.2]), (80, pt 4 0), (81, ag [iv r9.1, iv r9.2]), (82, iv r21)])
def S37_8 (r1 : ((Int × Int) × (Int × Int) × Int)) (r13 : Int) (r9 : (Int × Int)) (r11 : (Int × Int)) (r24 : Int) (r26 : Int) : CAct := (st 85 [(2, pt 1 0), (7, pt 4 0), (8, iv (w64 ((w64 (r1.1.1 * r1.2.1.2)) - (w64 (r1.1.2 * r1.2.1.1))))), (9, iv r13), (52, ag [iv r9.1, iv r9.2, iv r11.1, iv r11.2]), (53, iv (w64 ((w64 (r1.1.1 * r1.2.1.2)) - (w64 (r1.1.2 * r1.2.1.1))))), (54, .bool false), (55, .bool false), (56, iv (w64 ((w64 (r1.1.1 * r1.2.1.2)) - (w64 (r1.1.2 * r1.2.1.1))))), (57, .bool true), (58, .bool true), (59, .bool true), (60, pt 4 0), (61, ag [iv r9.1, iv r9.2]), (62, pt 4 0), (63, ag [iv r9.1, iv r9.2]), (64, iv r24), (65, pt 4 2), (66, ag [iv r11.1, iv r11.2]), (67, pt 4 2), (68, ag [iv r11.1, iv r11.2]), (69, iv r26), (70, .bool false), (71, .bool false), (72, .bool false), (73, undef), (74, undef), (75, undef), (76, undef), (77, undef), (78, undef), (79, undef), (80, undef), (81, undef), (82, undef), (83, undef), (84, .bool false)])
def S37_9 (r1 : ((Int × Int) × (Int × Int) × Int)) (r13 : Int) (r9 : (Int × Int)) (r11 : (Int × Int)) (r16 : Int) (r18 : Int) : CAct := (st 85 [(2, pt 1 0), (7, pt 4 0), (8, iv (w64 ((w64 (r1.1.1 * r1.2.1.2)) - (w64 (r1.1.2 * r1.2.1.1))))), (9, iv r13), (52, ag [iv r9.1, iv r9.2, iv r11.1, iv r11.2]), (53, iv (w64 ((w64 (r1.1.1 * r1.2.1.2)) - (w64 (r1.1.2 * r1.2.1.1))))), (54, .bool true), (55, .bool true), (56, undef), (57, undef), (58, .bool true), (59, .bool true), (60, pt 4 0), (61, ag [iv r9.1, iv r9.2]), (62, pt 4 0), (63, ag [iv r9.1, iv r9.2]), (64, iv r16), (65, pt 4 2), (66, ag [iv r11.1, iv r11.2]), (67, pt 4 2), (68, ag [iv r11.1, iv r11.2]), (69, iv r18), (70, .bool true), (71, .bool true), (72, .bool true), (73, iv r13), (74, iv r13), (75, iv (w64 (0 - r13))), (76, iv (mx r13 (w64 (0 - r13)))), (77, iv (w64 (2 * (mx r13 (w64 (0 - r13)))))), (78, pt 4 0), (79, ag [iv r9.1, iv r9.2]), (80, pt 4 0), (81, ag [iv r9.1, iv r9.2])])
def S37_10 (r1 : ((Int × Int) × (Int × Int) × Int)) (r13 : Int) (r9 : (Int × Int)) (r11 : (Int × Int)) (r16 : Int) (r18 : Int) : CAct := (st 85 [(2, pt 1 0), (3, .bool false), (7, pt 4 0), (8, iv (w64 ((w64 (r1.1.1 * r1.2.1.2)) - (w64 (r1.1.2 * r1.2.1.1))))), (9, iv r13), (52, ag [iv r9.1, iv r9.2, iv r11.1, iv r11.2]), (53, iv (w64 ((w64 (r1.1.1 * r1.2.1.2)) - (w64 (r1.1.2 * r1.2.1.1))))), (54, .bool true), (55, .bool true), (56, undef), (57, undef), (58, .bool true), (59, .bool true), (60, pt 4 0), (61, ag [iv r9.1, iv r9.2]), (62, pt 4 0), (63, ag [iv r9.1, iv r9.2]), (64, iv r16), (65, pt 4 2), (66, ag [iv r11.1, iv r11.2]), (67, pt 4 2), (68, ag [iv r11.1, iv r11.2]), (69, iv r18), (70, .bool false), (71, .bool false), (72, .bool false), (73, undef), (74, undef), (75, undef), (76, undef), (77, undef), (78, undef), (79, undef), (80, undef), (81, undef), (82, undef), (83, undef), (84, .bool false)])
def S37_11 (r1 : ((Int × Int) × (Int × Int) × Int)) (r13 : Int) (r9 : (Int × Int)) (r11 : (Int × Int)) : CAct := (st 85 [(2, pt 1 0), (3, .bool false), (7, pt 4 0), (8, iv (w64 ((w64 (r1.1.1 * r1.2.1.2)) - (w64 (r1.1.2 * r1.2.1.1))))), (9, iv r13), (52, ag [iv r9.1, iv r9.2, iv r11.1, iv r11.2]), (53, iv (w64 ((w64 (r1.1.1 * r1.2.1.2)) - (w64 (r1.1.2 * r1.2.1.1))))), (54, .bool false), (55, .bool false), (56, iv (w64 ((w64 (r1.1.1 * r1.2.1.2)) - (w64 (r1.1.2 * r1.2.1.1))))), (57, .bool false), (58, .bool false), (59, .bool false), (60, undef), (61, undef), (62, undef), (63, undef), (64, undef), (65, undef), (66, undef), (67, undef), (68, undef), (69, undef), (70, undef), (71, .bool false), (72, .bool false), (73, undef), (74, undef), (75, undef), (76, undef), (77, undef), (78, undef), (79, undef), (80, undef), (81, undef), (82, undef), (83, undef), (84, .bool false)])
def S37_12 (r1 : ((Int × Int) × (Int × Int) × Int)) (r13 : Int) (r9 : (Int × Int)) (r11 : (Int × Int)) (r16 : Int) (r18 : Int) : CAct := (st 85 [(2, pt 1 0), (7, pt 4 0), (8, iv (w64 ((w64 (r1.1.1 * r1.2.1.2)) - (w64 (r1.1.2 * r1.2.1.1))))), (9, iv r13), (52, ag [iv r9.1, iv r9.2, iv r11.1, iv r11.2]), (53, iv (w64 ((w64 (r1.1.1 * r1.2.1.2)) - (w64 (r1.1.2 * r1.2.1.1))))), (54, .bool true), (55, .bool true), (56, undef), (57, undef), (58, .bool true), (59, .bool true), (60, pt 4 0), (61, ag [iv r9.1, iv r9.2]), (62, pt 4 0), (63, ag [iv r9.1, iv r9.2]), (64, iv r16), (65, pt 4 2), (66, ag [iv r11.1, iv r11.2]), (67, pt 4 2), (68, ag [iv r11.1, iv r11.2]), (69, iv r18), (70, .bool false), (71, .bool false), (72, .bool false), (73, undef), (74, undef), (75, undef), (76, undef), (77, undef), (78, undef), (79, undef), (80, undef), (81, undef), (82, undef), (83, undef), (84, .bool false)])
def S37_13 (r1 : ((Int × Int) × (Int × Int) × Int)) (r13 : Int) (r9 : (Int × Int)) (r11 : (Int × Int)) : CAct := (st 85 [(2, pt 1 0), (7, pt 4 0), (8, iv (w64 ((w64 (r1.1.1 * r1.2.1.2)) - (w64 (r1.1.2 * r1.2.1.1))))), (9, iv r13), (52, ag [iv r9.1, iv r9.2, iv r11.1, iv r11.2]), (53, iv (w64 ((w64 (r1.1.1 * r1.2.1.2)) - (w64 (r1.1.2 * r1.2.1.1))))), (54, .bool false), (55, .bool false), (56, iv (w64 ((w64 (r1.1.1 * r1.2.1.2)) - (w64 (r1.1.2 * r1.2.1.1))))), (57, .bool false), (58, .bool false), (59, .bool false), (60, undef), (61, undef), (62, undef), (63, undef), (64, undef), (65, undef), (66, undef), (67, undef), (68, undef), (69, undef), (70, undef), (71, .bool false), (72, .bool false), (73, undef), (74, undef), (75, undef), (76, undef), (77, undef), (78, undef), (79, undef), (80, undef), (81, undef), (82, undef), (83, undef), (84, .bool false)])
def S37_14 (r1 : ((Int × Int) × (Int × Int) × Int)) (r13 : Int) (r9 : (Int × Int)) (r11 : (Int × Int)) (r24 : Int) (r26 : Int) : CAct := (st 85 [(2, pt 1 0), (7, pt 4 0), (8, iv (w64 ((w64 (r1.1.1 * r1.2.1.2)) - (w64 (r1.1.2 * r1.2.1.1))))), (9, iv r13), (52, ag [iv r9.1, iv r9.2, iv r11.1, iv r11.2]), (53, iv (w64 ((w64 (r1.1.1 * r1.2.1.2)) - (w64 (r1.1.2 * r1.2.1.1))))), (54, .bool false), (55, .bool false), (56, iv (w64 ((w64 (r1.1.1 * r1.2.1.2)) - (w64 (r1.1.2 * r1.2.1.1))))), (57, .bool true), (58, .bool true), (59, .bool true), (60, pt 4 0), (61, ag [iv r9.1, iv r9.2]), (62, pt 4 0), (63, ag [iv r9.1, iv r9.2]), (64, iv r24), (65, pt 4 2), (66, ag [iv r11.1, iv r11.2]), (67, pt 4 2), (68, ag [iv r11.1, iv r11.2]), (69, iv r26), (70, .bool false)])
def S37_15 (r1 : ((Int × Int) × (Int × Int) × Int)) (r13 : Int) (r9 : (Int × Int)) (r11 : (Int × Int)) (r24 : Int) (r26 : Int) : CAct := (st 85 [(2, pt 1 0), (7, pt 4 0), (8, iv (w64 ((w64 (r1.1.1 * r1.2.1.2)) - (w64 (r1.1.2 * r1.2.1.1))))), (9, iv r13), (52, ag [iv r9.1, iv r9.2, iv r11.1, iv r11.2]), (53, iv (w64 ((w64 (r1.1.1 * r1.2.1.2)) - (w64 (r1.1.2 * r1.2.1.1))))), (54, .bool false), (55, .bool false), (56, iv (w64 ((w64 (r1.1.1 * r1.2.1.2)) - (w64 (r1.1.2 * r1.2.1.1))))), (57, .bool true), (58, .bool true), (59, .bool true), (60, pt 4 0), (61, ag [iv r9.1, iv r9.2]), (62, pt 4 0), (63, ag [iv r9.1, iv r9.2]), (64, iv r24), (65, pt 4 2), (66, ag [iv r11.1, iv r11.2]), (67, pt 4 2), (68, ag [iv r11.1, iv r11.2]), (69, iv r26), (70, .bool true)])
def S37_16 (r1 : ((Int × Int) × (Int × Int) × Int)) (r13 : Int) (r9 : (Int × Int)) (r11 : (Int × Int)) (r24 : Int) (r26 : Int) : CAct := (st 85 [(2, pt 1 0), (7, pt 4 0), (8, iv (w64 ((w64 (r1.1.1 * r1.2.1.2)) - (w64 (r1.1.2 * r1.2.1.1))))), (9, iv r13), (52, ag [iv r9.1, iv r9.2, iv r11.1, iv r11.2]), (53, iv (w64 ((w64 (r1.1.1 * r1.2.1.2)) - (w64 (r1.1.2 * r1.2.1.1))))), (54, .bool false), (55, .bool false), (56, iv (w64 ((w64 (r1.1.1 * r1.2.1.2)) - (w64 (r1.1.2 * r1.2.1.1))))), (57, .bool true), (58, .bool true), (59, .bool true), (60, pt 4 0), (61, ag [iv r9.1, iv r9.2]), (62, pt 4 0), (63, ag [iv r9.1, iv r9.2]), (64, iv r24), (65, pt 4 2), (66, ag [iv r11.1, iv r11.2]), (67, pt 4 2), (68, ag [iv r11.1, iv r11.2]), (69, iv r26)])
def S37_17 (r1 : ((Int × Int) × (Int × Int) × Int)) (r13 : Int) (r9 : (Int × Int)) (r11 : (Int × Int)) (r24 : Int) : CAct := (st 85 [(2, pt 1 0), (7, pt 4 0), (8, iv (w64 ((w64 (r1.1.1 * r1.2.1.2)) - (w64 (r1.1.2 * r1.2.1.1))))), (9, iv r13), (52, ag [iv r9.1, iv r9.2, iv r11.1, iv r11.2]), (53, iv (w64 ((w64 (r1.1.1 * r1.2.1.2)) - (w64 (r1.1.2 * r1.2.1.1))))), (54, .bool false), (55, .bool false), (56, iv (w64 ((w64 (r1.1.1 * r1.2.1.2)) - (w64 (r1.1.2 * r1.2.1.1))))), (57, .bool true), (58, .bool true), (59, .bool true), (60, pt 4 0), (61, ag [iv r9.1, iv r9.2]), (62, pt 4 0), (63, ag [iv r9.1, iv r9.2]), (64, iv r24), (65, pt 4 2), (66, ag [iv r11.1, iv r11.2]), (67, pt 4 2), (68, ag [iv r11.1, iv r11.2])])
def S37_18 (r1 : ((Int × Int) × (Int × Int) × Int)) (r13 : Int) (r9 : (Int × Int)) (r11 : (Int × Int)) (r16 : Int) (r18 : Int) : CAct := (st 85 [(2, pt 1 0), (7, pt 4 0), (8, iv (w64 ((w64 (r1.1.1 * r1.2.1.2)) - (w64 (r1.1.2 * r1.2.1.1))))), (9, iv r13), (52, ag [iv r9.1, iv r9.2, iv r11.1, iv r11.2]), (53, iv (w64 ((w64 (r1.1.1 * r1.2.1.2)) - (w64 (r1.1.2 * r1.2.1.1))))), (54, .bool true), (55, .bool true), (56, undef), (57, undef), (58, .bool true), (59, .bool true), (60, pt 4 0), (61, ag [iv r9.1, iv r9.2]), (62, pt 4 0), (63, ag [iv r9.1, iv r9.2]), (64, iv r16), (65, pt 4 2), (66, ag [iv r11.1, iv r11.2]), (67, pt 4 2), (68, ag [iv r11.1, iv r11.2]), (69, iv r18), (70, .bool false)])
def S37_19 (r1 : ((Int × Int) × (Int × Int) × Int)) (r13 : Int) (r9 : (Int × Int)) (r11 : (Int × Int)) (r16 : Int) (r18 : Int) : CAct := (st 85 [(2, pt 1 0), (7, pt 4 0), (8, iv (w64 ((w64 (r1.1.1 * r1.2.1.2)) - (w64 (r1.1.2 * r1.2.1.1))))), (9, iv r13), (52, ag [iv r9.1, iv r9.2, iv r11.1, iv r11.2]), (53, iv (w64 ((w64 (r1.1.1 * r1.2.1.2)) - (w64 (r1.1.2 * r1.2.1.1))))), (54, .bool true), (55, .bool true), (56, undef), (57, undef), (58, .bool true), (59, .bool true), (60, pt 4 0), (61, ag [iv r9.1, iv r9.2]), (62, pt 4 0), (63, ag [iv r9.1, iv r9.2]), (64, iv r16), (65, pt 4 2), (66, ag [iv r11.1, iv r11.2]), (67, pt 4 2), (68, ag [iv r11.1, iv r11.2]), (69, iv r18), (70, .bool true)])
def S37_20 (r1 : ((Int × Int) × (Int × Int) × Int)) (r13 : Int) (r9 : (Int × Int)) (r11 : (Int × Int)) (r16 : Int) (r18 : Int) : CAct := (st 85 [(2, pt 1 0), (7, pt 4 0), (8, iv (w64 ((w64 (r1.1.1 * r1.2.1.2)) - (w64 (r1.1.2 * r1.2.1.1))))), (9, iv r13), (52, ag [iv r9.1, iv r9.2, iv r11.1, iv r11.2]), (53, iv (w64 ((w64 (r1.1.1 * r1.2.1.2)) - (w64 (r1.1.2 * r1.2.1.1))))), (54, .bool true), (55, .bool true), (56, undef), (57, undef), (58, .bool true), (59, .bool true), (60, pt 4 0), (61, ag [iv r9.1, iv r9.2]), (62, pt 4 0), (63, ag [iv r9.1, iv r9.2]), (64, iv r16), (65, pt 4 2), (66, ag [iv r11.1, iv r11.2]), (67, pt 4 2), (68, ag [iv r11.1, iv r11.2]), (69, iv r18)])
def S37_21 (r1 : ((Int × Int) × (Int × Int) × Int)) (r13 : Int) (r9 : (Int × Int)) (r11 : (Int × Int)) (r16 : Int) : CAct := (st 85 [(2, pt 1 0), (7, pt 4 0), (8, iv (w64 ((w64 (r1.1.1 * r1.2.1.2)) - (w64 (r1.1.2 * r1.2.1.1))))), (9, iv r13), (52, ag [iv r9.1, iv r9.2, iv r11.1, iv r11.2]), (53, iv (w64 ((w64 (r1.1.1 * r1.2.1.2)) - (w64 (r1.1.2 * r1.2.1.1))))), (54, .bool true), (55, .bool true), (56, undef), (57, undef), (58, .bool true), (59, .bool true), (60, pt 4 0), (61, ag [iv r9.1, iv r9.2]), (62, pt 4 0), (63, ag [iv r9.1, iv r9.2]), (64, iv r16), (65, pt 4 2), (66, ag [iv r11.1, iv r11.2]), (67, pt 4 2), (68, ag [iv r11.1, iv r11.2])])
def S37_22 (r1 : ((Int × Int) × (Int × Int) × Int)) (r13 : Int) (r9 : (Int × Int)) (r11 : (Int × Int)) (r24 : Int) : CAct := (st 85 [(2, pt 1 0), (7, pt 4 0), (8, iv (w64 ((w64 (r1.1.1 * r1.2.1.2)) - (w64 (r1.1.2 * r1.2.1.1))))), (9, iv r13), (52, ag [iv r9.1, iv r9.2, iv r11.1, iv r11.2]), (53, iv (w64 ((w64 (r1.1.1 * r1.2.1.2)) - (w64 (r1.1.2 * r1.2.1.1))))), (54, .bool false), (55, .bool false), (56, iv (w64 ((w64 (r1.1.1 * r1.2.1.2)) - (w64 (r1.1.2 * r1.2.1.1))))), (57, .bool true), (58, .bool true), (59, .bool true), (60, pt 4 0), (61, ag [iv r9.1, iv r9.2]), (62, pt 4 0), (63, ag [iv r9.1, iv r9.2]), (64, iv r24)])
def S37_23 (r1 : ((Int × Int) × (Int × Int) × Int)) (r13 : Int) (r9 : (Int × Int)) (r11 : (Int × Int)) : CAct := (st 85 [(2, pt 1 0), (7, pt 4 0), (8, iv (w64 ((w64 (r1.1.1 * r1.2.1.2)) - (w64 (r1.1.2 * r1.2.1.1))))), (9, iv r13), (52, ag [iv r9.1, iv r9.2, iv r11.1, iv r11.2]), (53, iv (w64 ((w64 (r1.1.1 * r1.2.1.2)) - (w64 (r1.1.2 * r1.2.1.1))))), (54, .bool false), (55, .bool false), (56, iv (w64 ((w64 (r1.1.1 * r1.2.1.2)) - (w64 (r1.1.2 * r1.2.1.1))))), (57, .bool true), (58, .bool true), (59, .bool true), (60, pt 4 0), (61, ag [iv r9.1, iv r9.2]), (62, pt 4 0), (63, ag [iv r9.1, iv r9.2])])
def S37_24 (r1 : ((Int × Int) × (Int × Int) × Int)) (r13 : Int) (r9 : (Int × Int)) (r11 : (Int × Int)) (r16 : Int) : CAct := (st 85 [(2, pt 1 0), (7, pt 4 0), (8, iv (w64 ((w64 (r1.1.1 * r1.2.1.2)) - (w64 (r1.1.2 * r1.2.1.1))))), (9, iv r13), (52, ag [iv r9.1, iv r9.2, iv r11.1, iv r11.2]), (53, iv (w64 ((w64 (r1.1.1 * r1.2.1.2)) - (w64 (r1.1.2 * r1.2.1.1))))), (54, .bool true), (55, .bool true), (56, undef), (57, undef), (58, .bool true), (59, .bool true), (60, pt 4 0), (61, ag [iv r9.1, iv r9.2]), (62, pt 4 0), (63, ag [iv r9.1, iv r9.2]), (64, iv r16)])
def S37_25 (r1 : ((Int × Int) × (Int × Int) × Int)) (r13 : Int) (r9 : (Int × Int)) (r11 : (Int × Int)) : CAct := (st 85 [(2, pt 1 0), (7, pt 4 0), (8, iv (w64 ((w64 (r1.1.1 * r1.2.1.2)) - (w64 (r1.1.2 * r1.2.1.1))))), (9, iv r13), (52, ag [iv r9.1, iv r9.2, iv r11.1, iv r11.2]), (53, iv (w64 ((w64 (r1.1.1 * r1.2.1.2)) - (w64 (r1.1.2 * r1.2.1.1))))), (54, .bool true), (55, .bool true), (56, undef), (57, undef), (58, .bool true), (59, .bool true), (60, pt 4 0), (61, ag [iv r9.1, iv r9.2]), (62, pt 4 0), (63, ag [iv r9.1, iv r9.2])])
def S37_26 (r1 : ((Int × Int) × (Int × Int) × Int)) (r13 : Int) (r9 : (Int × Int)) (r11 : (Int × Int)) : CAct := (st 85 [(2, pt 1 0), (7, pt 4 0), (8, iv (w64 ((w64 (r1.1.1 * r1.2.1.2)) - (w64 (r1.1.2 * r1.2.1.1))))), (9, iv r13), (52, ag [iv r9.1, iv r9.2, iv r11.1, iv r11.2]), (53, iv (w64 ((w64 (r1.1.1 * r1.2.1.2)) - (w64 (r1.1.2 * r1.2.1.1))))), (54, .bool false), (55, .bool false), (56, iv (w64 ((w64 (r1.1.1 * r1.2.1.2)) - (w64 (r1.1.2 * r1.2.1.1))))), (57, .bool false)])
def S37_27 (r1 : ((Int × Int) × (Int × Int) × Int)) (r13 : Int) (r9 : (Int × Int)) (r11 : (Int × Int)) : CAct := (st 85 [(2, pt 1 0), (7, pt 4 0), (8, iv (w64 ((w64 (r1.1.1 * r1.2.1.2)) - (w64 (r1.1.2 * r1.2.1.1))))), (9, iv r13), (52, ag [iv r9.1, iv r9.2, iv r11.1, iv r11.2]), (53, iv (w64 ((w64 (r1.1.1 * r1.2.1.2)) - (w64 (r1.1.2 * r1.2.1.1))))), (54, .bool false), (55, .bool false), (56, iv (w64 ((w64 (r1.1.1 * r1.2.1.2)) - (w64 (r1.1.2 * r1.2.1.1))))), (57, .bool true)])
def S37_28 (r1 : ((Int × Int) × (Int × Int) × Int)) (r13 : Int) (r9 : (Int × Int)) (r11 : (Int × Int)) : CAct := (st 85 [(2, pt 1 0), (7, pt 4 0), (8, iv (w64 ((w64 (r1.1.1 * r1.2.1.2)) - (w64 (r1.1.2 * r1.2.1.1))))), (9, iv r13), (52, ag [iv r9.1, iv r9.2, iv r11.1, iv r11.2]), (53, iv (w64 ((w64 (r1.1.1 * r1.2.1.2)) - (w64 (r1.1.2 * r1.2.1.1))))), (54, .bool false), (55, .bool false), (56, iv (w64 ((w64 (r1.1.1 * r1.2.1.2)) - (w64 (r1.1.2 * r1.2.1.1)))))])
def S37_29 (r1 : ((Int × Int) × (Int × Int) × Int)) (r13 : Int) (r9 : (Int × Int)) (r11 : (Int × Int)) : CAct := (st 85 [(2, pt 1 0), (7, pt 4 0), (8, iv (w64 ((w64 (r1.1.1 * r1.2.1.2)) - (w64 (r1.1.2 * r1.2.1.1))))), (9, iv r13), (52, ag [iv r9.1, iv r9.2, iv r11.1, iv r11.2]), (53, iv (w64 ((w64 (r1.1.1 * r1.2.1.2)) - (w64 (r1.1.2 * r1.2.1.1))))), (54, .bool false)])
def S37_30 (r1 : ((Int × Int) × (Int × Int) × Int)) (r13 : Int) (r9 : (Int × Int)) (r11 : (Int × Int)) : CAct := (st 85 [(2, pt 1 0), (7, pt 4 0), (8, iv (w64 ((w64 (r1.1.1 * r1.2.1.2)) - (w64 (r1.1.2 * r1.2.1.1))))), (9, iv r13), (52, ag [iv r9.1, iv r9.2, iv r11.1, iv r11.2]), (53, iv (w64 ((w64 (r1.1.1 * r1.2.1.2)) - (w64 (r1.1.2 * r1.2.1.1))))), (54, .bool true)])
def S37_31 (r1 : ((Int × Int) × (Int × Int) × Int)) (r13 : Int) (r9 : (Int × Int)) (r11 : (Int × Int)) : CAct := (st 85 [(2, pt 1 0), (7, pt 4 0), (8, iv (w64 ((w64 (r1.1.1 * r1.2.1.2)) - (w64 (r1.1.2 * r1.2.1.1))))), (9, iv r13), (52, ag [iv r9.1, iv r9.2, iv r11.1, iv r11.2]), (53, iv (w64 ((w64 (r1.1.1 * r1.2.1.2)) - (w64 (r1.1.2 * r1.2.1.1)))))])
def H37_32 (r1 : ((Int × Int) × (Int × Int) × Int)) (r9 : (Int × Int)) (r11 : (Int × Int)) : List Blk := [.dead, cl 25 [iv 0, iv 0, iv 0, iv 0], cl 27 [iv r1.1.1, iv r1.1.2], cl 27 [iv r1.2.1.1, iv r1.2.1.2], cl 25 [iv r9.1, iv r9.2, iv r11.1, iv r11.2]]
def H37_33 (p0 : Int) (p1 : Int) (p2 : Int) (p3 : Int) (r1 : ((Int × Int) × (Int × Int) × Int)) : List Blk := [cl 25 [iv p0, iv p1, iv p2, iv p3], cl 25 [iv 0, iv 0, iv 0, iv 0], cl 27 [iv r1.1.1, iv r1.1.2], cl 27 [iv r1.2.1.1, iv r1.2.1.2]]
def H37_34 (r9 : (Int × Int)) (r11 : (Int × Int)) : List Blk := [.dead, cl 25 [iv r9.1, iv r9.2, iv r11.1, iv r11.2], .dead, .dead, cl 25 [iv r9.1, iv r9.2, iv r11.1, iv r11.2]]
def S37_35 (r1 : ((Int × Int) × (Int × Int) × Int)) : CAct := (st 85 [(1, pt 0 0), (2, pt 1 0), (4, pt 2 0), (5, pt 3 0), (18, .bool false), (19, ag [iv r1.1.1, iv r1.1.2])])
def H37_36 (r9 : (Int × Int)) (r11 : (Int × Int)) : List Blk := [.dead, cl 25 [iv 0, iv 0, iv 0, iv 0], .dead, .dead, cl 25 [iv r9.1, iv r9.2, iv r11.1, iv r11.2]]
def S37_37  : CAct := (st 85 [(1, pt 0 0), (2, pt 1 0), (4, pt 2 0), (5, pt 3 0), (17, .bool false)])
def S37_38  : CAct := (st 85 [(1, pt 0 0), (2, pt 1 0), (4, pt 2 0), (5, pt 3 0), (27, .bool true)])
def S37_39 (r1 : ((Int × Int) × (Int × Int) × Int)) : CAct := (st 85 [(1, pt 0 0), (2, pt 1 0), (4, pt 2 0), (5, pt 3 0), (16, iv r1.2.2)])
def H37_40 (r9 : (Int × Int)) (r11 : (Int × Int)) : List Blk := [.dead, cl 25 [iv r9.1, iv r9.2, iv r11.1, iv r11.2], .dead, .dead, .dead]
def F37 (p0 : Int) (p1 : Int) (p2 : Int) (p3 : Int) : Option (((Int × Int) × (Int × Int)) × Bool) :=
  F23 p0 p1 p2 p3 >>= fun r1 =>
  (
    if r1.2.2 != 0 then
      some (true)
    else
      F38 r1.1.1 r1.1.2 >>= fun r4 =>
      if r4 then
        F38 r1.2.1.1 r1.2.1.2 >>= fun r6 =>
        if r6 then
          some (false)
        else
          some (true)
      else
        some (true)
  : Option Bool) >>= fun m8 =>
  if m8 then
    some (((p0, p1), (p2, p3)), false)
  else
    F40 p0 p1 p2 p3 r1.1.1 r1.1.2 >>= fun r9 =>
    F40 p0 p1 p2 p3 r1.2.1.1 r1.2.1.2 >>= fun r11 =>
    F41 r9.1 r9.2 r11.1 r11.2 >>= fun r13 =>
    (
      if (w64 ((w64 (r1.1.1 * r1.2.1.2)) - (w64 (r1.1.2 * r1.2.1.1)))) == 1 then
        F41 r9.1 r9.2 r9.1 r9.2 >>= fun r16 =>
        F41 r11.1 r11.2 r11.1 r11.2 >>= fun r18 =>
        if decide (r16 ≤ r18) then
          F41 r9.1 r9.2 r9.1 r9.2 >>= fun r21 =>
          some (decide ((w64 (2 * (mx r13 (w64 (0 - r13))))) ≤ r21))
        else
          some (false)
      else
        if (w64 ((w64 (r1.1.1 * r1.2.1.2)) - (w64 (r1.1.2 * r1.2.1.1)))) == (-1) then
          F41 r9.1 r9.2 r9.1 r9.2 >>= fun r24 =>
          F41 r11.1 r11.2 r11.1 r11.2 >>= fun r26 =>
          if decide (r24 ≤ r26) then
            F41 r9.1 r9.2 r9.1 r9.2 >>= fun r29 =>
            some (decide ((w64 (2 * (mx r13 (w64 (0 - r13))))) ≤ r29))
          else
            some (false)
        else
          some (false)
    : Option Bool) >>= fun m31 =>
    some (((r9.1, r9.2), (r11.1, r11.2)), m31)
def V37 (b : Nat) (r : (((Int × Int) × (Int × Int)) × Bool)) : Value := .tuple ⟨[ag [iv r.1.1.1, iv r.1.1.2, iv r.1.2.1, iv r.1.2.2], .bool r.2]⟩
def N37 (b : Nat) (r : (((Int × Int) × (Int × Int)) × Bool)) : List Blk := []
theorem B37 (p0 : Int) (p1 : Int) (p2 : Int) (p3 : Int) (r : (((Int × Int) × (Int × Int)) × Bool)) (hF : F37 p0 p1 p2 p3 = some r) : TS Try.prog 0 0 c37 (st 85 [(0, ag [iv p0, iv p1, iv p2, iv p3])]) [] (NX Try.prog 0 0 [] (FinP Try.prog Try.f37 0 (V37 0 r) (N37 0 r))) := by
  unfold F37 at hF
  refine TS.seqP (by kernel_rfl) ?_
  refine TS.regionP (by kernel_rfl) ?_
  refine TI.run 3 [1, 2] [0, 1] (a2 := (st 85 [(1, pt 0 0), (2, pt 1 0)])) (h2 := [cl 25 [iv p0, iv p1, iv p2, iv p3], cl 25 [iv 0, iv 0, iv 0, iv 0]]) (by kernel_rfl) ?_
  refine TI.done (by kernel_rfl) ?_
  refine NX.sq ?_
  refine TS.seqP (by kernel_rfl) ?_
  have hX := of_do hF
  clear hF
  obtain ⟨r1, h2, hF⟩ := hX
  refine TS.regionP (by kernel_rfl) ?_
  refine TI.runA 1 [1, 2, 11] (a2 := (st 85 [(1, pt 0 0), (2, pt 1 0), (11, ag [iv p0, iv p1, iv p2, iv p3])])) (by kernel_rfl) ?_
  refine TI.callF (C23 _ _ _ _ _ h2) (by kernel_rfl) (by kernel_rfl) ?_
  refine TI.run 9 [1, 2, 4, 5, 6] [0, 1, 2, 3] (a2 := (st 85 [(1, pt 0 0), (2, pt 1 0), (4, pt 2 0), (5, pt 3 0), (6, iv r1.2.2)])) (h2 := (H37_33 p0 p1 p2 p3 r1)) (by kernel_rfl) ?_
  refine TI.done (by kernel_rfl) ?_
  refine NX.sq ?_
  refine TS.seqP (by kernel_rfl) ?_
  refine TS.seqP (by kernel_rfl) ?_
  have hX := of_do hF
  clear hF
  obtain ⟨m8, hm33, hF⟩ := hX
  have hK : NX Try.prog 0 0 [.sq c37.s2.s2.s1.s2, .sq c37.s2.s2.s2] (FinP Try.prog Try.f37 0 (V37 0 r) (N37 0 r)) .normal (st 85 [(1, pt 0 0), (2, pt 1 0), (4, pt 2 0), (5, pt 3 0), (27, .bool m8)]) (H37_33 p0 p1 p2 p3 r1) := by
    refine NX.sq ?_
    cases m8 with
    | true =>
      replace hF := of_pos hF rfl
      refine TS.condTP (o := (.tmp 27)) (by kernel_rfl) (by kernel_rfl) ?_
      refine TS.seqP (by kernel_rfl) ?_
      refine TS.regionP (by kernel_rfl) ?_
      refine TI.run 3 [2, 3] [1] (a2 := (st 85 [(2, pt 1 0), (3, .bool false)])) (h2 := [.dead, cl 25 [iv p0, iv p1, iv p2, iv p3], .dead, .dead]) (by kernel_rfl) ?_
      refine TI.done (by kernel_rfl) ?_
      refine NX.sq ?_
      refine TS.ret' (by kernel_rfl) ?_
      refine NX.sqR ?_
      have hF := Option.some.inj hF
      subst hF
      exact ⟨.inr rfl, rfl, .tuple ⟨[ag [iv p0, iv p1, iv p2, iv p3], .bool false]⟩, by kernel_rfl, WkV.flat0 (by kernel_rfl) (Nat.le_of_ble_eq_true rfl)⟩
    | false =>
      replace hF := of_neg hF rfl
      refine TS.condFP (o := (.tmp 27)) (by kernel_rfl) (by kernel_rfl) ?_
      refine TS.skip' (by kernel_rfl) ?_
      refine NX.sq ?_
      refine TS.seqP (by kernel_rfl) ?_
      have hX := of_do hF
      clear hF
      obtain ⟨r9, h10, hF⟩ := hX
      have hX := of_do hF
      clear hF
      obtain ⟨r11, h12, hF⟩ := hX
      have hT : ∀ e ∈ ([⟨40, [ag [iv p0, iv p1, iv p2, iv p3], ag [iv r1.1.1, iv r1.1.2]], (H37_33 p0 p1 p2 p3 r1), ag [iv r9.1, iv r9.2], []⟩, ⟨40, [ag [iv p0, iv p1, iv p2, iv p3], ag [iv r1.2.1.1, iv r1.2.1.2]], (H37_33 p0 p1 p2 p3 r1), ag [iv r11.1, iv r11.2], []⟩] : List Entry), PureSim Try.prog e.g e.args e.h e.v e.new := by
        intro e he
        simp only [List.mem_cons, List.not_mem_nil, or_false] at he
        rcases he with rfl | rfl
        · exact PureSim.anyK (C40 _ _ _ _ _ _ _ h10) (by kernel_rfl)
        · exact PureSim.anyK (C40 _ _ _ _ _ _ _ h12) (by kernel_rfl)
      refine TS.drawP [⟨40, [ag [iv p0, iv p1, iv p2, iv p3], ag [iv r1.1.1, iv r1.1.2]], (H37_33 p0 p1 p2 p3 r1), ag [iv r9.1, iv r9.2], []⟩, ⟨40, [ag [iv p0, iv p1, iv p2, iv p3], ag [iv r1.2.1.1, iv r1.2.1.2]], (H37_33 p0 p1 p2 p3 r1), ag [iv r11.1, iv r11.2], []⟩] hT mixed (by kernel_rfl) 8 (by kernel_rfl) [2, 4, 5, 7] [1, 2, 3, 4] (a2 := (st 85 [(2, pt 1 0), (4, pt 2 0), (5, pt 3 0), (7, pt 4 0)])) (h2 := (H37_32 r1 r9 r11)) ?_ ?_
      · refine QJ.run (s1 := (qs (st 85 [(1, pt 0 0), (2, pt 1 0), (4, pt 2 0), (5, pt 3 0), (27, .bool false), (29, ag [iv p0, iv p1, iv p2, iv p3]), (30, ag [iv r1.1.1, iv r1.1.2])]) (H37_33 p0 p1 p2 p3 r1) [] [])) 2 (by kernel_rfl) (by kernel_rfl) ?_
        refine QJ.op (q := { val := ag [iv r9.1, iv r9.2], new := [] }) (by decide) (qOf_call (g := 40) (args := [ag [iv p0, iv p1, iv p2, iv p3], ag [iv r1.1.1, iv r1.1.2]]) (by kernel_rfl) lookC_hit) ?_
        refine QJ.run (s1 := (qs (st 85 [(1, pt 0 0), (2, pt 1 0), (4, pt 2 0), (5, pt 3 0), (27, .bool false), (29, ag [iv p0, iv p1, iv p2, iv p3]), (30, ag [iv r1.1.1, iv r1.1.2]), (31, ag [iv r9.1, iv r9.2]), (32, ag [iv p0, iv p1, iv p2, iv p3]), (33, ag [iv r1.2.1.1, iv r1.2.1.2])]) (H37_33 p0 p1 p2 p3 r1) [] [])) 2 (by kernel_rfl) (by kernel_rfl) ?_
        refine QJ.op (q := { val := ag [iv r11.1, iv r11.2], new := [] }) (by decide) (qOf_call (g := 40) (args := [ag [iv p0, iv p1, iv p2, iv p3], ag [iv r1.2.1.1, iv r1.2.1.2]]) (by kernel_rfl) (lookC_skip (by intro _ ha _; have hr := Option.some.inj (h10.symm.trans (Eq.trans (congr (congr (congr (congr (congr (congrArg F40 (Eq.refl p0)) (Eq.refl p1)) (Eq.refl p2)) (Eq.refl p3)) (show r1.1.1 = r1.2.1.1 from congrArg (leafI 4) ha)) (show r1.1.2 = r1.2.1.2 from congrArg (leafI 5) ha)) h12)); first | (subst hr; rfl) | (cases hr; done) | (cases hr; rfl)) lookC_hit)) ?_
        refine QJ.run (s1 := (qs (st 85 [(1, pt 0 0), (2, pt 1 0), (4, pt 2 0), (5, pt 3 0), (7, pt 4 0), (27, .bool false), (29, ag [iv p0, iv p1, iv p2, iv p3]), (30, ag [iv r1.1.1, iv r1.1.2]), (31, ag [iv r9.1, iv r9.2]), (32, ag [iv p0, iv p1, iv p2, iv p3]), (33, ag [iv r1.2.1.1, iv r1.2.1.2]), (34, ag [iv r11.1, iv r11.2]), (35, ag [iv r9.1, iv r9.2, iv r11.1, iv r11.2])]) [cl 25 [iv p0, iv p1, iv p2, iv p3], cl 25 [iv 0, iv 0, iv 0, iv 0], cl 27 [iv r1.1.1, iv r1.1.2], cl 27 [iv r1.2.1.1, iv r1.2.1.2], cl 25 [iv 0, iv 0, iv 0, iv 0]] [(7, 4, 5)] [])) 2 (by kernel_rfl) (by kernel_rfl) ?_
        refine QJ.done (by kernel_rfl) ⟨rfl, ?_⟩
        refine SJ.last (by kernel_rfl)
      refine TS.seqP (by kernel_rfl) ?_
      have hX := of_do hF
      clear hF
      obtain ⟨r13, h14, hF⟩ := hX
      have hT : ∀ e ∈ ([⟨41, [ag [iv r9.1, iv r9.2], ag [iv r11.1, iv r11.2]], (H37_32 r1 r9 r11), iv r13, []⟩] : List Entry), PureSim Try.prog e.g e.args e.h e.v e.new := by
        intro e he
        simp only [List.mem_cons, List.not_mem_nil, or_false] at he
        rcases he with rfl
        · exact PureSim.anyK (C41 _ _ _ _ _ h14) (by kernel_rfl)
      refine TS.drawP [⟨41, [ag [iv r9.1, iv r9.2], ag [iv r11.1, iv r11.2]], (H37_32 r1 r9 r11), iv r13, []⟩] hT mixed (by kernel_rfl) 16 (by kernel_rfl) [2, 7, 8, 9] [1, 4] (a2 := (st 85 [(2, pt 1 0), (7, pt 4 0), (8, iv (w64 ((w64 (r1.1.1 * r1.2.1.2)) - (w64 (r1.1.2 * r1.2.1.1))))), (9, iv r13)])) (h2 := (H37_36 r9 r11)) ?_ ?_
      · refine QJ.run (s1 := (qs (st 85 [(2, pt 1 0), (4, pt 2 0), (5, pt 3 0), (7, pt 4 0), (36, pt 2 0), (37, iv r1.1.1), (38, pt 3 1), (39, iv r1.2.1.2), (40, iv (w64 (r1.1.1 * r1.2.1.2))), (41, pt 2 1), (42, iv r1.1.2), (43, pt 3 0), (44, iv r1.2.1.1), (45, iv (w64 (r1.1.2 * r1.2.1.1))), (46, iv (w64 ((w64 (r1.1.1 * r1.2.1.2)) - (w64 (r1.1.2 * r1.2.1.1))))), (47, pt 4 0), (48, ag [iv r9.1, iv r9.2]), (49, pt 4 2), (50, ag [iv r11.1, iv r11.2])]) (H37_32 r1 r9 r11) [] [])) 15 (by kernel_rfl) (by kernel_rfl) ?_
        refine QJ.op (q := { val := iv r13, new := [] }) (by decide) (qOf_call (g := 41) (args := [ag [iv r9.1, iv r9.2], ag [iv r11.1, iv r11.2]]) (by kernel_rfl) lookC_hit) ?_
        refine QJ.done (by kernel_rfl) ⟨rfl, ?_⟩
        refine SJ.last (by kernel_rfl)
      refine TS.seqP (by kernel_rfl) ?_
      have hX := of_do hF
      clear hF
      obtain ⟨m31, hm32, hF⟩ := hX
      have hK : NX Try.prog 0 0 [.sq c37.s2.s2.s2.s2.s2.s2] (FinP Try.prog Try.f37 0 (V37 0 r) (N37 0 r)) .normal (st 85 [(2, pt 1 0), (3, .bool m31)]) (H37_40 r9 r11) := by
        refine NX.sq ?_
        refine TS.ret' (by kernel_rfl) ?_
        have hF := Option.some.inj hF
        subst hF
        exact ⟨.inr rfl, rfl, .tuple ⟨[ag [iv r9.1, iv r9.2, iv r11.1, iv r11.2], .bool m31]⟩, by kernel_rfl, WkV.flat0 (by kernel_rfl) (Nat.le_of_ble_eq_true rfl)⟩
      rcases Bool.eq_false_or_eq_true ((w64 ((w64 (r1.1.1 * r1.2.1.2)) - (w64 (r1.1.2 * r1.2.1.1)))) == 1) with hc15 | hc15
      · replace hm32 := of_pos hm32 hc15
        have hX := of_do hm32
        clear hm32
        obtain ⟨r16, h17, hm32⟩ := hX
        have hX := of_do hm32
        clear hm32
        obtain ⟨r18, h19, hm32⟩ := hX
        rcases Bool.eq_false_or_eq_true (decide (r16 ≤ r18)) with hc20 | hc20
        · replace hm32 := of_pos hm32 hc20
          have hX := of_do hm32
          clear hm32
          obtain ⟨r21, h22, hm32⟩ := hX
          have hm32 := Option.some.inj hm32
          subst hm32
          have hT : ∀ e ∈ ([⟨41, [ag [iv r9.1, iv r9.2], ag [iv r9.1, iv r9.2]], (H37_36 r9 r11), iv r16, []⟩, ⟨41, [ag [iv r11.1, iv r11.2], ag [iv r11.1, iv r11.2]], (H37_36 r9 r11), iv r18, []⟩, ⟨41, [ag [iv r9.1, iv r9.2], ag [iv r9.1, iv r9.2]], (H37_36 r9 r11), iv r21, []⟩] : List Entry), PureSim Try.prog e.g e.args e.h e.v e.new := by
            intro e he
            simp only [List.mem_cons, List.not_mem_nil, or_false] at he
            rcases he with rfl | rfl | rfl
            · exact PureSim.anyK (C41 _ _ _ _ _ h17) (by kernel_rfl)
            · exact PureSim.anyK (C41 _ _ _ _ _ h19) (by kernel_rfl)
            · exact PureSim.anyK (C41 _ _ _ _ _ h22) (by kernel_rfl)
          refine TS.draw' (id := 6) (b := true) (ops := c37.s2.s2.s2.s2.s2.s1.rops) (fin := (qs (S37_3 r1 r13 r9 r11 r16 r18 r21) (H37_34 r9 r11) [] [(33, 1)])) (fin2 := (qs (S37_3 r1 r13 r9 r11 r16 r18 r21) (H37_34 r9 r11) [] [(33, 1)])) (a1 := (S37_1 r13 r21 r1 r9 r11 r16 r18)) (h1 := (H37_34 r9 r11)) (a2 := (st 85 [(2, pt 1 0), (3, .bool (decide ((w64 (2 * (mx r13 (w64 (0 - r13))))) ≤ r21)))])) (h2 := (H37_40 r9 r11)) [⟨41, [ag [iv r9.1, iv r9.2], ag [iv r9.1, iv r9.2]], (H37_36 r9 r11), iv r16, []⟩, ⟨41, [ag [iv r11.1, iv r11.2], ag [iv r11.1, iv r11.2]], (H37_36 r9 r11), iv r18, []⟩, ⟨41, [ag [iv r9.1, iv r9.2], ag [iv r9.1, iv r9.2]], (H37_36 r9 r11), iv r21, []⟩] hT mixed (by kernel_rfl) rfl 34 (by kernel_rfl) [(33, 1)] ?_ rfl (.inr ⟨?_, (by kernel_rfl)⟩) ?_ [2, 3] [1] (by kernel_rfl) ?_
          · refine QI.run (s1 := (qs (S37_31 r1 r13 r9 r11) (H37_36 r9 r11) [] [])) 2 (by kernel_rfl) (by kernel_rfl) ?_
            refine QI.op (q := { val := .bool true }) (s1 := (qs (S37_30 r1 r13 r9 r11) (H37_36 r9 r11) [] [])) (by decide) (q_conv (e := (w64 ((w64 (r1.1.1 * r1.2.1.2)) - (w64 (r1.1.2 * r1.2.1.1)))) == 1) (b := true) (by kernel_rfl) hc15) (by kernel_rfl) ?_
            refine QI.run (s1 := (qs (S37_25 r1 r13 r9 r11) (H37_36 r9 r11) [] [])) 9 (by kernel_rfl) (by kernel_rfl) ?_
            refine QI.op (q := { val := iv r16, new := [] }) (s1 := (qs (S37_24 r1 r13 r9 r11 r16) (H37_36 r9 r11) [] [])) (by decide) (qOf_call (g := 41) (args := [ag [iv r9.1, iv r9.2], ag [iv r9.1, iv r9.2]]) (by kernel_rfl) lookC_hit) (by kernel_rfl) ?_
            refine QI.run (s1 := (qs (S37_21 r1 r13 r9 r11 r16) (H37_36 r9 r11) [] [])) 4 (by kernel_rfl) (by kernel_rfl) ?_
            refine QI.op (q := { val := iv r18, new := [] }) (s1 := (qs (S37_20 r1 r13 r9 r11 r16 r18) (H37_36 r9 r11) [] [])) (by decide) (qOf_call (g := 41) (args := [ag [iv r11.1, iv r11.2], ag [iv r11.1, iv r11.2]]) (by kernel_rfl) (lookC_skip (by intro _ ha _; have hr := Option.some.inj (h17.symm.trans (Eq.trans (congr (congr (congr (congrArg F41 (show r9.1 = r11.1 from congrArg (leafI 0) ha)) (show r9.2 = r11.2 from congrArg (leafI 1) ha)) (show r9.1 = r11.1 from congrArg (leafI 2) ha)) (show r9.2 = r11.2 from congrArg (leafI 3) ha)) h19)); first | (subst hr; rfl) | (cases hr; done) | (cases hr; rfl)) lookC_hit)) (by kernel_rfl) ?_
            refine QI.op (q := { val := .bool true }) (s1 := (qs (S37_19 r1 r13 r9 r11 r16 r18) (H37_36 r9 r11) [] [])) (by decide) (q_conv (e := decide (r16 ≤ r18)) (b := true) (by kernel_rfl) hc20) (by kernel_rfl) ?_
            refine QI.run (s1 := (qs (S37_9 r1 r13 r9 r11 r16 r18) (H37_36 r9 r11) [] [])) 11 (by kernel_rfl) (by kernel_rfl) ?_
            refine QI.op (q := { val := iv r21, new := [] }) (s1 := (qs (S37_7 r1 r13 r9 r11 r16 r18 r21) (H37_36 r9 r11) [] [])) (by decide) (qOf_call (g := 41) (args := [ag [iv r9.1, iv r9.2], ag [iv r9.1, iv r9.2]]) (by kernel_rfl) (lookC_skip (by intro _ ha _; have hr := Option.some.inj (h17.symm.trans (Eq.trans (congr (congr (congr (congrArg F41 (Eq.refl r9.1)) (Eq.refl r9.2)) (Eq.refl r9.1)) (Eq.refl r9.2)) h22)); first | (subst hr; rfl) | (cases hr; done) | (cases hr; rfl)) (lookC_skip (by intro _ ha _; have hr := Option.some.inj (h19.symm.trans (Eq.trans (congr (congr (congr (congrArg F41 (show r11.1 = r9.1 from congrArg (leafI 0) ha)) (show r11.2 = r9.2 from congrArg (leafI 1) ha)) (show r11.1 = r9.1 from congrArg (leafI 2) ha)) (show r11.2 = r9.2 from congrArg (leafI 3) ha)) h22)); first | (subst hr; rfl) | (cases hr; done) | (cases hr; rfl)) lookC_hit))) (by kernel_rfl) ?_
            refine QI.run (s1 := (qs (S37_3 r1 r13 r9 r11 r16 r18 r21) (H37_34 r9 r11) [] [(33, 1)])) 3 (by kernel_rfl) (by kernel_rfl) ?_
            exact QI.done (by kernel_rfl)
          · refine QI.run (s1 := (qs (S37_31 r1 r13 r9 r11) (H37_36 r9 r11) [] [])) 2 (by kernel_rfl) (by kernel_rfl) ?_
            refine QI.op (q := { val := .bool true }) (s1 := (qs (S37_30 r1 r13 r9 r11) (H37_36 r9 r11) [] [])) (by decide) (q_conv (e := (w64 ((w64 (r1.1.1 * r1.2.1.2)) - (w64 (r1.1.2 * r1.2.1.1)))) == 1) (b := true) (by kernel_rfl) hc15) (by kernel_rfl) ?_
            refine QI.run (s1 := (qs (S37_25 r1 r13 r9 r11) (H37_36 r9 r11) [] [])) 9 (by kernel_rfl) (by kernel_rfl) ?_
            refine QI.op (q := { val := iv r16, new := [] }) (s1 := (qs (S37_24 r1 r13 r9 r11 r16) (H37_36 r9 r11) [] [])) (by decide) (qOf_call (g := 41) (args := [ag [iv r9.1, iv r9.2], ag [iv r9.1, iv r9.2]]) (by kernel_rfl) lookC_hit) (by kernel_rfl) ?_
            refine QI.run (s1 := (qs (S37_21 r1 r13 r9 r11 r16) (H37_36 r9 r11) [] [])) 4 (by kernel_rfl) (by kernel_rfl) ?_
            refine QI.op (q := { val := iv r18, new := [] }) (s1 := (qs (S37_20 r1 r13 r9 r11 r16 r18) (H37_36 r9 r11) [] [])) (by decide) (qOf_call (g := 41) (args := [ag [iv r11.1, iv r11.2], ag [iv r11.1, iv r11.2]]) (by kernel_rfl) (lookC_skip (by intro _ ha _; have hr := Option.some.inj (h17.symm.trans (Eq.trans (congr (congr (congr (congrArg F41 (show r9.1 = r11.1 from congrArg (leafI 0) ha)) (show r9.2 = r11.2 from congrArg (leafI 1) ha)) (show r9.1 = r11.1 from congrArg (leafI 2) ha)) (show r9.2 = r11.2 from congrArg (leafI 3) ha)) h19)); first | (subst hr; rfl) | (cases hr; done) | (cases hr; rfl)) lookC_hit)) (by kernel_rfl) ?_
            refine QI.op (q := { val := .bool true }) (s1 := (qs (S37_19 r1 r13 r9 r11 r16 r18) (H37_36 r9 r11) [] [])) (by decide) (q_conv (e := decide (r16 ≤ r18)) (b := true) (by kernel_rfl) hc20) (by kernel_rfl) ?_
            refine QI.run (s1 := (qs (S37_9 r1 r13 r9 r11 r16 r18) (H37_36 r9 r11) [] [])) 11 (by kernel_rfl) (by kernel_rfl) ?_
            refine QI.op (q := { val := iv r21, new := [] }) (s1 := (qs (S37_7 r1 r13 r9 r11 r16 r18 r21) (H37_36 r9 r11) [] [])) (by decide) (qOf_call (g := 41) (args := [ag [iv r9.1, iv r9.2], ag [iv r9.1, iv r9.2]]) (by kernel_rfl) (lookC_skip (by intro _ ha _; have hr := Option.some.inj (h17.symm.trans (Eq.trans (congr (congr (congr (congrArg F41 (Eq.refl r9.1)) (Eq.refl r9.2)) (Eq.refl r9.1)) (Eq.refl r9.2)) h22)); first | (subst hr; rfl) | (cases hr; done) | (cases hr; rfl)) (lookC_skip (by intro _ ha _; have hr := Option.some.inj (h19.symm.trans (Eq.trans (congr (congr (congr (congrArg F41 (show r11.1 = r9.1 from congrArg (leafI 0) ha)) (show r11.2 = r9.2 from congrArg (leafI 1) ha)) (show r11.1 = r9.1 from congrArg (leafI 2) ha)) (show r11.2 = r9.2 from congrArg (leafI 3) ha)) h22)); first | (subst hr; rfl) | (cases hr; done) | (cases hr; rfl)) lookC_hit))) (by kernel_rfl) ?_
            refine QI.run (s1 := (qs (S37_3 r1 r13 r9 r11 r16 r18 r21) (H37_34 r9 r11) [] [(33, 1)])) 3 (by kernel_rfl) (by kernel_rfl) ?_
            exact QI.done (by kernel_rfl)
          · refine SI.run (a2 := (S37_1 r13 r21 r1 r9 r11 r16 r18)) (h2 := (H37_34 r9 r11)) 1 (by kernel_rfl) ?_
            exact SI.done (by kernel_rfl)
          exact hK
        · replace hm32 := of_neg hm32 hc20
          have hm32 := Option.some.inj hm32
          subst hm32
          have hT : ∀ e ∈ ([⟨41, [ag [iv r9.1, iv r9.2], ag [iv r9.1, iv r9.2]], (H37_36 r9 r11), iv r16, []⟩, ⟨41, [ag [iv r11.1, iv r11.2], ag [iv r11.1, iv r11.2]], (H37_36 r9 r11), iv r18, []⟩] : List Entry), PureSim Try.prog e.g e.args e.h e.v e.new := by
            intro e he
            simp only [List.mem_cons, List.not_mem_nil, or_false] at he
            rcases he with rfl | rfl
            · exact PureSim.anyK (C41 _ _ _ _ _ h17) (by kernel_rfl)
            · exact PureSim.anyK (C41 _ _ _ _ _ h19) (by kernel_rfl)
          refine TS.draw' (id := 6) (b := true) (ops := c37.s2.s2.s2.s2.s2.s1.rops) (fin := (qs (S37_12 r1 r13 r9 r11 r16 r18) (H37_34 r9 r11) [] [(33, 1)])) (fin2 := (qs (S37_12 r1 r13 r9 r11 r16 r18) (H37_34 r9 r11) [] [(33, 1)])) (a1 := (S37_10 r1 r13 r9 r11 r16 r18)) (h1 := (H37_34 r9 r11)) (a2 := (st 85 [(2, pt 1 0), (3, .bool false)])) (h2 := (H37_40 r9 r11)) [⟨41, [ag [iv r9.1, iv r9.2], ag [iv r9.1, iv r9.2]], (H37_36 r9 r11), iv r16, []⟩, ⟨41, [ag [iv r11.1, iv r11.2], ag [iv r11.1, iv r11.2]], (H37_36 r9 r11), iv r18, []⟩] hT mixed (by kernel_rfl) rfl 34 (by kernel_rfl) [(33, 1)] ?_ rfl (.inr ⟨?_, (by kernel_rfl)⟩) ?_ [2, 3] [1] (by kernel_rfl) ?_
          · refine QI.run (s1 := (qs (S37_31 r1 r13 r9 r11) (H37_36 r9 r11) [] [])) 2 (by kernel_rfl) (by kernel_rfl) ?_
            refine QI.op (q := { val := .bool true }) (s1 := (qs (S37_30 r1 r13 r9 r11) (H37_36 r9 r11) [] [])) (by decide) (q_conv (e := (w64 ((w64 (r1.1.1 * r1.2.1.2)) - (w64 (r1.1.2 * r1.2.1.1)))) == 1) (b := true) (by kernel_rfl) hc15) (by kernel_rfl) ?_
            refine QI.run (s1 := (qs (S37_25 r1 r13 r9 r11) (H37_36 r9 r11) [] [])) 9 (by kernel_rfl) (by kernel_rfl) ?_
            refine QI.op (q := { val := iv r16, new := [] }) (s1 := (qs (S37_24 r1 r13 r9 r11 r16) (H37_36 r9 r11) [] [])) (by decide) (qOf_call (g := 41) (args := [ag [iv r9.1, iv r9.2], ag [iv r9.1, iv r9.2]]) (by kernel_rfl) lookC_hit) (by kernel_rfl) ?_
            refine QI.run (s1 := (qs (S37_21 r1 r13 r9 r11 r16) (H37_36 r9 r11) [] [])) 4 (by kernel_rfl) (by kernel_rfl) ?_
            refine QI.op (q := { val := iv r18, new := [] }) (s1 := (qs (S37_20 r1 r13 r9 r11 r16 r18) (H37_36 r9 r11) [] [])) (by decide) (qOf_call (g := 41) (args := [ag [iv r11.1, iv r11.2], ag [iv r11.1, iv r11.2]]) (by kernel_rfl) (lookC_skip (by intro _ ha _; have hr := Option.some.inj (h17.symm.trans (Eq.trans (congr (congr (congr (congrArg F41 (show r9.1 = r11.1 from congrArg (leafI 0) ha)) (show r9.2 = r11.2 from congrArg (leafI 1) ha)) (show r9.1 = r11.1 from congrArg (leafI 2) ha)) (show r9.2 = r11.2 from congrArg (leafI 3) ha)) h19)); first | (subst hr; rfl) | (cases hr; done) | (cases hr; rfl)) lookC_hit)) (by kernel_rfl) ?_
            refine QI.op (q := { val := .bool false }) (s1 := (qs (S37_18 r1 r13 r9 r11 r16 r18) (H37_36 r9 r11) [] [])) (by decide) (q_conv (e := decide (r16 ≤ r18)) (b := false) (by kernel_rfl) hc20) (by kernel_rfl) ?_
            refine QI.run (s1 := (qs (S37_12 r1 r13 r9 r11 r16 r18) (H37_34 r9 r11) [] [(33, 1)])) 15 (by kernel_rfl) (by kernel_rfl) ?_
            exact QI.done (by kernel_rfl)
          · refine QI.run (s1 := (qs (S37_31 r1 r13 r9 r11) (H37_36 r9 r11) [] [])) 2 (by kernel_rfl) (by kernel_rfl) ?_
            refine QI.op (q := { val := .bool true }) (s1 := (qs (S37_30 r1 r13 r9 r11) (H37_36 r9 r11) [] [])) (by decide) (q_conv (e := (w64 ((w64 (r1.1.1 * r1.2.1.2)) - (w64 (r1.1.2 * r1.2.1.1)))) == 1) (b := true) (by kernel_rfl) hc15) (by kernel_rfl) ?_
            refine QI.run (s1 := (qs (S37_25 r1 r13 r9 r11) (H37_36 r9 r11) [] [])) 9 (by kernel_rfl) (by kernel_rfl) ?_
            refine QI.op (q := { val := iv r16, new := [] }) (s1 := (qs (S37_24 r1 r13 r9 r11 r16) (H37_36 r9 r11) [] [])) (by decide) (qOf_call (g := 41) (args := [ag [iv r9.1, iv r9.2], ag [iv r9.1, iv r9.2]]) (by kernel_rfl) lookC_hit) (by kernel_rfl) ?_
            refine QI.run (s1 := (qs (S37_21 r1 r13 r9 r11 r16) (H37_36 r9 r11) [] [])) 4 (by kernel_rfl) (by kernel_rfl) ?_
            refine QI.op (q := { val := iv r18, new := [] }) (s1 := (qs (S37_20 r1 r13 r9 r11 r16 r18) (H37_36 r9 r11) [] [])) (by decide) (qOf_call (g := 41) (args := [ag [iv r11.1, iv r11.2], ag [iv r11.1, iv r11.2]]) (by kernel_rfl) (lookC_skip (by intro _ ha _; have hr := Option.some.inj (h17.symm.trans (Eq.trans (congr (congr (congr (congrArg F41 (show r9.1 = r11.1 from congrArg (leafI 0) ha)) (show r9.2 = r11.2 from congrArg (leafI 1) ha)) (show r9.1 = r11.1 from congrArg (leafI 2) ha)) (show r9.2 = r11.2 from congrArg (leafI 3) ha)) h19)); first | (subst hr; rfl) | (cases hr; done) | (cases hr; rfl)) lookC_hit)) (by kernel_rfl) ?_
            refine QI.op (q := { val := .bool false }) (s1 := (qs (S37_18 r1 r13 r9 r11 r16 r18) (H37_36 r9 r11) [] [])) (by decide) (q_conv (e := decide (r16 ≤ r18)) (b := false) (by kernel_rfl) hc20) (by kernel_rfl) ?_
            refine QI.run (s1 := (qs (S37_12 r1 r13 r9 r11 r16 r18) (H37_34 r9 r11) [] [(33, 1)])) 15 (by kernel_rfl) (by kernel_rfl) ?_
            exact QI.done (by kernel_rfl)
          · refine SI.run (a2 := (S37_10 r1 r13 r9 r11 r16 r18)) (h2 := (H37_34 r9 r11)) 1 (by kernel_rfl) ?_
            exact SI.done (by kernel_rfl)
          exact hK
      · replace hm32 := of_neg hm32 hc15
        rcases Bool.eq_false_or_eq_true ((w64 ((w64 (r1.1.1 * r1.2.1.2)) - (w64 (r1.1.2 * r1.2.1.1)))) == (-1)) with hc23 | hc23
        · replace hm32 := of_pos hm32 hc23
          have hX := of_do hm32
          clear hm32
          obtain ⟨r24, h25, hm32⟩ := hX
          have hX := of_do hm32
          clear hm32
          obtain ⟨r26, h27, hm32⟩ := hX
          rcases Bool.eq_false_or_eq_true (decide (r24 ≤ r26)) with hc28 | hc28
          · replace hm32 := of_pos hm32 hc28
            have hX := of_do hm32
            clear hm32
            obtain ⟨r29, h30, hm32⟩ := hX
            have hm32 := Option.some.inj hm32
            subst hm32
            have hT : ∀ e ∈ ([⟨41, [ag [iv r9.1, iv r9.2], ag [iv r9.1, iv r9.2]], (H37_36 r9 r11), iv r24, []⟩, ⟨41, [ag [iv r11.1, iv r11.2], ag [iv r11.1, iv r11.2]], (H37_36 r9 r11), iv r26, []⟩, ⟨41, [ag [iv r9.1, iv r9.2], ag [iv r9.1, iv r9.2]], (H37_36 r9 r11), iv r29, []⟩] : List Entry), PureSim Try.prog e.g e.args e.h e.v e.new := by
              intro e he
              simp only [List.mem_cons, List.not_mem_nil, or_false] at he
              rcases he with rfl | rfl | rfl
              · exact PureSim.anyK (C41 _ _ _ _ _ h25) (by kernel_rfl)
              · exact PureSim.anyK (C41 _ _ _ _ _ h27) (by kernel_rfl)
              · exact PureSim.anyK (C41 _ _ _ _ _ h30) (by kernel_rfl)
            refine TS.draw' (id := 6) (b := true) (ops := c37.s2.s2.s2.s2.s2.s1.rops) (fin := (qs (S37_2 r1 r13 r9 r11 r24 r26 r29) (H37_34 r9 r11) [] [(33, 1)])) (fin2 := (qs (S37_2 r1 r13 r9 r11 r24 r26 r29) (H37_34 r9 r11) [] [(33, 1)])) (a1 := (S37_0 r13 r29 r1 r9 r11 r24 r26)) (h1 := (H37_34 r9 r11)) (a2 := (st 85 [(2, pt 1 0), (3, .bool (decide ((w64 (2 * (mx r13 (w64 (0 - r13))))) ≤ r29)))])) (h2 := (H37_40 r9 r11)) [⟨41, [ag [iv r9.1, iv r9.2], ag [iv r9.1, iv r9.2]], (H37_36 r9 r11), iv r24, []⟩, ⟨41, [ag [iv r11.1, iv r11.2], ag [iv r11.1, iv r11.2]], (H37_36 r9 r11), iv r26, []⟩, ⟨41, [ag [iv r9.1, iv r9.2], ag [iv r9.1, iv r9.2]], (H37_36 r9 r11), iv r29, []⟩] hT mixed (by kernel_rfl) rfl 34 (by kernel_rfl) [(33, 1)] ?_ rfl (.inr ⟨?_, (by kernel_rfl)⟩) ?_ [2, 3] [1] (by kernel_rfl) ?_
            · refine QI.run (s1 := (qs (S37_31 r1 r13 r9 r11) (H37_36 r9 r11) [] [])) 2 (by kernel_rfl) (by kernel_rfl) ?_
              refine QI.op (q := { val := .bool false }) (s1 := (qs (S37_29 r1 r13 r9 r11) (H37_36 r9 r11) [] [])) (by decide) (q_conv (e := (w64 ((w64 (r1.1.1 * r1.2.1.2)) - (w64 (r1.1.2 * r1.2.1.1)))) == 1) (b := false) (by kernel_rfl) hc15) (by kernel_rfl) ?_
              refine QI.run (s1 := (qs (S37_28 r1 r13 r9 r11) (H37_36 r9 r11) [] [])) 2 (by kernel_rfl) (by kernel_rfl) ?_
              refine QI.op (q := { val := .bool true }) (s1 := (qs (S37_27 r1 r13 r9 r11) (H37_36 r9 r11) [] [])) (by decide) (q_conv (e := (w64 ((w64 (r1.1.1 * r1.2.1.2)) - (w64 (r1.1.2 * r1.2.1.1)))) == (-1)) (b := true) (by kernel_rfl) hc23) (by kernel_rfl) ?_
              refine QI.run (s1 := (qs (S37_23 r1 r13 r9 r11) (H37_36 r9 r11) [] [])) 6 (by kernel_rfl) (by kernel_rfl) ?_
              refine QI.op (q := { val := iv r24, new := [] }) (s1 := (qs (S37_22 r1 r13 r9 r11 r24) (H37_36 r9 r11) [] [])) (by decide) (qOf_call (g := 41) (args := [ag [iv r9.1, iv r9.2], ag [iv r9.1, iv r9.2]]) (by kernel_rfl) lookC_hit) (by kernel_rfl) ?_
              refine QI.run (s1 := (qs (S37_17 r1 r13 r9 r11 r24) (H37_36 r9 r11) [] [])) 4 (by kernel_rfl) (by kernel_rfl) ?_
              refine QI.op (q := { val := iv r26, new := [] }) (s1 := (qs (S37_16 r1 r13 r9 r11 r24 r26) (H37_36 r9 r11) [] [])) (by decide) (qOf_call (g := 41) (args := [ag [iv r11.1, iv r11.2], ag [iv r11.1, iv r11.2]]) (by kernel_rfl) (lookC_skip (by intro _ ha _; have hr := Option.some.inj (h25.symm.trans (Eq.trans (congr (congr (congr (congrArg F41 (show r9.1 = r11.1 from congrArg (leafI 0) ha)) (show r9.2 = r11.2 from congrArg (leafI 1) ha)) (show r9.1 = r11.1 from congrArg (leafI 2) ha)) (show r9.2 = r11.2 from congrArg (leafI 3) ha)) h27)); first | (subst hr; rfl) | (cases hr; done) | (cases hr; rfl)) lookC_hit)) (by kernel_rfl) ?_
              refine QI.op (q := { val := .bool true }) (s1 := (qs (S37_15 r1 r13 r9 r11 r24 r26) (H37_36 r9 r11) [] [])) (by decide) (q_conv (e := decide (r24 ≤ r26)) (b := true) (by kernel_rfl) hc28) (by kernel_rfl) ?_
              refine QI.run (s1 := (qs (S37_5 r1 r13 r9 r11 r24 r26) (H37_36 r9 r11) [] [])) 11 (by kernel_rfl) (by kernel_rfl) ?_
              refine QI.op (q := { val := iv r29, new := [] }) (s1 := (qs (S37_4 r1 r13 r9 r11 r24 r26 r29) (H37_36 r9 r11) [] [])) (by decide) (qOf_call (g := 41) (args := [ag [iv r9.1, iv r9.2], ag [iv r9.1, iv r9.2]]) (by kernel_rfl) (lookC_skip (by intro _ ha _; have hr := Option.some.inj (h25.symm.trans (Eq.trans (congr (congr (congr (congrArg F41 (Eq.refl r9.1)) (Eq.refl r9.2)) (Eq.refl r9.1)) (Eq.refl r9.2)) h30)); first | (subst hr; rfl) | (cases hr; done) | (cases hr; rfl)) (lookC_skip (by intro _ ha _; have hr := Option.some.inj (h27.symm.trans (Eq.trans (congr (congr (congr (congrArg F41 (show r11.1 = r9.1 from congrArg (leafI 0) ha)) (show r11.2 = r9.2 from congrArg (leafI 1) ha)) (show r11.1 = r9.1 from congrArg (leafI 2) ha)) (show r11.2 = r9.2 from congrArg (leafI 3) ha)) h30)); first | (subst hr; rfl) | (cases hr; done) | (cases hr; rfl)) lookC_hit))) (by kernel_rfl) ?_
              refine QI.run (s1 := (qs (S37_2 r1 r13 r9 r11 r24 r26 r29) (H37_34 r9 r11) [] [(33, 1)])) 3 (by kernel_rfl) (by kernel_rfl) ?_
              exact QI.done (by kernel_rfl)
            · refine QI.run (s1 := (qs (S37_31 r1 r13 r9 r11) (H37_36 r9 r11) [] [])) 2 (by kernel_rfl) (by kernel_rfl) ?_
              refine QI.op (q := { val := .bool false }) (s1 := (qs (S37_29 r1 r13 r9 r11) (H37_36 r9 r11) [] [])) (by decide) (q_conv (e := (w64 ((w64 (r1.1.1 * r1.2.1.2)) - (w64 (r1.1.2 * r1.2.1.1)))) == 1) (b := false) (by kernel_rfl) hc15) (by kernel_rfl) ?_
              refine QI.run (s1 := (qs (S37_28 r1 r13 r9 r11) (H37_36 r9 r11) [] [])) 2 (by kernel_rfl) (by kernel_rfl) ?_
              refine QI.op (q := { val := .bool true }) (s1 := (qs (S37_27 r1 r13 r9 r11) (H37_36 r9 r11) [] [])) (by decide) (q_conv (e := (w64 ((w64 (r1.1.1 * r1.2.1.2)) - (w64 (r1.1.2 * r1.2.1.1)))) == (-1)) (b := true) (by kernel_rfl) hc23) (by kernel_rfl) ?_
              refine QI.run (s1 := (qs (S37_23 r1 r13 r9 r11) (H37_36 r9 r11) [] [])) 6 (by kernel_rfl) (by kernel_rfl) ?_
              refine QI.op (q := { val := iv r24, new := [] }) (s1 := (qs (S37_22 r1 r13 r9 r11 r24) (H37_36 r9 r11) [] [])) (by decide) (qOf_call (g := 41) (args := [ag [iv r9.1, iv r9.2], ag [iv r9.1, iv r9.2]]) (by kernel_rfl) lookC_hit) (by kernel_rfl) ?_
              refine QI.run (s1 := (qs (S37_17 r1 r13 r9 r11 r24) (H37_36 r9 r11) [] [])) 4 (by kernel_rfl) (by kernel_rfl) ?_
              refine QI.op (q := { val := iv r26, new := [] }) (s1 := (qs (S37_16 r1 r13 r9 r11 r24 r26) (H37_36 r9 r11) [] [])) (by decide) (qOf_call (g := 41) (args := [ag [iv r11.1, iv r11.2], ag [iv r11.1, iv r11.2]]) (by kernel_rfl) (lookC_skip (by intro _ ha _; have hr := Option.some.inj (h25.symm.trans (Eq.trans (congr (congr (congr (congrArg F41 (show r9.1 = r11.1 from congrArg (leafI 0) ha)) (show r9.2 = r11.2 from congrArg (leafI 1) ha)) (show r9.1 = r11.1 from congrArg (leafI 2) ha)) (show r9.2 = r11.2 from congrArg (leafI 3) ha)) h27)); first | (subst hr; rfl) | (cases hr; done) | (cases hr; rfl)) lookC_hit)) (by kernel_rfl) ?_
              refine QI.op (q := { val := .bool true }) (s1 := (qs (S37_15 r1 r13 r9 r11 r24 r26) (H37_36 r9 r11) [] [])) (by decide) (q_conv (e := decide (r24 ≤ r26)) (b := true) (by kernel_rfl) hc28) (by kernel_rfl) ?_
              refine QI.run (s1 := (qs (S37_5 r1 r13 r9 r11 r24 r26) (H37_36 r9 r11) [] [])) 11 (by kernel_rfl) (by kernel_rfl) ?_
              refine QI.op (q := { val := iv r29, new := [] }) (s1 := (qs (S37_4 r1 r13 r9 r11 r24 r26 r29) (H37_36 r9 r11) [] [])) (by decide) (qOf_call (g := 41) (args := [ag [iv r9.1, iv r9.2], ag [iv r9.1, iv r9.2]]) (by kernel_rfl) (lookC_skip (by intro _ ha _; have hr := Option.some.inj (h25.symm.trans (Eq.trans (congr (congr (congr (congrArg F41 (Eq.refl r9.1)) (Eq.refl r9.2)) (Eq.refl r9.1)) (Eq.refl r9.2)) h30)); first | (subst hr; rfl) | (cases hr; done) | (cases hr; rfl)) (lookC_skip (by intro _ ha _; have hr := Option.some.inj (h27.symm.trans (Eq.trans (congr (congr (congr (congrArg F41 (show r11.1 = r9.1 from congrArg (leafI 0) ha)) (show r11.2 = r9.2 from congrArg (leafI 1) ha)) (show r11.1 = r9.1 from congrArg (leafI 2) ha)) (show r11.2 = r9.2 from congrArg (leafI 3) ha)) h30)); first | (subst hr; rfl) | (cases hr; done) | (cases hr; rfl)) lookC_hit))) (by kernel_rfl) ?_
              refine QI.run (s1 := (qs (S37_2 r1 r13 r9 r11 r24 r26 r29) (H37_34 r9 r11) [] [(33, 1)])) 3 (by kernel_rfl) (by kernel_rfl) ?_
              exact QI.done (by kernel_rfl)
            · refine SI.run (a2 := (S37_0 r13 r29 r1 r9 r11 r24 r26)) (h2 := (H37_34 r9 r11)) 1 (by kernel_rfl) ?_
              exact SI.done (by kernel_rfl)
            exact hK
          · replace hm32 := of_neg hm32 hc28
            have hm32 := Option.some.inj hm32
            subst hm32
            have hT : ∀ e ∈ ([⟨41, [ag [iv r9.1, iv r9.2], ag [iv r9.1, iv r9.2]], (H37_36 r9 r11), iv r24, []⟩, ⟨41, [ag [iv r11.1, iv r11.2], ag [iv r11.1, iv r11.2]], (H37_36 r9 r11), iv r26, []⟩] : List Entry), PureSim Try.prog e.g e.args e.h e.v e.new := by
              intro e he
              simp only [List.mem_cons, List.not_mem_nil, or_false] at he
              rcases he with rfl | rfl
              · exact PureSim.anyK (C41 _ _ _ _ _ h25) (by kernel_rfl)
              · exact PureSim.anyK (C41 _ _ _ _ _ h27) (by kernel_rfl)
            refine TS.draw' (id := 6) (b := true) (ops := c37.s2.s2.s2.s2.s2.s1.rops) (fin := (qs (S37_8 r1 r13 r9 r11 r24 r26) (H37_34 r9 r11) [] [(33, 1)])) (fin2 := (qs (S37_8 r1 r13 r9 r11 r24 r26) (H37_34 r9 r11) [] [(33, 1)])) (a1 := (S37_6 r1 r13 r9 r11 r24 r26)) (h1 := (H37_34 r9 r11)) (a2 := (st 85 [(2, pt 1 0), (3, .bool false)])) (h2 := (H37_40 r9 r11)) [⟨41, [ag [iv r9.1, iv r9.2], ag [iv r9.1, iv r9.2]], (H37_36 r9 r11), iv r24, []⟩, ⟨41, [ag [iv r11.1, iv r11.2], ag [iv r11.1, iv r11.2]], (H37_36 r9 r11), iv r26, []⟩] hT mixed (by kernel_rfl) rfl 34 (by kernel_rfl) [(33, 1)] ?_ rfl (.inr ⟨?_, (by kernel_rfl)⟩) ?_ [2, 3] [1] (by kernel_rfl) ?_
            · refine QI.run (s1 := (qs (S37_31 r1 r13 r9 r11) (H37_36 r9 r11) [] [])) 2 (by kernel_rfl) (by kernel_rfl) ?_
              refine QI.op (q := { val := .bool false }) (s1 := (qs (S37_29 r1 r13 r9 r11) (H37_36 r9 r11) [] [])) (by decide) (q_conv (e := (w64 ((w64 (r1.1.1 * r1.2.1.2)) - (w64 (r1.1.2 * r1.2.1.1)))) == 1) (b := false) (by kernel_rfl) hc15) (by kernel_rfl) ?_
              refine QI.run (s1 := (qs (S37_28 r1 r13 r9 r11) (H37_36 r9 r11) [] [])) 2 (by kernel_rfl) (by kernel_rfl) ?_
              refine QI.op (q := { val := .bool true }) (s1 := (qs (S37_27 r1 r13 r9 r11) (H37_36 r9 r11) [] [])) (by decide) (q_conv (e := (w64 ((w64 (r1.1.1 * r1.2.1.2)) - (w64 (r1.1.2 * r1.2.1.1)))) == (-1)) (b := true) (by kernel_rfl) hc23) (by kernel_rfl) ?_
              refine QI.run (s1 := (qs (S37_23 r1 r13 r9 r11) (H37_36 r9 r11) [] [])) 6 (by kernel_rfl) (by kernel_rfl) ?_
              refine QI.op (q := { val := iv r24, new := [] }) (s1 := (qs (S37_22 r1 r13 r9 r11 r24) (H37_36 r9 r11) [] [])) (by decide) (qOf_call (g := 41) (args := [ag [iv r9.1, iv r9.2], ag [iv r9.1, iv r9.2]]) (by kernel_rfl) lookC_hit) (by kernel_rfl) ?_
              refine QI.run (s1 := (qs (S37_17 r1 r13 r9 r11 r24) (H37_36 r9 r11) [] [])) 4 (by kernel_rfl) (by kernel_rfl) ?_
              refine QI.op (q := { val := iv r26, new := [] }) (s1 := (qs (S37_16 r1 r13 r9 r11 r24 r26) (H37_36 r9 r11) [] [])) (by decide) (qOf_call (g := 41) (args := [ag [iv r11.1, iv r11.2], ag [iv r11.1, iv r11.2]]) (by kernel_rfl) (lookC_skip (by intro _ ha _; have hr := Option.some.inj (h25.symm.trans (Eq.trans (congr (congr (congr (congrArg F41 (show r9.1 = r11.1 from congrArg (leafI 0) ha)) (show r9.2 = r11.2 from congrArg (leafI 1) ha)) (show r9.1 = r11.1 from congrArg (leafI 2) ha)) (show r9.2 = r11.2 from congrArg (leafI 3) ha)) h27)); first | (subst hr; rfl) | (cases hr; done) | (cases hr; rfl)) lookC_hit)) (by kernel_rfl) ?_
              refine QI.op (q := { val := .bool false }) (s1 := (qs (S37_14 r1 r13 r9 r11 r24 r26) (H37_36 r9 r11) [] [])) (by decide) (q_conv (e := decide (r24 ≤ r26)) (b := false) (by kernel_rfl) hc28) (by kernel_rfl) ?_
              refine QI.run (s1 := (qs (S37_8 r1 r13 r9 r11 r24 r26) (H37_34 r9 r11) [] [(33, 1)])) 15 (by kernel_rfl) (by kernel_rfl) ?_
              exact QI.done (by kernel_rfl)
            · refine QI.run (s1 := (qs (S37_31 r1 r13 r9 r11) (H37_36 r9 r11) [] [])) 2 (by kernel_rfl) (by kernel_rfl) ?_
              refine QI.op (q := { val := .bool false }) (s1 := (qs (S37_29 r1 r13 r9 r11) (H37_36 r9 r11) [] [])) (by decide) (q_conv (e := (w64 ((w64 (r1.1.1 * r1.2.1.2)) - (w64 (r1.1.2 * r1.2.1.1)))) == 1) (b := false) (by kernel_rfl) hc15) (by kernel_rfl) ?_
              refine QI.run (s1 := (qs (S37_28 r1 r13 r9 r11) (H37_36 r9 r11) [] [])) 2 (by kernel_rfl) (by kernel_rfl) ?_
              refine QI.op (q := { val := .bool true }) (s1 := (qs (S37_27 r1 r13 r9 r11) (H37_36 r9 r11) [] [])) (by decide) (q_conv (e := (w64 ((w64 (r1.1.1 * r1.2.1.2)) - (w64 (r1.1.2 * r1.2.1.1)))) == (-1)) (b := true) (by kernel_rfl) hc23) (by kernel_rfl) ?_
              refine QI.run (s1 := (qs (S37_23 r1 r13 r9 r11) (H37_36 r9 r11) [] [])) 6 (by kernel_rfl) (by kernel_rfl) ?_
              refine QI.op (q := { val := iv r24, new := [] }) (s1 := (qs (S37_22 r1 r13 r9 r11 r24) (H37_36 r9 r11) [] [])) (by decide) (qOf_call (g := 41) (args := [ag [iv r9.1, iv r9.2], ag [iv r9.1, iv r9.2]]) (by kernel_rfl) lookC_hit) (by kernel_rfl) ?_
              refine QI.run (s1 := (qs (S37_17 r1 r13 r9 r11 r24) (H37_36 r9 r11) [] [])) 4 (by kernel_rfl) (by kernel_rfl) ?_
              refine QI.op (q := { val := iv r26, new := [] }) (s1 := (qs (S37_16 r1 r13 r9 r11 r24 r26) (H37_36 r9 r11) [] [])) (by decide) (qOf_call (g := 41) (args := [ag [iv r11.1, iv r11.2], ag [iv r11.1, iv r11.2]]) (by kernel_rfl) (lookC_skip (by intro _ ha _; have hr := Option.some.inj (h25.symm.trans (Eq.trans (congr (congr (congr (congrArg F41 (show r9.1 = r11.1 from congrArg (leafI 0) ha)) (show r9.2 = r11.2 from congrArg (leafI 1) ha)) (show r9.1 = r11.1 from congrArg (leafI 2) ha)) (show r9.2 = r11.2 from congrArg (leafI 3) ha)) h27)); first | (subst hr; rfl) | (cases hr; done) | (cases hr; rfl)) lookC_hit)) (by kernel_rfl) ?_
              refine QI.op (q := { val := .bool false }) (s1 := (qs (S37_14 r1 r13 r9 r11 r24 r26) (H37_36 r9 r11) [] [])) (by decide) (q_conv (e := decide (r24 ≤ r26)) (b := false) (by kernel_rfl) hc28) (by kernel_rfl) ?_
              refine QI.run (s1 := (qs (S37_8 r1 r13 r9 r11 r24 r26) (H37_34 r9 r11) [] [(33, 1)])) 15 (by kernel_rfl) (by kernel_rfl) ?_
              exact QI.done (by kernel_rfl)
            · refine SI.run (a2 := (S37_6 r1 r13 r9 r11 r24 r26)) (h2 := (H37_34 r9 r11)) 1 (by kernel_rfl) ?_
              exact SI.done (by kernel_rfl)
            exact hK
        · replace hm32 := of_neg hm32 hc23
          have hm32 := Option.some.inj hm32
          subst hm32
          refine TS.draw' (id := 6) (b := true) (ops := c37.s2.s2.s2.s2.s2.s1.rops) (fin := (qs (S37_13 r1 r13 r9 r11) (H37_34 r9 r11) [] [(33, 1)])) (fin2 := (qs (S37_13 r1 r13 r9 r11) (H37_34 r9 r11) [] [(33, 1)])) (a1 := (S37_11 r1 r13 r9 r11)) (h1 := (H37_34 r9 r11)) (a2 := (st 85 [(2, pt 1 0), (3, .bool false)])) (h2 := (H37_40 r9 r11)) [] (fun e he => by cases he) mixed (by kernel_rfl) rfl 34 (by kernel_rfl) [(33, 1)] ?_ rfl (.inr ⟨?_, (by kernel_rfl)⟩) ?_ [2, 3] [1] (by kernel_rfl) ?_
          · refine QI.run (s1 := (qs (S37_31 r1 r13 r9 r11) (H37_36 r9 r11) [] [])) 2 (by kernel_rfl) (by kernel_rfl) ?_
            refine QI.op (q := { val := .bool false }) (s1 := (qs (S37_29 r1 r13 r9 r11) (H37_36 r9 r11) [] [])) (by decide) (q_conv (e := (w64 ((w64 (r1.1.1 * r1.2.1.2)) - (w64 (r1.1.2 * r1.2.1.1)))) == 1) (b := false) (by kernel_rfl) hc15) (by kernel_rfl) ?_
            refine QI.run (s1 := (qs (S37_28 r1 r13 r9 r11) (H37_36 r9 r11) [] [])) 2 (by kernel_rfl) (by kernel_rfl) ?_
            refine QI.op (q := { val := .bool false }) (s1 := (qs (S37_26 r1 r13 r9 r11) (H37_36 r9 r11) [] [])) (by decide) (q_conv (e := (w64 ((w64 (r1.1.1 * r1.2.1.2)) - (w64 (r1.1.2 * r1.2.1.1)))) == (-1)) (b := false) (by kernel_rfl) hc23) (by kernel_rfl) ?_
            refine QI.run (s1 := (qs (S37_13 r1 r13 r9 r11) (H37_34 r9 r11) [] [(33, 1)])) 28 (by kernel_rfl) (by kernel_rfl) ?_
            exact QI.done (by kernel_rfl)
          · refine QI.run (s1 := (qs (S37_31 r1 r13 r9 r11) (H37_36 r9 r11) [] [])) 2 (by kernel_rfl) (by kernel_rfl) ?_
            refine QI.op (q := { val := .bool false }) (s1 := (qs (S37_29 r1 r13 r9 r11) (H37_36 r9 r11) [] [])) (by decide) (q_conv (e := (w64 ((w64 (r1.1.1 * r1.2.1.2)) - (w64 (r1.1.2 * r1.2.1.1)))) == 1) (b := false) (by kernel_rfl) hc15) (by kernel_rfl) ?_
            refine QI.run (s1 := (qs (S37_28 r1 r13 r9 r11) (H37_36 r9 r11) [] [])) 2 (by kernel_rfl) (by kernel_rfl) ?_
            refine QI.op (q := { val := .bool false }) (s1 := (qs (S37_26 r1 r13 r9 r11) (H37_36 r9 r11) [] [])) (by decide) (q_conv (e := (w64 ((w64 (r1.1.1 * r1.2.1.2)) - (w64 (r1.1.2 * r1.2.1.1)))) == (-1)) (b := false) (by kernel_rfl) hc23) (by kernel_rfl) ?_
            refine QI.run (s1 := (qs (S37_13 r1 r13 r9 r11) (H37_34 r9 r11) [] [(33, 1)])) 28 (by kernel_rfl) (by kernel_rfl) ?_
            exact QI.done (by kernel_rfl)
          · refine SI.run (a2 := (S37_11 r1 r13 r9 r11)) (h2 := (H37_34 r9 r11)) 1 (by kernel_rfl) ?_
            exact SI.done (by kernel_rfl)
          exact hK
  rcases Bool.eq_false_or_eq_true (r1.2.2 != 0) with hc3 | hc3
  · replace hm33 := of_pos hm33 hc3
    have hm33 := Option.some.inj hm33
    subst hm33
    refine TS.regionP (by kernel_rfl) ?_
    refine TI.runA 1 [1, 2, 4, 5, 16] (a2 := (S37_39 r1)) (by kernel_rfl) ?_
    refine TI.op (q := { val := .bool true }) (q_conv (e := r1.2.2 != 0) (b := true) (by kernel_rfl) hc3) [1, 2, 4, 5, 17] [0, 1, 2, 3] (a2 := (st 85 [(1, pt 0 0), (2, pt 1 0), (4, pt 2 0), (5, pt 3 0), (17, .bool true)])) (h2 := (H37_33 p0 p1 p2 p3 r1)) (by kernel_rfl) ?_
    refine TI.runA 10 [1, 2, 4, 5, 27] (a2 := (S37_38)) (by kernel_rfl) ?_
    refine TI.done (by kernel_rfl) ?_
    exact hK
  · replace hm33 := of_neg hm33 hc3
    have hX := of_do hm33
    clear hm33
    obtain ⟨r4, h5, hm33⟩ := hX
    cases r4 with
    | true =>
      replace hm33 := of_pos hm33 rfl
      have hX := of_do hm33
      clear hm33
      obtain ⟨r6, h7, hm33⟩ := hX
      cases r6 with
      | true =>
        replace hm33 := of_pos hm33 rfl
        have hm33 := Option.some.inj hm33
        subst hm33
        refine TS.regionP (by kernel_rfl) ?_
        refine TI.runA 1 [1, 2, 4, 5, 16] (a2 := (S37_39 r1)) (by kernel_rfl) ?_
        refine TI.op (q := { val := .bool false }) (q_conv (e := r1.2.2 != 0) (b := false) (by kernel_rfl) hc3) [1, 2, 4, 5, 17] [0, 1, 2, 3] (a2 := (S37_37)) (h2 := (H37_33 p0 p1 p2 p3 r1)) (by kernel_rfl) ?_
        refine TI.runA 2 [1, 2, 4, 5, 18, 19] (a2 := (S37_35 r1)) (by kernel_rfl) ?_
        refine TI.callF (C38 _ _ _ h5) (by kernel_rfl) (by kernel_rfl) ?_
        refine TI.runA 4 [1, 2, 4, 5, 23, 24] (a2 := (st 85 [(1, pt 0 0), (2, pt 1 0), (4, pt 2 0), (5, pt 3 0), (23, .bool false), (24, ag [iv r1.2.1.1, iv r1.2.1.2])])) (by kernel_rfl) ?_
        refine TI.callF (C38 _ _ _ h7) (by kernel_rfl) (by kernel_rfl) ?_
        refine TI.runA 2 [1, 2, 4, 5, 27] (a2 := (st 85 [(1, pt 0 0), (2, pt 1 0), (4, pt 2 0), (5, pt 3 0), (27, .bool false)])) (by kernel_rfl) ?_
        refine TI.done (by kernel_rfl) ?_
        exact hK
      | false =>
        replace hm33 := of_neg hm33 rfl
        have hm33 := Option.some.inj hm33
        subst hm33
        refine TS.regionP (by kernel_rfl) ?_
        refine TI.runA 1 [1, 2, 4, 5, 16] (a2 := (S37_39 r1)) (by kernel_rfl) ?_
        refine TI.op (q := { val := .bool false }) (q_conv (e := r1.2.2 != 0) (b := false) (by kernel_rfl) hc3) [1, 2, 4, 5, 17] [0, 1, 2, 3] (a2 := (S37_37)) (h2 := (H37_33 p0 p1 p2 p3 r1)) (by kernel_rfl) ?_
        refine TI.runA 2 [1, 2, 4, 5, 18, 19] (a2 := (S37_35 r1)) (by kernel_rfl) ?_
        refine TI.callF (C38 _ _ _ h5) (by kernel_rfl) (by kernel_rfl) ?_
        refine TI.runA 4 [1, 2, 4, 5, 23, 24] (a2 := (st 85 [(1, pt 0 0), (2, pt 1 0), (4, pt 2 0), (5, pt 3 0), (23, .bool false), (24, ag [iv r1.2.1.1, iv r1.2.1.2])])) (by kernel_rfl) ?_
        refine TI.callF (C38 _ _ _ h7) (by kernel_rfl) (by kernel_rfl) ?_
        refine TI.runA 2 [1, 2, 4, 5, 27] (a2 := (S37_38)) (by kernel_rfl) ?_
        refine TI.done (by kernel_rfl) ?_
        exact hK
    | false =>
      replace hm33 := of_neg hm33 rfl
      have hm33 := Option.some.inj hm33
      subst hm33
      refine TS.regionP (by kernel_rfl) ?_
      refine TI.runA 1 [1, 2, 4, 5, 16] (a2 := (S37_39 r1)) (by kernel_rfl) ?_
      refine TI.op (q := { val := .bool false }) (q_conv (e := r1.2.2 != 0) (b := false) (by kernel_rfl) hc3) [1, 2, 4, 5, 17] [0, 1, 2, 3] (a2 := (S37_37)) (h2 := (H37_33 p0 p1 p2 p3 r1)) (by kernel_rfl) ?_
      refine TI.runA 2 [1, 2, 4, 5, 18, 19] (a2 := (S37_35 r1)) (by kernel_rfl) ?_
      refine TI.callF (C38 _ _ _ h5) (by kernel_rfl) (by kernel_rfl) ?_
      refine TI.runA 7 [1, 2, 4, 5, 27] (a2 := (S37_38)) (by kernel_rfl) ?_
      refine TI.done (by kernel_rfl) ?_
      exact hK
theorem C37 (p0 : Int) (p1 : Int) (p2 : Int) (p3 : Int) (r : (((Int × Int) × (Int × Int)) × Bool)) (hF : F37 p0 p1 p2 p3 = some r) : PureSim Try.prog 37 [ag [iv p0, iv p1, iv p2, iv p3]] [] (V37 0 r) (N37 0 r) :=
  PureSim.of_Fin Try.func37 (c := c37) (by kernel_rfl) (by kernel_rfl) 0 rfl [0] [] (by kernel_rfl) (B37 p0 p1 p2 p3 r hF)

-- agonic/agoniclaw06.plus
noncomputable def c39 : Code := Try.f39.code
def F39 (p0 : Int) (p1 : Int) (p2 : Int) (p3 : Int) : Option (Int × Int) :=
  F43 (w64 (p0 + p2)) (w64 (p1 + p3)) >>= fun r1 =>
  some (r1.1, r1.2)
def V39 (b : Nat) (r : (Int × Int)) : Value := ag [iv r.1, iv r.2]
def N39 (b : Nat) (r : (Int × Int)) : List Blk := []
theorem B39 (p0 : Int) (p1 : Int) (p2 : Int) (p3 : Int) (r : (Int × Int)) (hF : F39 p0 p1 p2 p3 = some r) : TS Try.prog 0 0 c39 (st 16 [(0, ag [iv p0, iv p1]), (1, ag [iv p2, iv p3])]) [] (NX Try.prog 0 0 [] (FinP Try.prog Try.f39 0 (V39 0 r) (N39 0 r))) := by
  unfold F39 at hF
  refine TS.seqP (by kernel_rfl) ?_
  refine TS.regionP (by kernel_rfl) ?_
  refine TI.run 3 [2, 3, 4] [0, 1, 2] (a2 := (st 16 [(2, pt 0 0), (3, pt 1 0), (4, pt 2 0)])) (h2 := [cl 23 [iv p0, iv p1], cl 23 [iv p2, iv p3], cl 23 [iv 0, iv 0]]) (by kernel_rfl) ?_
  refine TI.done (by kernel_rfl) ?_
  refine NX.sq ?_
  refine TS.seqP (by kernel_rfl) ?_
  have hX := of_do hF
  clear hF
  obtain ⟨r1, h2, hF⟩ := hX
  refine TS.regionP (by kernel_rfl) ?_
  refine TI.run 10 [4, 9, 14] [2] (a2 := (st 16 [(4, pt 2 0), (9, iv (w64 (p0 + p2))), (14, iv (w64 (p1 + p3)))])) (h2 := [.dead, .dead, cl 23 [iv 0, iv 0]]) (by kernel_rfl) ?_
  refine TI.callF (C43 _ _ _ h2) (by kernel_rfl) (by kernel_rfl) ?_
  refine TI.run 1 [4] [2] (a2 := (st 16 [(4, pt 2 0)])) (h2 := [.dead, .dead, cl 23 [iv r1.1, iv r1.2]]) (by kernel_rfl) ?_
  refine TI.done (by kernel_rfl) ?_
  refine NX.sq ?_
  refine TS.ret' (by kernel_rfl) ?_
  have hF := Option.some.inj hF
  subst hF
  exact ⟨.inr rfl, rfl, ag [iv r1.1, iv r1.2], by kernel_rfl, WkV.flat0 (by kernel_rfl) (Nat.le_of_ble_eq_true rfl)⟩
theorem C39 (p0 : Int) (p1 : Int) (p2 : Int) (p3 : Int) (r : (Int × Int)) (hF : F39 p0 p1 p2 p3 = some r) : PureSim Try.prog 39 [ag [iv p0, iv p1], ag [iv p2, iv p3]] [] (V39 0 r) (N39 0 r) :=
  PureSim.of_Fin Try.func39 (c := c39) (by kernel_rfl) (by kernel_rfl) 0 rfl [0, 1] [] (by kernel_rfl) (B39 p0 p1 p2 p3 r hF)

-- agonic/agoniclaw06.pulls
noncomputable def c42 : Code := Try.f42.code
def H42_0 (p0 : Int) (p1 : Int) (p2 : Int) (p3 : Int) (p4 : Int) (p5 : Int) (v110 : (List (Int × Int))) (r126 : (Int × Int)) : List Blk := [cl 25 [iv p0, iv p1, iv p2, iv p3], cl 23 [iv p4, iv p5], accB 23 (List.length v110) (List.flatMap e23 v110), cl 23 [iv r126.1, iv r126.2]]
def F42l1 (p0 : Int) (p1 : Int) (p2 : Int) (p3 : Int) (p4 : Int) (p5 : Int) (p6 : Int) (r1 : Int) (v48 : Int) (v111 : Int) (v110 : (List (Int × Int))) : Option (List (Int × Int)) :=
    if decide (v111 ≤ (w64 (p5 + p6))) then
      F43 v48 v111 >>= fun r126 =>
      F45 r126.1 r126.2 p2 p3 >>= fun r128 =>
      if r1 = 0 then none else
      (
        if (Int.tmod r128 r1) == 0 then
          F45 p0 p1 r126.1 r126.2 >>= fun r132 =>
          some ((Int.tmod r132 r1) == 0)
        else
          some (false)
      : Option Bool) >>= fun m134 =>
      (
        if m134 then
          if List.length v110 ≤ 1000000000 then
            some (v110 ++ [(r126.1, r126.2)])
          else none
        else
          some v110
      : Option (List (Int × Int))) >>= fun m137 =>
      F42l1 p0 p1 p2 p3 p4 p5 p6 r1 v48 (w64 (v111 + 1)) m137
    else
      some v110
  partial_fixpoint
def F42l0 (p0 : Int) (p1 : Int) (p2 : Int) (p3 : Int) (p4 : Int) (p5 : Int) (p6 : Int) (r1 : Int) (v49 : (List (Int × Int))) (v48 : Int) : Option (List (Int × Int)) :=
    if decide (v48 ≤ (w64 (p4 + p6))) then
      F42l1 p0 p1 p2 p3 p4 p5 p6 r1 v48 (w64 (p5 - p6)) v49 >>= fun r141 =>
      F42l0 p0 p1 p2 p3 p4 p5 p6 r1 r141 (w64 (v48 + 1))
    else
      some v49
  partial_fixpoint
def F42 (p0 : Int) (p1 : Int) (p2 : Int) (p3 : Int) (p4 : Int) (p5 : Int) (p6 : Int) : Option (List (Int × Int)) :=
  F45 p0 p1 p2 p3 >>= fun r1 =>
  F42l0 p0 p1 p2 p3 p4 p5 p6 r1 ([]) (w64 (p4 - p6)) >>= fun r143 =>
  some r143
def V42 (b : Nat) (r : (List (Int × Int))) : Value := accV (b + 0) (List.length r)
def N42 (b : Nat) (r : (List (Int × Int))) : List Blk := [accB 23 (List.length r) (List.flatMap e23 r)]
def P42l1 (p0 : Int) (p1 : Int) (p2 : Int) (p3 : Int) (p4 : Int) (p5 : Int) (p6 : Int) (r1 : Int) (v48 : Int) (r : (List (Int × Int))) : Post := fun e a h => e = .exit 2 ∧ Wk Try.prog 0 0 a h (st 65 [(2, iv p6), (3, pt 0 0), (4, pt 1 0), (7, iv r1), (8, accV 2 (List.length r)), (9, iv v48)]) [cl 25 [iv p0, iv p1, iv p2, iv p3], cl 23 [iv p4, iv p5], accB 23 (List.length r) (List.flatMap e23 r)]
theorem L42l1 (p0 : Int) (p1 : Int) (p2 : Int) (p3 : Int) (p4 : Int) (p5 : Int) (p6 : Int) (r1 : Int) (v48 : Int) (v111 : Int) (v110 : (List (Int × Int))) (r : (List (Int × Int))) (hF : F42l1 p0 p1 p2 p3 p4 p5 p6 r1 v48 v111 v110 = some r) : TL Try.prog 0 0 c42.s2.s2.s2.s1.s2.bd.bd.s2.s1.bd.s2.bd.bd (st 65 [(2, iv p6), (3, pt 0 0), (4, pt 1 0), (7, iv r1), (8, accV 2 (List.length v110)), (9, iv v48), (10, iv v111)]) [cl 25 [iv p0, iv p1, iv p2, iv p3], cl 23 [iv p4, iv p5], accB 23 (List.length v110) (List.flatMap e23 v110)] (P42l1 p0 p1 p2 p3 p4 p5 p6 r1 v48 r) := by
  refine F42l1.partial_correctness p0 p1 p2 p3 p4 p5 p6 r1 v48 (motive := fun v111 v110 r => TL Try.prog 0 0 c42.s2.s2.s2.s1.s2.bd.bd.s2.s1.bd.s2.bd.bd (st 65 [(2, iv p6), (3, pt 0 0), (4, pt 1 0), (7, iv r1), (8, accV 2 (List.length v110)), (9, iv v48), (10, iv v111)]) [cl 25 [iv p0, iv p1, iv p2, iv p3], cl 23 [iv p4, iv p5], accB 23 (List.length v110) (List.flatMap e23 v110)] (P42l1 p0 p1 p2 p3 p4 p5 p6 r1 v48 r)) ?_ v111 v110 r hF
  clear hF r v111 v110
  intro again ih v111 v110 r hF
  refine TL.round ?_
  refine TS.seqP (by kernel_rfl) ?_
  refine TS.seqP (by kernel_rfl) ?_
  refine TS.regionP (by kernel_rfl) ?_
  refine TI.runA 6 [2, 3, 4, 7, 8, 9, 10, 38] (a2 := (st 65 [(2, iv p6), (3, pt 0 0), (4, pt 1 0), (7, iv r1), (8, accV 2 (List.length v110)), (9, iv v48), (10, iv v111), (38, .bool (decide (v111 ≤ (w64 (p5 + p6)))))])) (by kernel_rfl) ?_
  refine TI.done (by kernel_rfl) ?_
  refine NX.sq ?_
  refine TS.condP (o := (.tmp 38)) (b := decide (v111 ≤ (w64 (p5 + p6)))) (by kernel_rfl) (by kernel_rfl) (fun hc125 => ?_) (fun hc125 => ?_)
  · replace hF := of_pos hF hc125
    refine TS.skip' (by kernel_rfl) ?_
    refine NX.sq ?_
    refine TS.seqP (by kernel_rfl) ?_
    refine TS.blockP (id := 3) (by kernel_rfl) ?_
    refine TS.seqP (by kernel_rfl) ?_
    have hX := of_do hF
    clear hF
    obtain ⟨r126, h127, hF⟩ := hX
    refine TS.regionP (by kernel_rfl) ?_
    refine TI.runA 2 [2, 3, 4, 7, 8, 9, 10, 41, 42] (a2 := (st 65 [(2, iv p6), (3, pt 0 0), (4, pt 1 0), (7, iv r1), (8, accV 2 (List.length v110)), (9, iv v48), (10, iv v111), (41, iv v48), (42, iv v111)])) (by kernel_rfl) ?_
    refine TI.callF (C43 _ _ _ h127) (by kernel_rfl) (by kernel_rfl) ?_
    refine TI.run 2 [2, 3, 4, 7, 8, 9, 10, 11] [0, 1, 2, 3] (a2 := (st 65 [(2, iv p6), (3, pt 0 0), (4, pt 1 0), (7, iv r1), (8, accV 2 (List.length v110)), (9, iv v48), (10, iv v111), (11, pt 3 0)])) (h2 := (H42_0 p0 p1 p2 p3 p4 p5 v110 r126)) (by kernel_rfl) ?_
    refine TI.done (by kernel_rfl) ?_
    refine NX.sq ?_
    refine TS.seqP (by kernel_rfl) ?_
    have hX := of_do hF
    clear hF
    obtain ⟨r128, h129, hF⟩ := hX
    have hX := of_guardn hF
    clear hF
    obtain ⟨hg130, hF⟩ := hX
    have hX := of_do hF
    clear hF
    obtain ⟨m134, hm140, hF⟩ := hX
    have hK : NX Try.prog 0 0 [.sq c42.s2.s2.s2.s1.s2.bd.bd.s2.s1.bd.s2.bd.bd.s2.s1.bd.s2.s2, .bk 3, .sq c42.s2.s2.s2.s1.s2.bd.bd.s2.s1.bd.s2.bd.bd.s2.s2] (Rd Try.prog 0 0 c42.s2.s2.s2.s1.s2.bd.bd.s2.s1.bd.s2.bd.bd (P42l1 p0 p1 p2 p3 p4 p5 p6 r1 v48 r)) .normal (st 65 [(2, iv p6), (3, pt 0 0), (4, pt 1 0), (7, iv r1), (8, accV 2 (List.length v110)), (9, iv v48), (10, iv v111), (11, pt 3 0), (59, .bool m134)]) (H42_0 p0 p1 p2 p3 p4 p5 v110 r126) := by
      refine NX.sq ?_
      have hX := of_do hF
      clear hF
      obtain ⟨m137, hm138, hF⟩ := hX
      have hK : NX Try.prog 0 0 [.bk 3, .sq c42.s2.s2.s2.s1.s2.bd.bd.s2.s1.bd.s2.bd.bd.s2.s2] (Rd Try.prog 0 0 c42.s2.s2.s2.s1.s2.bd.bd.s2.s1.bd.s2.bd.bd (P42l1 p0 p1 p2 p3 p4 p5 p6 r1 v48 r)) .normal (st 65 [(2, iv p6), (3, pt 0 0), (4, pt 1 0), (7, iv r1), (8, accV 2 (List.length m137)), (9, iv v48), (10, iv v111)]) [cl 25 [iv p0, iv p1, iv p2, iv p3], cl 23 [iv p4, iv p5], accB 23 (List.length m137) (List.flatMap e23 m137)] := by
        refine NX.bk ?_
        refine NX.sq ?_
        refine TS.regionP (by kernel_rfl) ?_
        refine TI.runA 3 [2, 3, 4, 7, 8, 9, 10] (a2 := (st 65 [(2, iv p6), (3, pt 0 0), (4, pt 1 0), (7, iv r1), (8, accV 2 (List.length m137)), (9, iv v48), (10, iv (w64 (v111 + 1)))])) (by kernel_rfl) ?_
        refine TI.done (by kernel_rfl) ?_
        exact Rd.again (a2 := (st 65 [(2, iv p6), (3, pt 0 0), (4, pt 1 0), (7, iv r1), (8, accV 2 (List.length m137)), (9, iv v48), (10, iv (w64 (v111 + 1)))])) (h2 := [cl 25 [iv p0, iv p1, iv p2, iv p3], cl 23 [iv p4, iv p5], accB 23 (List.length m137) (List.flatMap e23 m137)]) (Wk.anew (base := 0) (L := 0) (f := [0, 1, 2]) (by decide) (by decide) (Nat.le_of_ble_eq_true rfl) rfl (.cons (At.blk (by kernel_rfl) (RnB.lit (.cons (.flat (by kernel_rfl)) (.cons (.flat (by kernel_rfl)) (.cons (.flat (by kernel_rfl)) (.cons (.flat (by kernel_rfl)) .nil)))))) (.cons (At.blk (by kernel_rfl) (RnB.lit (.cons (.flat (by kernel_rfl)) (.cons (.flat (by kernel_rfl)) .nil)))) (.cons (At.acc (by kernel_rfl) rfl (fun _ => rfl)) (.nil _)))) (LRn.stx [2, 3, 4, 7, 8, 9, 10] [iv p6, pt 0 0, pt 1 0, iv r1, accV 2 (List.length m137), iv v48, iv (w64 (v111 + 1))] [iv p6, pt 0 0, pt 1 0, iv r1, accV 2 (List.length m137), iv v48, iv (w64 (v111 + 1))] (.cons (.flat (by kernel_rfl)) (.cons (Rn.ptr _ _ _ (Nat.le_of_ble_eq_true rfl) rfl) (.cons (Rn.ptr _ _ _ (Nat.le_of_ble_eq_true rfl) rfl) (.cons (.flat (by kernel_rfl)) (.cons (Rn.acc (Nat.le_of_ble_eq_true rfl) rfl) (.cons (.flat (by kernel_rfl)) (.cons (.flat (by kernel_rfl)) .nil))))))) (by kernel_rfl) (by kernel_rfl) rfl) rfl rfl) (ih (w64 (v111 + 1)) m137 _ hF)
      clear hF
      have hF := hm138
      clear hm138
      refine TS.start ?_
      cases m134 with
      | true =>
        replace hF := of_pos hF rfl
        refine TS.condTP (o := (.tmp 59)) (by kernel_rfl) (by kernel_rfl) ?_
        have hX := of_guard hF
        clear hF
        obtain ⟨hg139, hF⟩ := hX
        refine TS.regionP (by kernel_rfl) ?_
        refine TI.run 3 [2, 3, 4, 7, 9, 10, 60, 62] [0, 1, 2, 4] (a2 := (st 65 [(2, iv p6), (3, pt 0 0), (4, pt 1 0), (7, iv r1), (9, iv v48), (10, iv v111), (60, accV 2 (List.length v110)), (62, .slice (some ⟨4, 0, none⟩) 1 1)])) (h2 := [cl 25 [iv p0, iv p1, iv p2, iv p3], cl 23 [iv p4, iv p5], accB 23 (List.length v110) (List.flatMap e23 v110), .dead, cl 23 [iv r126.1, iv r126.2]]) (by kernel_rfl) ?_
        refine TI.acc (l := v110) (b := 2) (ts := #[86, 86]) (e := 23) (bytes := 16) (z := ag [iv 0, iv 0]) (y := .slice (some ⟨4, 0, none⟩) 1 1) (ys := [(r126.1, r126.2)]) (xs := List.flatMap e23 ([(r126.1, r126.2)])) (m := 1) (s := 2) (enc := e23) (by kernel_rfl) (by kernel_rfl) (by decide) (by kernel_rfl) (by kernel_rfl) (by kernel_rfl) (by kernel_rfl) (by kernel_rfl) (by kernel_rfl) (by kernel_rfl) (by kernel_rfl) (fun _ => rfl) rfl rfl (by omega) [2, 3, 4, 7, 9, 10, 63] [0, 1, 5] (a2 := (st 65 [(2, iv p6), (3, pt 0 0), (4, pt 1 0), (7, iv r1), (9, iv v48), (10, iv v111), (63, .slice (some ⟨5, 0, none⟩) (List.length (v110 ++ [(r126.1, r126.2)])) UNK)])) (h2 := [cl 25 [iv p0, iv p1, iv p2, iv p3], cl 23 [iv p4, iv p5], .dead, .dead, .dead, .cells 23 (List.flatMap e23 (v110 ++ [(r126.1, r126.2)]))]) (by kernel_rfl) ?_
        refine TI.runA 1 [2, 3, 4, 7, 8, 9, 10] (a2 := (st 65 [(2, iv p6), (3, pt 0 0), (4, pt 1 0), (7, iv r1), (8, .slice (some ⟨5, 0, none⟩) (List.length (v110 ++ [(r126.1, r126.2)])) UNK), (9, iv v48), (10, iv v111)])) (by kernel_rfl) ?_
        refine TI.done (by kernel_rfl) ?_
        have hF := Option.some.inj hF
        subst hF
        exact TS.weak (Wk.anew (base := 0) (L := 0) (f := [0, 1, 5]) (by decide) (by decide) (Nat.le_of_ble_eq_true rfl) rfl (.cons (At.blk (by kernel_rfl) (RnB.lit (.cons (.flat (by kernel_rfl)) (.cons (.flat (by kernel_rfl)) (.cons (.flat (by kernel_rfl)) (.cons (.flat (by kernel_rfl)) .nil)))))) (.cons (At.blk (by kernel_rfl) (RnB.lit (.cons (.flat (by kernel_rfl)) (.cons (.flat (by kernel_rfl)) .nil)))) (.cons (At.accU (by kernel_rfl) rfl (fun _ => rfl)) (.nil _)))) (LRn.stx [2, 3, 4, 7, 8, 9, 10] [iv p6, pt 0 0, pt 1 0, iv r1, accV 2 (List.length (v110 ++ [(r126.1, r126.2)])), iv v48, iv v111] [iv p6, pt 0 0, pt 1 0, iv r1, .slice (some ⟨5, 0, none⟩) (List.length (v110 ++ [(r126.1, r126.2)])) UNK, iv v48, iv v111] (.cons (.flat (by kernel_rfl)) (.cons (Rn.ptr _ _ _ (Nat.le_of_ble_eq_true rfl) rfl) (.cons (Rn.ptr _ _ _ (Nat.le_of_ble_eq_true rfl) rfl) (.cons (.flat (by kernel_rfl)) (.cons (Rn.accU (Nat.le_of_ble_eq_true rfl) rfl (by simp)) (.cons (.flat (by kernel_rfl)) (.cons (.flat (by kernel_rfl)) .nil))))))) (by kernel_rfl) (by kernel_rfl) rfl) rfl rfl) hK
      | false =>
        replace hF := of_neg hF rfl
        refine TS.condFP (o := (.tmp 59)) (by kernel_rfl) (by kernel_rfl) ?_
        refine TS.skip' (by kernel_rfl) ?_
        have hF := Option.some.inj hF
        subst hF
        exact TS.weak (Wk.anew (base := 0) (L := 0) (f := [0, 1, 2]) (by decide) (by decide) (Nat.le_of_ble_eq_true rfl) rfl (.cons (At.blk (by kernel_rfl) (RnB.lit (.cons (.flat (by kernel_rfl)) (.cons (.flat (by kernel_rfl)) (.cons (.flat (by kernel_rfl)) (.cons (.flat (by kernel_rfl)) .nil)))))) (.cons (At.blk (by kernel_rfl) (RnB.lit (.cons (.flat (by kernel_rfl)) (.cons (.flat (by kernel_rfl)) .nil)))) (.cons (At.acc (by kernel_rfl) rfl (fun _ => rfl)) (.nil _)))) (LRn.stx [2, 3, 4, 7, 8, 9, 10] [iv p6, pt 0 0, pt 1 0, iv r1, accV 2 (List.length v110), iv v48, iv v111] [iv p6, pt 0 0, pt 1 0, iv r1, accV 2 (List.length v110), iv v48, iv v111] (.cons (.flat (by kernel_rfl)) (.cons (Rn.ptr _ _ _ (Nat.le_of_ble_eq_true rfl) rfl) (.cons (Rn.ptr _ _ _ (Nat.le_of_ble_eq_true rfl) rfl) (.cons (.flat (by kernel_rfl)) (.cons (Rn.acc (Nat.le_of_ble_eq_true rfl) rfl) (.cons (.flat (by kernel_rfl)) (.cons (.flat (by kernel_rfl)) .nil))))))) (by kernel_rfl) (by kernel_rfl) rfl) rfl rfl) hK
    rcases Bool.eq_false_or_eq_true ((Int.tmod r128 r1) == 0) with hc131 | hc131
    · replace hm140 := of_pos hm140 hc131
      have hX := of_do hm140
      clear hm140
      obtain ⟨r132, h133, hm140⟩ := hX
      have hm140 := Option.some.inj hm140
      subst hm140
      refine TS.regionP (by kernel_rfl) ?_
      refine TI.runA 3 [2, 3, 4, 7, 8, 9, 10, 11, 44, 46] (a2 := (st 65 [(2, iv p6), (3, pt 0 0), (4, pt 1 0), (7, iv r1), (8, accV 2 (List.length v110)), (9, iv v48), (10, iv v111), (11, pt 3 0), (44, ag [iv r126.1, iv r126.2]), (46, ag [iv p2, iv p3])])) (by kernel_rfl) ?_
      refine TI.callF (C45 _ _ _ _ _ h129) (by kernel_rfl) (by kernel_rfl) ?_
      refine TI.runA 1 [2, 3, 4, 7, 8, 9, 10, 11, 47, 48] (a2 := (st 65 [(2, iv p6), (3, pt 0 0), (4, pt 1 0), (7, iv r1), (8, accV 2 (List.length v110)), (9, iv v48), (10, iv v111), (11, pt 3 0), (47, iv r128), (48, iv r1)])) (by kernel_rfl) ?_
      refine TI.op (q := { val := iv (Int.tmod r128 r1) }) (q_int (P := Try.prog) (op := .rem) (ty := 3) (ox := (.tmp 47)) (oy := (.tmp 48)) (k := .i64) (k' := .i64) (y := r128) (z := r1) (by kernel_rfl) (rem_ok hg130)) [2, 3, 4, 7, 8, 9, 10, 11, 49] [0, 1, 2, 3] (a2 := (st 65 [(2, iv p6), (3, pt 0 0), (4, pt 1 0), (7, iv r1), (8, accV 2 (List.length v110)), (9, iv v48), (10, iv v111), (11, pt 3 0), (49, iv (Int.tmod r128 r1))])) (h2 := (H42_0 p0 p1 p2 p3 p4 p5 v110 r126)) (by kernel_rfl) ?_
      refine TI.op (q := { val := .bool true }) (q_conv (e := (Int.tmod r128 r1) == 0) (b := true) (by kernel_rfl) hc131) [2, 3, 4, 7, 8, 9, 10, 11, 50] [0, 1, 2, 3] (a2 := (st 65 [(2, iv p6), (3, pt 0 0), (4, pt 1 0), (7, iv r1), (8, accV 2 (List.length v110)), (9, iv v48), (10, iv v111), (11, pt 3 0), (50, .bool true)])) (h2 := (H42_0 p0 p1 p2 p3 p4 p5 v110 r126)) (by kernel_rfl) ?_
      refine TI.runA 4 [2, 3, 4, 7, 8, 9, 10, 11, 51, 53, 54] (a2 := (st 65 [(2, iv p6), (3, pt 0 0), (4, pt 1 0), (7, iv r1), (8, accV 2 (List.length v110)), (9, iv v48), (10, iv v111), (11, pt 3 0), (51, .bool true), (53, ag [iv p0, iv p1]), (54, ag [iv r126.1, iv r126.2])])) (by kernel_rfl) ?_
      refine TI.callF (C45 _ _ _ _ _ h133) (by kernel_rfl) (by kernel_rfl) ?_
      refine TI.runA 1 [2, 3, 4, 7, 8, 9, 10, 11, 51, 55, 56] (a2 := (st 65 [(2, iv p6), (3, pt 0 0), (4, pt 1 0), (7, iv r1), (8, accV 2 (List.length v110)), (9, iv v48), (10, iv v111), (11, pt 3 0), (51, .bool true), (55, iv r132), (56, iv r1)])) (by kernel_rfl) ?_
      refine TI.op (q := { val := iv (Int.tmod r132 r1) }) (q_int (P := Try.prog) (op := .rem) (ty := 3) (ox := (.tmp 55)) (oy := (.tmp 56)) (k := .i64) (k' := .i64) (y := r132) (z := r1) (by kernel_rfl) (rem_ok hg130)) [2, 3, 4, 7, 8, 9, 10, 11, 51, 57] [0, 1, 2, 3] (a2 := (st 65 [(2, iv p6), (3, pt 0 0), (4, pt 1 0), (7, iv r1), (8, accV 2 (List.length v110)), (9, iv v48), (10, iv v111), (11, pt 3 0), (51, .bool true), (57, iv (Int.tmod r132 r1))])) (h2 := (H42_0 p0 p1 p2 p3 p4 p5 v110 r126)) (by kernel_rfl) ?_
      refine TI.runA 2 [2, 3, 4, 7, 8, 9, 10, 11, 59] (a2 := (st 65 [(2, iv p6), (3, pt 0 0), (4, pt 1 0), (7, iv r1), (8, accV 2 (List.length v110)), (9, iv v48), (10, iv v111), (11, pt 3 0), (59, .bool ((Int.tmod r132 r1) == 0))])) (by kernel_rfl) ?_
      refine TI.done (by kernel_rfl) ?_
      exact hK
    · replace hm140 := of_neg hm140 hc131
      have hm140 := Option.some.inj hm140
      subst hm140
      refine TS.regionP (by kernel_rfl) ?_
      refine TI.runA 3 [2, 3, 4, 7, 8, 9, 10, 11, 44, 46] (a2 := (st 65 [(2, iv p6), (3, pt 0 0), (4, pt 1 0), (7, iv r1), (8, accV 2 (List.length v110)), (9, iv v48), (10, iv v111), (11, pt 3 0), (44, ag [iv r126.1, iv r126.2]), (46, ag [iv p2, iv p3])])) (by kernel_rfl) ?_
      refine TI.callF (C45 _ _ _ _ _ h129) (by kernel_rfl) (by kernel_rfl) ?_
      refine TI.runA 1 [2, 3, 4, 7, 8, 9, 10, 11, 47, 48] (a2 := (st 65 [(2, iv p6), (3, pt 0 0), (4, pt 1 0), (7, iv r1), (8, accV 2 (List.length v110)), (9, iv v48), (10, iv v111), (11, pt 3 0), (47, iv r128), (48, iv r1)])) (by kernel_rfl) ?_
      refine TI.op (q := { val := iv (Int.tmod r128 r1) }) (q_int (P := Try.prog) (op := .rem) (ty := 3) (ox := (.tmp 47)) (oy := (.tmp 48)) (k := .i64) (k' := .i64) (y := r128) (z := r1) (by kernel_rfl) (rem_ok hg130)) [2, 3, 4, 7, 8, 9, 10, 11, 49] [0, 1, 2, 3] (a2 := (st 65 [(2, iv p6), (3, pt 0 0), (4, pt 1 0), (7, iv r1), (8, accV 2 (List.length v110)), (9, iv v48), (10, iv v111), (11, pt 3 0), (49, iv (Int.tmod r128 r1))])) (h2 := (H42_0 p0 p1 p2 p3 p4 p5 v110 r126)) (by kernel_rfl) ?_
      refine TI.op (q := { val := .bool false }) (q_conv (e := (Int.tmod r128 r1) == 0) (b := false) (by kernel_rfl) hc131) [2, 3, 4, 7, 8, 9, 10, 11, 50] [0, 1, 2, 3] (a2 := (st 65 [(2, iv p6), (3, pt 0 0), (4, pt 1 0), (7, iv r1), (8, accV 2 (List.length v110)), (9, iv v48), (10, iv v111), (11, pt 3 0), (50, .bool false)])) (h2 := (H42_0 p0 p1 p2 p3 p4 p5 v110 r126)) (by kernel_rfl) ?_
      refine TI.runA 9 [2, 3, 4, 7, 8, 9, 10, 11, 59] (a2 := (st 65 [(2, iv p6), (3, pt 0 0), (4, pt 1 0), (7, iv r1), (8, accV 2 (List.length v110)), (9, iv v48), (10, iv v111), (11, pt 3 0), (59, .bool false)])) (by kernel_rfl) ?_
      refine TI.done (by kernel_rfl) ?_
      exact hK
  · replace hF := of_neg hF hc125
    refine TS.exit' (id := 2) (by kernel_rfl) ?_
    refine NX.sqX ?_
    have hF := Option.some.inj hF
    subst hF
    exact Rd.out (e := .exit 2) (by intro h; cases h) (And.intro rfl (Wk.anew (base := 0) (L := 0) (f := [0, 1, 2]) (by decide) (by decide) (Nat.le_of_ble_eq_true rfl) rfl (.cons (At.blk (by kernel_rfl) (RnB.lit (.cons (.flat (by kernel_rfl)) (.cons (.flat (by kernel_rfl)) (.cons (.flat (by kernel_rfl)) (.cons (.flat (by kernel_rfl)) .nil)))))) (.cons (At.blk (by kernel_rfl) (RnB.lit (.cons (.flat (by kernel_rfl)) (.cons (.flat (by kernel_rfl)) .nil)))) (.cons (At.acc (by kernel_rfl) rfl (fun _ => rfl)) (.nil _)))) (LRn.stx [2, 3, 4, 7, 8, 9] [iv p6, pt 0 0, pt 1 0, iv r1, accV 2 (List.length v110), iv v48] [iv p6, pt 0 0, pt 1 0, iv r1, accV 2 (List.length v110), iv v48] (.cons (.flat (by kernel_rfl)) (.cons (Rn.ptr _ _ _ (Nat.le_of_ble_eq_true rfl) rfl) (.cons (Rn.ptr _ _ _ (Nat.le_of_ble_eq_true rfl) rfl) (.cons (.flat (by kernel_rfl)) (.cons (Rn.acc (Nat.le_of_ble_eq_true rfl) rfl) (.cons (.flat (by kernel_rfl)) .nil)))))) (by kernel_rfl) (by kernel_rfl) rfl) rfl rfl))
def P42l0 (p0 : Int) (p1 : Int) (p2 : Int) (p3 : Int) (p4 : Int) (p5 : Int) (p6 : Int) (r1 : Int) (r : (List (Int × Int))) : Post := fun e a h => e = .exit 0 ∧ Wk Try.prog 0 0 a h (st 65 [(8, accV 0 (List.length r))]) [accB 23 (List.length r) (List.flatMap e23 r)]
theorem L42l0 (p0 : Int) (p1 : Int) (p2 : Int) (p3 : Int) (p4 : Int) (p5 : Int) (p6 : Int) (r1 : Int) (v49 : (List (Int × Int))) (v48 : Int) (r : (List (Int × Int))) (hF : F42l0 p0 p1 p2 p3 p4 p5 p6 r1 v49 v48 = some r) : TL Try.prog 0 0 c42.s2.s2.s2.s1.s2.bd.bd (st 65 [(2, iv p6), (3, pt 0 0), (4, pt 1 0), (7, iv r1), (8, accV 2 (List.length v49)), (9, iv v48)]) [cl 25 [iv p0, iv p1, iv p2, iv p3], cl 23 [iv p4, iv p5], accB 23 (List.length v49) (List.flatMap e23 v49)] (P42l0 p0 p1 p2 p3 p4 p5 p6 r1 r) := by
  refine F42l0.partial_correctness p0 p1 p2 p3 p4 p5 p6 r1 (motive := fun v49 v48 r => TL Try.prog 0 0 c42.s2.s2.s2.s1.s2.bd.bd (st 65 [(2, iv p6), (3, pt 0 0), (4, pt 1 0), (7, iv r1), (8, accV 2 (List.length v49)), (9, iv v48)]) [cl 25 [iv p0, iv p1, iv p2, iv p3], cl 23 [iv p4, iv p5], accB 23 (List.length v49) (List.flatMap e23 v49)] (P42l0 p0 p1 p2 p3 p4 p5 p6 r1 r)) ?_ v49 v48 r hF
  clear hF r v49 v48
  intro again ih v49 v48 r hF
  refine TL.round ?_
  refine TS.seqP (by kernel_rfl) ?_
  refine TS.seqP (by kernel_rfl) ?_
  refine TS.regionP (by kernel_rfl) ?_
  refine TI.runA 6 [2, 3, 4, 7, 8, 9, 26] (a2 := (st 65 [(2, iv p6), (3, pt 0 0), (4, pt 1 0), (7, iv r1), (8, accV 2 (List.length v49)), (9, iv v48), (26, .bool (decide (v48 ≤ (w64 (p4 + p6)))))])) (by kernel_rfl) ?_
  refine TI.done (by kernel_rfl) ?_
  refine NX.sq ?_
  refine TS.condP (o := (.tmp 26)) (b := decide (v48 ≤ (w64 (p4 + p6)))) (by kernel_rfl) (by kernel_rfl) (fun hc97 => ?_) (fun hc97 => ?_)
  · replace hF := of_pos hF hc97
    refine TS.skip' (by kernel_rfl) ?_
    refine NX.sq ?_
    refine TS.seqP (by kernel_rfl) ?_
    refine TS.blockP (id := 1) (by kernel_rfl) ?_
    refine TS.seqP (by kernel_rfl) ?_
    refine TS.regionP (by kernel_rfl) ?_
    refine TI.runA 5 [2, 3, 4, 7, 8, 9, 10] (a2 := (st 65 [(2, iv p6), (3, pt 0 0), (4, pt 1 0), (7, iv r1), (8, accV 2 (List.length v49)), (9, iv v48), (10, iv (w64 (p5 - p6)))])) (by kernel_rfl) ?_
    refine TI.done (by kernel_rfl) ?_
    refine NX.sq ?_
    refine TS.blockP (id := 2) (by kernel_rfl) ?_
    have hX := of_do hF
    clear hF
    obtain ⟨r141, h142, hF⟩ := hX
    refine TS.loopP (by kernel_rfl) (TL.weak (a2 := (st 65 [(2, iv p6), (3, pt 0 0), (4, pt 1 0), (7, iv r1), (8, accV 2 (List.length v49)), (9, iv v48), (10, iv (w64 (p5 - p6)))])) (h2 := [cl 25 [iv p0, iv p1, iv p2, iv p3], cl 23 [iv p4, iv p5], accB 23 (List.length v49) (List.flatMap e23 v49)]) (Wk.anew (base := 0) (L := 0) (f := [0, 1, 2]) (by decide) (by decide) (Nat.le_of_ble_eq_true rfl) rfl (.cons (At.blk (by kernel_rfl) (RnB.lit (.cons (.flat (by kernel_rfl)) (.cons (.flat (by kernel_rfl)) (.cons (.flat (by kernel_rfl)) (.cons (.flat (by kernel_rfl)) .nil)))))) (.cons (At.blk (by kernel_rfl) (RnB.lit (.cons (.flat (by kernel_rfl)) (.cons (.flat (by kernel_rfl)) .nil)))) (.cons (At.acc (by kernel_rfl) rfl (fun _ => rfl)) (.nil _)))) (LRn.stx [2, 3, 4, 7, 8, 9, 10] [iv p6, pt 0 0, pt 1 0, iv r1, accV 2 (List.length v49), iv v48, iv (w64 (p5 - p6))] [iv p6, pt 0 0, pt 1 0, iv r1, accV 2 (List.length v49), iv v48, iv (w64 (p5 - p6))] (.cons (.flat (by kernel_rfl)) (.cons (Rn.ptr _ _ _ (Nat.le_of_ble_eq_true rfl) rfl) (.cons (Rn.ptr _ _ _ (Nat.le_of_ble_eq_true rfl) rfl) (.cons (.flat (by kernel_rfl)) (.cons (Rn.acc (Nat.le_of_ble_eq_true rfl) rfl) (.cons (.flat (by kernel_rfl)) (.cons (.flat (by kernel_rfl)) .nil))))))) (by kernel_rfl) (by kernel_rfl) rfl) rfl rfl) (TL.post (L42l1 p0 p1 p2 p3 p4 p5 p6 r1 v48 (w64 (p5 - p6)) v49 r141 h142) ?_))
    rintro e a1 h1 hp
    obtain ⟨rfl, hw⟩ := hp
    refine ⟨(st 65 [(2, iv p6), (3, pt 0 0), (4, pt 1 0), (7, iv r1), (8, accV 2 (List.length r141)), (9, iv v48)]), [cl 25 [iv p0, iv p1, iv p2, iv p3], cl 23 [iv p4, iv p5], accB 23 (List.length r141) (List.flatMap e23 r141)], ?_, hw⟩
    refine NX.bkX ?_
    refine NX.bk ?_
    refine NX.sq ?_
    refine TS.regionP (by kernel_rfl) ?_
    refine TI.runA 3 [2, 3, 4, 7, 8, 9] (a2 := (st 65 [(2, iv p6), (3, pt 0 0), (4, pt 1 0), (7, iv r1), (8, accV 2 (List.length r141)), (9, iv (w64 (v48 + 1)))])) (by kernel_rfl) ?_
    refine TI.done (by kernel_rfl) ?_
    exact Rd.again (a2 := (st 65 [(2, iv p6), (3, pt 0 0), (4, pt 1 0), (7, iv r1), (8, accV 2 (List.length r141)), (9, iv (w64 (v48 + 1)))])) (h2 := [cl 25 [iv p0, iv p1, iv p2, iv p3], cl 23 [iv p4, iv p5], accB 23 (List.length r141) (List.flatMap e23 r141)]) (Wk.anew (base := 0) (L := 0) (f := [0, 1, 2]) (by decide) (by decide) (Nat.le_of_ble_eq_true rfl) rfl (.cons (At.blk (by kernel_rfl) (RnB.lit (.cons (.flat (by kernel_rfl)) (.cons (.flat (by kernel_rfl)) (.cons (.flat (by kernel_rfl)) (.cons (.flat (by kernel_rfl)) .nil)))))) (.cons (At.blk (by kernel_rfl) (RnB.lit (.cons (.flat (by kernel_rfl)) (.cons (.flat (by kernel_rfl)) .nil)))) (.cons (At.acc (by kernel_rfl) rfl (fun _ => rfl)) (.nil _)))) (LRn.stx [2, 3, 4, 7, 8, 9] [iv p6, pt 0 0, pt 1 0, iv r1, accV 2 (List.length r141), iv (w64 (v48 + 1))] [iv p6, pt 0 0, pt 1 0, iv r1, accV 2 (List.length r141), iv (w64 (v48 + 1))] (.cons (.flat (by kernel_rfl)) (.cons (Rn.ptr _ _ _ (Nat.le_of_ble_eq_true rfl) rfl) (.cons (Rn.ptr _ _ _ (Nat.le_of_ble_eq_true rfl) rfl) (.cons (.flat (by kernel_rfl)) (.cons (Rn.acc (Nat.le_of_ble_eq_true rfl) rfl) (.cons (.flat (by kernel_rfl)) .nil)))))) (by kernel_rfl) (by kernel_rfl) rfl) rfl rfl) (ih r141 (w64 (v48 + 1)) _ hF)
  · replace hF := of_neg hF hc97
    refine TS.exit' (id := 0) (by kernel_rfl) ?_
    refine NX.sqX ?_
    have hF := Option.some.inj hF
    subst hF
    exact Rd.out (e := .exit 0) (by intro h; cases h) (And.intro rfl (Wk.anew (base := 0) (L := 0) (f := [2]) (by decide) (by decide) (Nat.le_of_ble_eq_true rfl) rfl (.cons (At.acc (by kernel_rfl) rfl (fun _ => rfl)) (.nil _)) (LRn.stx [8] [accV 0 (List.length v49)] [accV 2 (List.length v49)] (.cons (Rn.acc (Nat.le_of_ble_eq_true rfl) rfl) .nil) (by kernel_rfl) (by kernel_rfl) rfl) rfl rfl))
theorem B42 (p0 : Int) (p1 : Int) (p2 : Int) (p3 : Int) (p4 : Int) (p5 : Int) (p6 : Int) (r : (List (Int × Int))) (hF : F42 p0 p1 p2 p3 p4 p5 p6 = some r) : TS Try.prog 0 0 c42 (st 65 [(0, ag [iv p0, iv p1, iv p2, iv p3]), (1, ag [iv p4, iv p5]), (2, iv p6)]) [] (NX Try.prog 0 0 [] (FinP Try.prog Try.f42 0 (V42 0 r) (N42 0 r))) := by
  unfold F42 at hF
  refine TS.seqP (by kernel_rfl) ?_
  refine TS.regionP (by kernel_rfl) ?_
  refine TI.run 3 [2, 3, 4] [0, 1] (a2 := (st 65 [(2, iv p6), (3, pt 0 0), (4, pt 1 0)])) (h2 := [cl 25 [iv p0, iv p1, iv p2, iv p3], cl 23 [iv p4, iv p5]]) (by kernel_rfl) ?_
  refine TI.done (by kernel_rfl) ?_
  refine NX.sq ?_
  refine TS.seqP (by kernel_rfl) ?_
  have hX := of_do hF
  clear hF
  obtain ⟨r1, h2, hF⟩ := hX
  refine TS.regionP (by kernel_rfl) ?_
  refine TI.runA 4 [2, 3, 4, 13, 15] (a2 := (st 65 [(2, iv p6), (3, pt 0 0), (4, pt 1 0), (13, ag [iv p0, iv p1]), (15, ag [iv p2, iv p3])])) (by kernel_rfl) ?_
  refine TI.callF (C45 _ _ _ _ _ h2) (by kernel_rfl) (by kernel_rfl) ?_
  refine TI.runA 1 [2, 3, 4, 7] (a2 := (st 65 [(2, iv p6), (3, pt 0 0), (4, pt 1 0), (7, iv r1)])) (by kernel_rfl) ?_
  refine TI.done (by kernel_rfl) ?_
  refine NX.sq ?_
  refine TS.seqP (by kernel_rfl) ?_
  refine TS.regionP (by kernel_rfl) ?_
  refine TI.runA 1 [2, 3, 4, 7, 8] (a2 := (st 65 [(2, iv p6), (3, pt 0 0), (4, pt 1 0), (7, iv r1), (8, .slice none 0 0)])) (by kernel_rfl) ?_
  refine TI.done (by kernel_rfl) ?_
  refine NX.sq ?_
  refine TS.seqP (by kernel_rfl) ?_
  refine TS.seqP (by kernel_rfl) ?_
  refine TS.regionP (by kernel_rfl) ?_
  refine TI.runA 5 [2, 3, 4, 7, 8, 9] (a2 := (st 65 [(2, iv p6), (3, pt 0 0), (4, pt 1 0), (7, iv r1), (8, .slice none 0 0), (9, iv (w64 (p4 - p6)))])) (by kernel_rfl) ?_
  refine TI.done (by kernel_rfl) ?_
  refine NX.sq ?_
  refine TS.blockP (id := 0) (by kernel_rfl) ?_
  have hX := of_do hF
  clear hF
  obtain ⟨r143, h144, hF⟩ := hX
  refine TS.loopP (by kernel_rfl) (TL.weak (a2 := (st 65 [(2, iv p6), (3, pt 0 0), (4, pt 1 0), (7, iv r1), (8, accV 2 (List.length ([]))), (9, iv (w64 (p4 - p6)))])) (h2 := [cl 25 [iv p0, iv p1, iv p2, iv p3], cl 23 [iv p4, iv p5], accB 23 (List.length ([])) (List.flatMap e23 ([]))]) (Wk.anew (base := 0) (L := 0) (f := [0, 1, 2]) (by decide) (by decide) (Nat.le_of_ble_eq_true rfl) rfl (.cons (At.blk (by kernel_rfl) (RnB.lit (.cons (.flat (by kernel_rfl)) (.cons (.flat (by kernel_rfl)) (.cons (.flat (by kernel_rfl)) (.cons (.flat (by kernel_rfl)) .nil)))))) (.cons (At.blk (by kernel_rfl) (RnB.lit (.cons (.flat (by kernel_rfl)) (.cons (.flat (by kernel_rfl)) .nil)))) (.cons At.accN (.nil _)))) (LRn.stx [2, 3, 4, 7, 8, 9] [iv p6, pt 0 0, pt 1 0, iv r1, accV 2 (List.length ([])), iv (w64 (p4 - p6))] [iv p6, pt 0 0, pt 1 0, iv r1, .slice none 0 0, iv (w64 (p4 - p6))] (.cons (.flat (by kernel_rfl)) (.cons (Rn.ptr _ _ _ (Nat.le_of_ble_eq_true rfl) rfl) (.cons (Rn.ptr _ _ _ (Nat.le_of_ble_eq_true rfl) rfl) (.cons (.flat (by kernel_rfl)) (.cons (Rn.accN) (.cons (.flat (by kernel_rfl)) .nil)))))) (by kernel_rfl) (by kernel_rfl) rfl) rfl rfl) (TL.post (L42l0 p0 p1 p2 p3 p4 p5 p6 r1 ([]) (w64 (p4 - p6)) r143 h144) ?_))
  rintro e a1 h1 hp
  obtain ⟨rfl, hw⟩ := hp
  refine ⟨(st 65 [(8, accV 0 (List.length r143))]), [accB 23 (List.length r143) (List.flatMap e23 r143)], ?_, hw⟩
  refine NX.bkX ?_
  refine NX.sq ?_
  refine TS.seqP (by kernel_rfl) ?_
  refine TS.regionP (by kernel_rfl) ?_
  refine TI.runA 2 [6] (a2 := (st 65 [(6, accV 0 (List.length r143))])) (by kernel_rfl) ?_
  refine TI.done (by kernel_rfl) ?_
  refine NX.sq ?_
  refine TS.ret' (by kernel_rfl) ?_
  have hF := Option.some.inj hF
  subst hF
  exact ⟨.inr rfl, rfl, accV 0 (List.length r143), by kernel_rfl, WkV.made (L := 0) (f := [0]) (by decide) (by decide) rfl (.cons (At.acc (by kernel_rfl) rfl (fun _ => rfl)) (.nil _)) (Rn.acc (Nat.le_of_ble_eq_true rfl) rfl)⟩
theorem C42 (p0 : Int) (p1 : Int) (p2 : Int) (p3 : Int) (p4 : Int) (p5 : Int) (p6 : Int) (r : (List (Int × Int))) (hF : F42 p0 p1 p2 p3 p4 p5 p6 = some r) : PureSim Try.prog 42 [ag [iv p0, iv p1, iv p2, iv p3], ag [iv p4, iv p5], iv p6] [] (V42 0 r) (N42 0 r) :=
  PureSim.of_Fin Try.func42 (c := c42) (by kernel_rfl) (by kernel_rfl) 0 rfl [0, 1, 2] [] (by kernel_rfl) (B42 p0 p1 p2 p3 p4 p5 p6 r hF)

-- agonic/agoniclaw06.MagnetNearest
noncomputable def c7 : Code := Try.f7.code
def S7_0 (r5 : ((List (Int × Int)) × Int)) (r25 : Int) (o83 : Int) (v99 : Int) (o123 : (Int × Int)) (r127 : (Int × Int)) (r131 : Int) (o136 : (Int × Int)) : CAct := (st 198 [(3, pt 0 0), (4, pt 1 0), (8, accV 2 (List.length r5.1)), (12, iv r25), (13, iv o83), (17, iv v99), (18, pt 3 0), (19, pt 4 0), (131, accV 2 (List.length r5.1)), (132, iv (List.length r5.1 : Int)), (133, iv v99), (143, ag [iv o123.1, iv o123.2]), (144, .bool true), (145, .bool false), (146, .bool false), (147, ag [iv r127.1, iv r127.2]), (148, ag [iv r127.1, iv r127.2]), (149, iv r131), (150, iv r25), (151, .bool false), (152, .bool false), (153, .bool false), (154, iv v99), (155, .bool true), (156, .bool true), (157, pt 3 0), (158, iv o123.1), (159, accV 2 (List.length r5.1)), (160, iv v99), (161, iv (w64 (v99 - 1))), (162, .pointer (some ⟨2, 0 + (Int.toNat (w64 (v99 - 1))) * 2, none⟩)), (163, .pointer (some ⟨2, 0 + (Int.toNat (w64 (v99 - 1))) * 2, none⟩)), (164, iv o136.1), (165, .bool false), (166, .bool false), (167, pt 3 0), (168, iv o123.1), (169, accV 2 (List.length r5.1)), (170, iv v99), (171, iv (w64 (v99 - 1))), (172, .pointer (some ⟨2, 0 + (Int.toNat (w64 (v99 - 1))) * 2, none⟩)), (173, .pointer (some ⟨2, 0 + (Int.toNat (w64 (v99 - 1))) * 2, none⟩))])
def S7_1 (r5 : ((List (Int × Int)) × Int)) (r25 : Int) (o83 : Int) (v99 : Int) (o123 : (Int × Int)) (r127 : (Int × Int)) (r131 : Int) (o136 : (Int × Int)) : CAct := (st 198 [(3, pt 0 0), (4, pt 1 0), (8, accV 2 (List.length r5.1)), (12, iv r25), (13, iv o83), (17, iv v99), (18, pt 3 0), (19, pt 4 0), (131, accV 2 (List.length r5.1)), (132, iv (List.length r5.1 : Int)), (133, iv v99), (143, ag [iv o123.1, iv o123.2]), (144, .bool true), (145, .bool false), (146, .bool false), (147, ag [iv r127.1, iv r127.2]), (148, ag [iv r127.1, iv r127.2]), (149, iv r131), (150, iv r25), (151, .bool false), (152, .bool false), (153, .bool false), (154, iv v99), (155, .bool true), (156, .bool true), (157, pt 3 0), (158, iv o123.1), (159, accV 2 (List.length r5.1)), (160, iv v99), (161, iv (w64 (v99 - 1))), (162, .pointer (some ⟨2, 0 + (Int.toNat (w64 (v99 - 1))) * 2, none⟩)), (163, .pointer (some ⟨2, 0 + (Int.toNat (w64 (v99 - 1))) * 2, none⟩)), (164, iv o136.1), (165, .bool false), (166, .bool false), (167, pt 3 0), (168, iv o123.1), (169, accV 2 (List.length r5.1)), (170, iv v99), (171, iv (w64 (v99 - 1)))])
def S7_2 (r3 : ((Int × Int) × (Int × Int) × Int)) (r5 : ((List (Int × Int)) × Int)) (r7 : (((Int × Int) × (Int × Int)) × Bool)) (o17 : (Int × Int)) : CAct := (st 198 [(3, pt 1 0), (4, pt 2 0), (5, pt 3 0), (6, pt 4 0), (7, iv r3.2.2), (8, accV 5 (List.length r5.1)), (9, iv r5.2), (10, pt 6 0), (11, .bool r7.2), (43, iv r3.2.2), (44, .bool false), (45, .bool false), (46, iv r5.2), (47, .bool false), (48, .bool false), (49, .bool false), (50, .bool true), (51, .bool false), (52, .bool false), (53, .bool false), (54, accV 5 (List.length r5.1)), (55, iv (List.length r5.1 : Int)), (56, .bool false), (57, .bool false), (58, .bool false), (59, accV 5 (List.length r5.1)), (60, iv (List.length r5.1 : Int)), (61, .bool false), (62, .bool false), (63, .bool false), (64, ag [iv r3.1.1, iv r3.1.2]), (65, .bool true), (66, .bool false), (67, .bool false), (68, .bool false), (69, accV 5 (List.length r5.1)), (70, .pointer (some ⟨5, 0 + (Int.toNat 0) * 2, none⟩)), (71, ag [iv o17.1, iv o17.2]), (72, ag [iv r3.1.1, iv r3.1.2])])
def S7_3 (r5 : ((List (Int × Int)) × Int)) (r25 : Int) (o83 : Int) (v99 : Int) (o123 : (Int × Int)) (r127 : (Int × Int)) (r131 : Int) : CAct := (st 198 [(3, pt 0 0), (4, pt 1 0), (8, accV 2 (List.length r5.1)), (12, iv r25), (13, iv o83), (17, iv v99), (18, pt 3 0), (19, pt 4 0), (131, accV 2 (List.length r5.1)), (132, iv (List.length r5.1 : Int)), (133, iv v99), (143, ag [iv o123.1, iv o123.2]), (144, .bool true), (145, .bool false), (146, .bool false), (147, ag [iv r127.1, iv r127.2]), (148, ag [iv r127.1, iv r127.2]), (149, iv r131), (150, iv r25), (151, .bool false), (152, .bool false), (153, .bool false), (154, iv v99), (155, .bool true), (156, .bool true), (157, pt 3 0), (158, iv o123.1), (159, accV 2 (List.length r5.1)), (160, iv v99), (161, iv (w64 (v99 - 1))), (162, .pointer (some ⟨2, 0 + (Int.toNat (w64 (v99 - 1))) * 2, none⟩)), (163, .pointer (some ⟨2, 0 + (Int.toNat (w64 (v99 - 1))) * 2, none⟩))])
def S7_4 (r3 : ((Int × Int) × (Int × Int) × Int)) (r5 : ((List (Int × Int)) × Int)) (r7 : (((Int × Int) × (Int × Int)) × Bool)) : CAct := (st 198 [(3, pt 1 0), (4, pt 2 0), (5, pt 3 0), (6, pt 4 0), (7, iv r3.2.2), (8, accV 5 (List.length r5.1)), (9, iv r5.2), (10, pt 6 0), (11, .bool r7.2), (43, iv r3.2.2), (44, .bool false), (45, .bool false), (46, iv r5.2), (47, .bool false), (48, .bool false), (49, .bool false), (50, .bool true), (51, .bool false), (52, .bool false), (53, .bool false), (54, accV 5 (List.length r5.1)), (55, iv (List.length r5.1 : Int)), (56, .bool false), (57, .bool false), (58, .bool false), (59, accV 5 (List.length r5.1)), (60, iv (List.length r5.1 : Int)), (61, .bool false), (62, .bool false), (63, .bool false), (64, ag [iv r3.1.1, iv r3.1.2]), (65, .bool true), (66, .bool false), (67, .bool false), (68, .bool false), (69, accV 5 (List.length r5.1))])
def S7_5 (r3 : ((Int × Int) × (Int × Int) × Int)) (r5 : ((List (Int × Int)) × Int)) (r7 : (((Int × Int) × (Int × Int)) × Bool)) : CAct := (st 198 [(3, pt 1 0), (4, pt 2 0), (5, pt 3 0), (6, pt 4 0), (7, iv r3.2.2), (8, accV 5 (List.length r5.1)), (9, iv r5.2), (10, pt 6 0), (11, .bool r7.2), (43, iv r3.2.2), (44, .bool false), (45, .bool false), (46, iv r5.2), (47, .bool false), (48, .bool false), (49, .bool false), (50, .bool true), (51, .bool false), (52, .bool false), (53, .bool false), (54, accV 5 (List.length r5.1)), (55, iv (List.length r5.1 : Int)), (56, .bool false), (57, .bool false), (58, .bool false), (59, accV 5 (List.length r5.1)), (60, iv (List.length r5.1 : Int)), (61, .bool false), (62, .bool false), (63, .bool false), (64, ag [iv r3.1.1, iv r3.1.2])])
def S7_6 (r5 : ((List (Int × Int)) × Int)) (r25 : Int) (o83 : Int) (v99 : Int) (o123 : (Int × Int)) (r127 : (Int × Int)) (r131 : Int) : CAct := (st 198 [(3, pt 0 0), (4, pt 1 0), (8, accV 2 (List.length r5.1)), (12, iv r25), (13, iv o83), (17, iv v99), (18, pt 3 0), (19, pt 4 0), (131, accV 2 (List.length r5.1)), (132, iv (List.length r5.1 : Int)), (133, iv v99), (143, ag [iv o123.1, iv o123.2]), (144, .bool true), (145, .bool false), (146, .bool false), (147, ag [iv r127.1, iv r127.2]), (148, ag [iv r127.1, iv r127.2]), (149, iv r131), (150, iv r25), (151, .bool false), (152, .bool false), (153, .bool false), (154, iv v99), (155, .bool true), (156, .bool true), (157, pt 3 0), (158, iv o123.1), (159, accV 2 (List.length r5.1)), (160, iv v99), (161, iv (w64 (v99 - 1)))])
def S7_7 (r3 : ((Int × Int) × (Int × Int) × Int)) (r5 : ((List (Int × Int)) × Int)) (r7 : (((Int × Int) × (Int × Int)) × Bool)) : CAct := (st 198 [(3, pt 1 0), (4, pt 2 0), (5, pt 3 0), (6, pt 4 0), (7, iv r3.2.2), (8, accV 5 (List.length r5.1)), (9, iv r5.2), (10, pt 6 0), (11, .bool r7.2), (43, iv r3.2.2), (44, .bool false), (45, .bool false), (46, iv r5.2), (47, .bool false), (48, .bool false), (49, .bool false), (50, .bool true), (51, .bool false), (52, .bool false), (53, .bool false), (54, accV 5 (List.length r5.1)), (55, iv (List.length r5.1 : Int)), (56, .bool false), (57, .bool false), (58, .bool false), (59, accV 5 (List.length r5.1)), (60, iv (List.length r5.1 : Int))])
def S7_8 (r5 : ((List (Int × Int)) × Int)) (r25 : Int) (o83 : Int) (v99 : Int) (o123 : (Int × Int)) (r127 : (Int × Int)) (r131 : Int) : CAct := (st 198 [(3, pt 0 0), (4, pt 1 0), (8, accV 2 (List.length r5.1)), (12, iv r25), (13, iv o83), (17, iv v99), (18, pt 3 0), (19, pt 4 0), (131, accV 2 (List.length r5.1)), (132, iv (List.length r5.1 : Int)), (133, iv v99), (143, ag [iv o123.1, iv o123.2]), (144, .bool true), (145, .bool false), (146, .bool false), (147, ag [iv r127.1, iv r127.2]), (148, ag [iv r127.1, iv r127.2]), (149, iv r131), (150, iv r25), (151, .bool false), (152, .bool false), (153, .bool false), (154, iv v99)])
def S7_9 (r3 : ((Int × Int) × (Int × Int) × Int)) (r5 : ((List (Int × Int)) × Int)) (r7 : (((Int × Int) × (Int × Int)) × Bool)) : CAct := (st 198 [(3, pt 1 0), (4, pt 2 0), (5, pt 3 0), (6, pt 4 0), (7, iv r3.2.2), (8, accV 5 (List.length r5.1)), (9, iv r5.2), (10, pt 6 0), (11, .bool r7.2), (43, iv r3.2.2), (44, .bool false), (45, .bool false), (46, iv r5.2), (47, .bool false), (48, .bool false), (49, .bool false), (50, .bool true), (51, .bool false), (52, .bool false), (53, .bool false), (54, accV 5 (List.length r5.1)), (55, iv (List.length r5.1 : Int))])
def S7_10 (r5 : ((List (Int × Int)) × Int)) (r25 : Int) (o83 : Int) (v99 : Int) (o123 : (Int × Int)) (r127 : (Int × Int)) (r131 : Int) : CAct := (st 198 [(3, pt 0 0), (4, pt 1 0), (8, accV 2 (List.length r5.1)), (12, iv r25), (13, iv o83), (17, iv v99), (18, pt 3 0), (19, pt 4 0), (131, accV 2 (List.length r5.1)), (132, iv (List.length r5.1 : Int)), (133, iv v99), (143, ag [iv o123.1, iv o123.2]), (144, .bool true), (145, .bool false), (146, .bool false), (147, ag [iv r127.1, iv r127.2]), (148, ag [iv r127.1, iv r127.2]), (149, iv r131), (150, iv r25)])
def S7_11 (r5 : ((List (Int × Int)) × Int)) (r25 : Int) (o83 : Int) (v99 : Int) (o123 : (Int × Int)) (r127 : (Int × Int)) : CAct := (st 198 [(3, pt 0 0), (4, pt 1 0), (8, accV 2 (List.length r5.1)), (12, iv r25), (13, iv o83), (17, iv v99), (18, pt 3 0), (19, pt 4 0), (131, accV 2 (List.length r5.1)), (132, iv (List.length r5.1 : Int)), (133, iv v99), (143, ag [iv o123.1, iv o123.2]), (144, .bool true), (145, .bool false), (146, .bool false), (147, ag [iv r127.1, iv r127.2]), (148, ag [iv r127.1, iv r127.2])])
def S7_12 (r3 : ((Int × Int) × (Int × Int) × Int)) (r5 : ((List (Int × Int)) × Int)) (r7 : (((Int × Int) × (Int × Int)) × Bool)) : CAct := (st 198 [(3, pt 1 0), (4, pt 2 0), (5, pt 3 0), (6, pt 4 0), (7, iv r3.2.2), (8, accV 5 (List.length r5.1)), (9, iv r5.2), (10, pt 6 0), (11, .bool r7.2), (43, iv r3.2.2), (44, .bool false), (45, .bool false), (46, iv r5.2), (47, .bool false), (48, .bool false), (49, .bool false)])
def H7_13 (r1 : (((Int × Int) × (Int × Int)) × (Int × Int))) (r3 : ((Int × Int) × (Int × Int) × Int)) (r5 : ((List (Int × Int)) × Int)) (r7 : (((Int × Int) × (Int × Int)) × Bool)) : List Blk := [.dead, cl 25 [iv r1.1.1.1, iv r1.1.1.2, iv r1.1.2.1, iv r1.1.2.2], cl 23 [iv r1.2.1, iv r1.2.2], cl 27 [iv r3.1.1, iv r3.1.2], cl 23 [iv r3.2.1.1, iv r3.2.1.2], accB 27 (List.length r5.1) (List.flatMap e27 r5.1), cl 25 [iv r7.1.1.1, iv r7.1.1.2, iv r7.1.2.1, iv r7.1.2.2]]
def S7_14 (r5 : ((List (Int × Int)) × Int)) (r25 : Int) (o83 : Int) (v99 : Int) (o123 : (Int × Int)) : CAct := (st 198 [(3, pt 0 0), (4, pt 1 0), (8, accV 2 (List.length r5.1)), (12, iv r25), (13, iv o83), (17, iv v99), (18, pt 3 0), (19, pt 4 0), (131, accV 2 (List.length r5.1)), (132, iv (List.length r5.1 : Int)), (133, iv v99), (143, ag [iv o123.1, iv o123.2])])
def H7_15 (r1 : (((Int × Int) × (Int × Int)) × (Int × Int))) (r3 : ((Int × Int) × (Int × Int) × Int)) (r5 : ((List (Int × Int)) × Int)) (r7 : (((Int × Int) × (Int × Int)) × Bool)) : List Blk := [.dead, cl 25 [iv r1.1.1.1, iv r1.1.1.2, iv r1.1.2.1, iv r1.1.2.2], cl 23 [iv r1.2.1, iv r1.2.2], .dead, cl 23 [iv r3.2.1.1, iv r3.2.1.2], accB 27 (List.length r5.1) (List.flatMap e27 r5.1), cl 25 [iv r7.1.1.1, iv r7.1.1.2, iv r7.1.2.1, iv r7.1.2.2]]
def S7_16 (r3 : ((Int × Int) × (Int × Int) × Int)) (r5 : ((List (Int × Int)) × Int)) (r7 : (((Int × Int) × (Int × Int)) × Bool)) : CAct := (st 198 [(3, pt 1 0), (4, pt 2 0), (5, pt 3 0), (6, pt 4 0), (7, iv r3.2.2), (8, accV 5 (List.length r5.1)), (9, iv r5.2), (10, pt 6 0), (11, .bool r7.2), (43, iv r3.2.2), (44, .bool false), (45, .bool false), (46, iv r5.2)])
def H7_17 (r1 : (((Int × Int) × (Int × Int)) × (Int × Int))) (r5 : ((List (Int × Int)) × Int)) (r7 : (((Int × Int) × (Int × Int)) × Bool)) : List Blk := [.dead, cl 25 [iv r1.1.1.1, iv r1.1.1.2, iv r1.1.2.1, iv r1.1.2.2], cl 23 [iv r1.2.1, iv r1.2.2], .dead, .dead, accB 27 (List.length r5.1) (List.flatMap e27 r5.1), cl 25 [iv r7.1.1.1, iv r7.1.1.2, iv r7.1.2.1, iv r7.1.2.2]]
def H7_18 (r1 : (((Int × Int) × (Int × Int)) × (Int × Int))) (r5 : ((List (Int × Int)) × Int)) (r34 : (List (Int × Int))) : List Blk := [.dead, cl 25 [iv r1.1.1.1, iv r1.1.1.2, iv r1.1.2.1, iv r1.1.2.2], cl 23 [iv r1.2.1, iv r1.2.2], .dead, .dead, accB 27 (List.length r5.1) (List.flatMap e27 r5.1), .dead, accB 23 (List.length r34) (List.flatMap e23 r34)]
def H7_19 (r1 : (((Int × Int) × (Int × Int)) × (Int × Int))) (r5 : ((List (Int × Int)) × Int)) (o123 : (Int × Int)) (r127 : (Int × Int)) : List Blk := [cl 25 [iv r1.1.1.1, iv r1.1.1.2, iv r1.1.2.1, iv r1.1.2.2], cl 23 [iv r1.2.1, iv r1.2.2], accB 27 (List.length r5.1) (List.flatMap e27 r5.1), cl 27 [iv o123.1, iv o123.2], cl 23 [iv r127.1, iv r127.2]]
def S7_20 (r5 : ((List (Int × Int)) × Int)) (r25 : Int) (o83 : Int) (v99 : Int) : CAct := (st 198 [(3, pt 0 0), (4, pt 1 0), (8, accV 2 (List.length r5.1)), (12, iv r25), (13, iv o83), (131, accV 2 (List.length r5.1)), (132, iv (List.length r5.1 : Int)), (133, iv v99), (189, .bool false)])
def S7_21 (r5 : ((List (Int × Int)) × Int)) (r25 : Int) (o83 : Int) (v99 : Int) : CAct := (st 198 [(3, pt 0 0), (4, pt 1 0), (8, accV 2 (List.length r5.1)), (12, iv r25), (13, iv o83), (131, accV 2 (List.length r5.1)), (132, iv (List.length r5.1 : Int)), (133, iv v99), (189, .bool true)])
def H7_22 (r1 : (((Int × Int) × (Int × Int)) × (Int × Int))) (r5 : ((List (Int × Int)) × Int)) (r34 : (List (Int × Int))) : List Blk := [cl 25 [iv r1.1.1.1, iv r1.1.1.2, iv r1.1.2.1, iv r1.1.2.2], cl 23 [iv r1.2.1, iv r1.2.2], accB 27 (List.length r5.1) (List.flatMap e27 r5.1), accB 23 (List.length r34) (List.flatMap e23 r34)]
def S7_23 (r5 : ((List (Int × Int)) × Int)) (r25 : Int) (o83 : Int) (v99 : Int) : CAct := (st 198 [(3, pt 0 0), (4, pt 1 0), (8, accV 2 (List.length r5.1)), (12, iv r25), (13, iv o83), (131, accV 2 (List.length r5.1)), (132, iv (List.length r5.1 : Int)), (133, iv (w64 (v99 + 1)))])
def S7_24 (r5 : ((List (Int × Int)) × Int)) (r25 : Int) (o83 : Int) (v99 : Int) : CAct := (st 198 [(3, pt 0 0), (4, pt 1 0), (8, accV 2 (List.length r5.1)), (12, iv r25), (13, iv o83), (131, accV 2 (List.length r5.1)), (132, iv (List.length r5.1 : Int)), (133, iv v99)])
def S7_25 (r5 : ((List (Int × Int)) × Int)) (r25 : Int) (o83 : Int) : CAct := (st 198 [(3, pt 0 0), (4, pt 1 0), (8, accV 2 (List.length r5.1)), (12, iv r25), (13, iv o83), (131, accV 2 (List.length r5.1)), (132, iv (List.length r5.1 : Int)), (133, iv 0)])
def H7_26 (r1 : (((Int × Int) × (Int × Int)) × (Int × Int))) (r5 : ((List (Int × Int)) × Int)) (o123 : (Int × Int)) : List Blk := [cl 25 [iv r1.1.1.1, iv r1.1.1.2, iv r1.1.2.1, iv r1.1.2.2], cl 23 [iv r1.2.1, iv r1.2.2], accB 27 (List.length r5.1) (List.flatMap e27 r5.1), cl 27 [iv o123.1, iv o123.2]]
def S7_27 (r3 : ((Int × Int) × (Int × Int) × Int)) (r5 : ((List (Int × Int)) × Int)) (r7 : (((Int × Int) × (Int × Int)) × Bool)) : CAct := (st 198 [(3, pt 1 0), (4, pt 2 0), (5, pt 3 0), (6, pt 4 0), (7, iv r3.2.2), (8, accV 5 (List.length r5.1)), (9, iv r5.2), (10, pt 6 0), (11, .bool r7.2), (43, iv r3.2.2)])
def H7_28 (r1 : (((Int × Int) × (Int × Int)) × (Int × Int))) (r5 : ((List (Int × Int)) × Int)) : List Blk := [.dead, cl 25 [iv r1.1.1.1, iv r1.1.1.2, iv r1.1.2.1, iv r1.1.2.2], cl 23 [iv r1.2.1, iv r1.2.2], .dead, .dead, accB 27 (List.length r5.1) (List.flatMap e27 r5.1), .dead]
def H7_29 (r1 : (((Int × Int) × (Int × Int)) × (Int × Int))) (r5 : ((List (Int × Int)) × Int)) : List Blk := [cl 25 [iv r1.1.1.1, iv r1.1.1.2, iv r1.1.2.1, iv r1.1.2.2], cl 23 [iv r1.2.1, iv r1.2.2], accB 27 (List.length r5.1) (List.flatMap e27 r5.1), .dead, .dead]
def H7_30 (r1 : (((Int × Int) × (Int × Int)) × (Int × Int))) (r5 : ((List (Int × Int)) × Int)) : List Blk := [cl 25 [iv r1.1.1.1, iv r1.1.1.2, iv r1.1.2.1, iv r1.1.2.2], cl 23 [iv r1.2.1, iv r1.2.2], accB 27 (List.length r5.1) (List.flatMap e27 r5.1)]
def S7_31 (r5 : ((List (Int × Int)) × Int)) : CAct := (st 198 [(3, pt 1 0), (4, pt 2 0), (6, pt 4 0), (8, accV 5 (List.length r5.1)), (10, pt 6 0), (83, .bool true)])
def F7l0 (r1 : (((Int × Int) × (Int × Int)) × (Int × Int))) (r5 : ((List (Int × Int)) × Int)) (r25 : Int) (r34 : (List (Int × Int))) (v48 : Int) (v49 : Int) : Option (Unit ⊕ Int) :=
    if decide (v49 < (List.length r34 : Int)) then
      if (0 : Int) ≤ v49 ∧ v49 < (List.length r34 : Int) then
        some (List.getD r34 (Int.toNat v49) (0, 0)) >>= fun o65 =>
        F39 r1.2.1 r1.2.2 o65.1 o65.2 >>= fun r67 =>
        F41 r67.1 r67.2 r67.1 r67.2 >>= fun r69 =>
        if decide (r69 < r25) then
          some (.inl ())
        else
          F41 r67.1 r67.2 r67.1 r67.2 >>= fun r72 =>
          (
            if r72 == r25 then
              some (w64 (v48 + 1))
            else
              some v48
          : Option Int) >>= fun m77 =>
          F7l0 r1 r5 r25 r34 m77 (w64 (v49 + 1))
      else none
    else
      some (.inr v48)
  partial_fixpoint
def F7l1 (o83 : Int) (r1 : (((Int × Int) × (Int × Int)) × (Int × Int))) (r5 : ((List (Int × Int)) × Int)) (r25 : Int) (v99 : Int) : Option (Unit ⊕ Unit) :=
    if decide (v99 < (List.length r5.1 : Int)) then
      if (0 : Int) ≤ v99 ∧ v99 < (List.length r5.1 : Int) then
        some (List.getD r5.1 (Int.toNat v99) (0, 0)) >>= fun o123 =>
        F40 r1.1.1.1 r1.1.1.2 r1.1.2.1 r1.1.2.2 o123.1 o123.2 >>= fun r125 =>
        F39 r1.2.1 r1.2.2 r125.1 r125.2 >>= fun r127 =>
        F38 o123.1 o123.2 >>= fun r129 =>
        (
          if r129 then
            F41 r127.1 r127.2 r127.1 r127.2 >>= fun r131 =>
            if r131 != r25 then
              some (true)
            else
              if decide (v99 > 0) then
                if (0 : Int) ≤ w64 (v99 - 1) ∧ w64 (v99 - 1) < (List.length r5.1 : Int) then
                  some (List.getD r5.1 (Int.toNat (w64 (v99 - 1))) (0, 0)) >>= fun o136 =>
                  if decide (o123.1 < o136.1) then
                    some (true)
                  else
                    if o123.1 == o136.1 then
                      some (decide (o123.2 ≤ o136.2))
                    else
                      some (false)
                else none
              else
                some (false)
          else
            some (true)
        : Option Bool) >>= fun m140 =>
        if m140 then
          some (.inl ())
        else
          F7l1 o83 r1 r5 r25 (w64 (v99 + 1))
      else none
    else
      some (.inr ())
  partial_fixpoint
def F7 (p0 : Int) (p1 : Int) (p2 : Int) (p3 : Int) (p4 : Int) (p5 : Int) : Option Bool :=
  F36 p0 p1 p2 p3 p4 p5 >>= fun r1 =>
  F28 r1.1.1.1 r1.1.1.2 r1.1.2.1 r1.1.2.2 r1.2.1 r1.2.2 >>= fun r3 =>
  F30 r1.1.1.1 r1.1.1.2 r1.1.2.1 r1.1.2.2 r1.2.1 r1.2.2 >>= fun r5 =>
  F37 r1.1.1.1 r1.1.1.2 r1.1.2.1 r1.1.2.2 >>= fun r7 =>
  (
    if r3.2.2 != 0 then
      some (true)
    else
      if r5.2 != 0 then
        some (true)
      else
        if r7.2 then
          if decide ((List.length r5.1 : Int) < 1) then
            some (true)
          else
            if decide ((List.length r5.1 : Int) > 4) then
              some (true)
            else
              F38 r3.1.1 r3.1.2 >>= fun r14 =>
              if r14 then
                if (0 : Int) ≤ 0 ∧ 0 < (List.length r5.1 : Int) then
                  some (List.getD r5.1 (Int.toNat 0) (0, 0)) >>= fun o17 =>
                  if !((o17.1 == r3.1.1) && ((o17.2 == r3.1.2) && true)) then
                    some (true)
                  else
                    F40 r1.1.1.1 r1.1.1.2 r1.1.2.1 r1.1.2.2 r3.1.1 r3.1.2 >>= fun r20 =>
                    F39 r1.2.1 r1.2.2 r20.1 r20.2 >>= fun r22 =>
                    some (!((r3.2.1.1 == r22.1) && ((r3.2.1.2 == r22.2) && true)))
                else none
              else
                some (true)
        else
          some (true)
  : Option Bool) >>= fun m24 =>
  if m24 then
    some false
  else
    F41 r3.2.1.1 r3.2.1.2 r3.2.1.1 r3.2.1.2 >>= fun r25 =>
    F41 r7.1.1.1 r7.1.1.2 r7.1.1.1 r7.1.1.2 >>= fun r27 =>
    F41 r7.1.2.1 r7.1.2.2 r7.1.2.1 r7.1.2.2 >>= fun r29 =>
    if decide ((w64 (4 * r25)) > (w64 (r27 + r29))) then
      some false
    else
      F43 (w64 (0 - r1.2.1)) (w64 (0 - r1.2.2)) >>= fun r32 =>
      F42 r1.1.1.1 r1.1.1.2 r1.1.2.1 r1.1.2.2 r32.1 r32.2 12 >>= fun r34 =>
      F7l0 r1 r5 r25 r34 0 0 >>= fun r80 =>
      match r80 with
      | .inl o82 =>
        some false
      | .inr o83 =>
        F7l1 o83 r1 r5 r25 0 >>= fun r142 =>
        match r142 with
        | .inl o144 =>
          some false
        | .inr o145 =>
          (
            if o83 == (List.length r5.1 : Int) then
              F22 >>= fun r147 =>
              some (r147)
            else
              some (false)
          : Option Bool) >>= fun m149 =>
          some m149
def V7 (b : Nat) (r : Bool) : Value := .bool r
def N7 (b : Nat) (r : Bool) : List Blk := []
def P7l0 (r1 : (((Int × Int) × (Int × Int)) × (Int × Int))) (r5 : ((List (Int × Int)) × Int)) (r25 : Int) (r34 : (List (Int × Int))) (r : (Unit ⊕ Int)) : Post := fun e a h => (match r with | .inl q0 => e = .ret ∧ Wk Try.prog 0 0 a h (st 198 [(2, .bool false)]) [] | .inr q0 => e = .exit 0 ∧ Wk Try.prog 0 0 a h (st 198 [(3, pt 0 0), (4, pt 1 0), (8, accV 2 (List.length r5.1)), (12, iv r25), (13, iv q0)]) (H7_30 r1 r5))
theorem L7l0 (r1 : (((Int × Int) × (Int × Int)) × (Int × Int))) (r5 : ((List (Int × Int)) × Int)) (r25 : Int) (r34 : (List (Int × Int))) (v48 : Int) (v49 : Int) (r : (Unit ⊕ Int)) (hF : F7l0 r1 r5 r25 r34 v48 v49 = some r) : TL Try.prog 0 0 c7.s2.s2.s2.s2.s2.s2.s2.s2.s2.s1.s2.bd.bd (st 198 [(3, pt 0 0), (4, pt 1 0), (8, accV 2 (List.length r5.1)), (12, iv r25), (13, iv v48), (109, accV 3 (List.length r34)), (110, iv (List.length r34 : Int)), (111, iv v49)]) (H7_22 r1 r5 r34) (P7l0 r1 r5 r25 r34 r) := by
  refine F7l0.partial_correctness r1 r5 r25 r34 (motive := fun v48 v49 r => TL Try.prog 0 0 c7.s2.s2.s2.s2.s2.s2.s2.s2.s2.s1.s2.bd.bd (st 198 [(3, pt 0 0), (4, pt 1 0), (8, accV 2 (List.length r5.1)), (12, iv r25), (13, iv v48), (109, accV 3 (List.length r34)), (110, iv (List.length r34 : Int)), (111, iv v49)]) (H7_22 r1 r5 r34) (P7l0 r1 r5 r25 r34 r)) ?_ v48 v49 r hF
  clear hF r v48 v49
  intro again ih v48 v49 r hF
  refine TL.round ?_
  refine TS.seqP (by kernel_rfl) ?_
  refine TS.regionP (by kernel_rfl) ?_
  refine TI.runA 1 [3, 4, 8, 12, 13, 109, 110, 111, 112] (a2 := (st 198 [(3, pt 0 0), (4, pt 1 0), (8, accV 2 (List.length r5.1)), (12, iv r25), (13, iv v48), (109, accV 3 (List.length r34)), (110, iv (List.length r34 : Int)), (111, iv v49), (112, .bool (decide (v49 < (List.length r34 : Int))))])) (by kernel_rfl) ?_
  refine TI.done (by kernel_rfl) ?_
  refine NX.sq ?_
  refine TS.seqP (by kernel_rfl) ?_
  refine TS.condP (o := (.tmp 112)) (b := decide (v49 < (List.length r34 : Int))) (by kernel_rfl) (by kernel_rfl) (fun hc63 => ?_) (fun hc63 => ?_)
  · replace hF := of_pos hF hc63
    refine TS.skip' (by kernel_rfl) ?_
    refine NX.sq ?_
    refine TS.seqP (by kernel_rfl) ?_
    refine TS.blockP (id := 1) (by kernel_rfl) ?_
    refine TS.seqP (by kernel_rfl) ?_
    have hX := of_guard hF
    clear hF
    obtain ⟨hg64, hF⟩ := hX
    have hX := of_do hF
    clear hF
    obtain ⟨o65, h66, hF⟩ := hX
    replace h66 := Option.some.inj h66
    refine TS.regionP (by kernel_rfl) ?_
    refine TI.op (q := { val := .pointer (some ⟨3, 0 + (Int.toNat v49) * 2, none⟩) }) (q_ixAcc (P := Try.prog) (t := 86) (s := 2) (e := 23) 3 (List.length r34) (by kernel_rfl) hg64 (by kernel_rfl) (by kernel_rfl)) [3, 4, 8, 12, 13, 109, 110, 111, 113] [0, 1, 2, 3] (a2 := (st 198 [(3, pt 0 0), (4, pt 1 0), (8, accV 2 (List.length r5.1)), (12, iv r25), (13, iv v48), (109, accV 3 (List.length r34)), (110, iv (List.length r34 : Int)), (111, iv v49), (113, .pointer (some ⟨3, 0 + (Int.toNat v49) * 2, none⟩))])) (h2 := (H7_22 r1 r5 r34)) (by kernel_rfl) ?_
    refine TI.op (q := { val := ag [iv o65.1, iv o65.2] }) (q_eqv (q_ldA (P := Try.prog) (hp := (H7_22 r1 r5 r34)) (t := 23) (b := 3) (off := 0 + (Int.toNat v49) * 2) (l := r34) (enc := e23) (s := 2) (T := 23) (i := Int.toNat v49) (by kernel_rfl) (accB_at (h := (H7_22 r1 r5 r34)) (n := List.length r34) (i := Int.toNat v49) (by kernel_rfl) (by first | omega | (simp only [List.length_set, List.length_replicate, List.length_cons, List.length_nil, List.length_append]; omega))) (by kernel_rfl) (by kernel_rfl) (fun _ => rfl) (by omega) (by first | omega | (simp only [List.length_set, List.length_replicate, List.length_cons, List.length_nil, List.length_append]; omega)) (0, 0)) (congrArg (fun (z : (Int × Int)) => ({ val := ag [iv z.1, iv z.2] } : QRes)) h66)) [3, 4, 8, 12, 13, 109, 110, 111, 114] [0, 1, 2, 3] (a2 := (st 198 [(3, pt 0 0), (4, pt 1 0), (8, accV 2 (List.length r5.1)), (12, iv r25), (13, iv v48), (109, accV 3 (List.length r34)), (110, iv (List.length r34 : Int)), (111, iv v49), (114, ag [iv o65.1, iv o65.2])])) (h2 := (H7_22 r1 r5 r34)) (by kernel_rfl) ?_
    refine TI.run 2 [3, 4, 8, 12, 13, 15, 109, 110, 111] [0, 1, 2, 3, 4] (a2 := (st 198 [(3, pt 0 0), (4, pt 1 0), (8, accV 2 (List.length r5.1)), (12, iv r25), (13, iv v48), (15, pt 4 0), (109, accV 3 (List.length r34)), (110, iv (List.length r34 : Int)), (111, iv v49)])) (h2 := [cl 25 [iv r1.1.1.1, iv r1.1.1.2, iv r1.1.2.1, iv r1.1.2.2], cl 23 [iv r1.2.1, iv r1.2.2], accB 27 (List.length r5.1) (List.flatMap e27 r5.1), accB 23 (List.length r34) (List.flatMap e23 r34), cl 23 [iv o65.1, iv o65.2]]) (by kernel_rfl) ?_
    refine TI.done (by kernel_rfl) ?_
    refine NX.sq ?_
    refine TS.seqP (by kernel_rfl) ?_
    have hX := of_do hF
    clear hF
    obtain ⟨r67, h68, hF⟩ := hX
    refine TS.regionP (by kernel_rfl) ?_
    refine TI.run 2 [3, 4, 8, 12, 13, 109, 110, 111, 115, 116] [0, 1, 2, 3] (a2 := (st 198 [(3, pt 0 0), (4, pt 1 0), (8, accV 2 (List.length r5.1)), (12, iv r25), (13, iv v48), (109, accV 3 (List.length r34)), (110, iv (List.length r34 : Int)), (111, iv v49), (115, ag [iv r1.2.1, iv r1.2.2]), (116, ag [iv o65.1, iv o65.2])])) (h2 := [cl 25 [iv r1.1.1.1, iv r1.1.1.2, iv r1.1.2.1, iv r1.1.2.2], cl 23 [iv r1.2.1, iv r1.2.2], accB 27 (List.length r5.1) (List.flatMap e27 r5.1), accB 23 (List.length r34) (List.flatMap e23 r34), .dead]) (by kernel_rfl) ?_
    refine TI.callF (C39 _ _ _ _ _ h68) (by kernel_rfl) (by kernel_rfl) ?_
    refine TI.run 2 [3, 4, 8, 12, 13, 16, 109, 110, 111] [0, 1, 2, 3, 5] (a2 := (st 198 [(3, pt 0 0), (4, pt 1 0), (8, accV 2 (List.length r5.1)), (12, iv r25), (13, iv v48), (16, pt 5 0), (109, accV 3 (List.length r34)), (110, iv (List.length r34 : Int)), (111, iv v49)])) (h2 := [cl 25 [iv r1.1.1.1, iv r1.1.1.2, iv r1.1.2.1, iv r1.1.2.2], cl 23 [iv r1.2.1, iv r1.2.2], accB 27 (List.length r5.1) (List.flatMap e27 r5.1), accB 23 (List.length r34) (List.flatMap e23 r34), .dead, cl 23 [iv r67.1, iv r67.2]]) (by kernel_rfl) ?_
    refine TI.done (by kernel_rfl) ?_
    refine NX.sq ?_
    refine TS.seqP (by kernel_rfl) ?_
    refine TS.seqP (by kernel_rfl) ?_
    have hX := of_do hF
    clear hF
    obtain ⟨r69, h70, hF⟩ := hX
    refine TS.regionP (by kernel_rfl) ?_
    refine TI.runA 2 [3, 4, 8, 12, 13, 16, 109, 110, 111, 118, 119] (a2 := (st 198 [(3, pt 0 0), (4, pt 1 0), (8, accV 2 (List.length r5.1)), (12, iv r25), (13, iv v48), (16, pt 5 0), (109, accV 3 (List.length r34)), (110, iv (List.length r34 : Int)), (111, iv v49), (118, ag [iv r67.1, iv r67.2]), (119, ag [iv r67.1, iv r67.2])])) (by kernel_rfl) ?_
    refine TI.callF (C41 _ _ _ _ _ h70) (by kernel_rfl) (by kernel_rfl) ?_
    refine TI.runA 2 [3, 4, 8, 12, 13, 16, 109, 110, 111, 122] (a2 := (st 198 [(3, pt 0 0), (4, pt 1 0), (8, accV 2 (List.length r5.1)), (12, iv r25), (13, iv v48), (16, pt 5 0), (109, accV 3 (List.length r34)), (110, iv (List.length r34 : Int)), (111, iv v49), (122, .bool (decide (r69 < r25)))])) (by kernel_rfl) ?_
    refine TI.done (by kernel_rfl) ?_
    refine NX.sq ?_
    refine TS.condP (o := (.tmp 122)) (b := decide (r69 < r25)) (by kernel_rfl) (by kernel_rfl) (fun hc71 => ?_) (fun hc71 => ?_)
    · replace hF := of_pos hF hc71
      refine TS.seqP (by kernel_rfl) ?_
      refine TS.regionP (by kernel_rfl) ?_
      refine TI.run 1 [2] [] (a2 := (st 198 [(2, .bool false)])) (h2 := [.dead, .dead, .dead, .dead, .dead, .dead]) (by kernel_rfl) ?_
      refine TI.done (by kernel_rfl) ?_
      refine NX.sq ?_
      refine TS.ret' (by kernel_rfl) ?_
      refine NX.sqR ?_
      refine NX.bkR ?_
      refine NX.sqR ?_
      have hF := Option.some.inj hF
      subst hF
      exact Rd.out (e := .ret) (by intro h; cases h) (And.intro rfl (Wk.anew (base := 0) (L := 0) (f := []) (by decide) (by decide) (Nat.le_of_ble_eq_true rfl) rfl (.nil _) (LRn.stx [2] [.bool false] [.bool false] (.cons (.flat (by kernel_rfl)) .nil) (by kernel_rfl) (by kernel_rfl) rfl) rfl rfl))
    · replace hF := of_neg hF hc71
      refine TS.skip' (by kernel_rfl) ?_
      refine NX.sq ?_
      refine TS.seqP (by kernel_rfl) ?_
      have hX := of_do hF
      clear hF
      obtain ⟨r72, h73, hF⟩ := hX
      refine TS.regionP (by kernel_rfl) ?_
      refine TI.run 2 [3, 4, 8, 12, 13, 109, 110, 111, 123, 124] [0, 1, 2, 3] (a2 := (st 198 [(3, pt 0 0), (4, pt 1 0), (8, accV 2 (List.length r5.1)), (12, iv r25), (13, iv v48), (109, accV 3 (List.length r34)), (110, iv (List.length r34 : Int)), (111, iv v49), (123, ag [iv r67.1, iv r67.2]), (124, ag [iv r67.1, iv r67.2])])) (h2 := [cl 25 [iv r1.1.1.1, iv r1.1.1.2, iv r1.1.2.1, iv r1.1.2.2], cl 23 [iv r1.2.1, iv r1.2.2], accB 27 (List.length r5.1) (List.flatMap e27 r5.1), accB 23 (List.length r34) (List.flatMap e23 r34), .dead, .dead]) (by kernel_rfl) ?_
      refine TI.callF (C41 _ _ _ _ _ h73) (by kernel_rfl) (by kernel_rfl) ?_
      refine TI.runA 2 [3, 4, 8, 12, 13, 109, 110, 111, 127] (a2 := (st 198 [(3, pt 0 0), (4, pt 1 0), (8, accV 2 (List.length r5.1)), (12, iv r25), (13, iv v48), (109, accV 3 (List.length r34)), (110, iv (List.length r34 : Int)), (111, iv v49), (127, .bool (r72 == r25))])) (by kernel_rfl) ?_
      refine TI.done (by kernel_rfl) ?_
      refine NX.sq ?_
      have hX := of_do hF
      clear hF
      obtain ⟨m77, hm78, hF⟩ := hX
      have hK : NX Try.prog 0 0 [.bk 1, .sq c7.s2.s2.s2.s2.s2.s2.s2.s2.s2.s1.s2.bd.bd.s2.s2.s2] (Rd Try.prog 0 0 c7.s2.s2.s2.s2.s2.s2.s2.s2.s2.s1.s2.bd.bd (P7l0 r1 r5 r25 r34 r)) .normal (st 198 [(3, pt 0 0), (4, pt 1 0), (8, accV 2 (List.length r5.1)), (12, iv r25), (13, iv m77), (109, accV 3 (List.length r34)), (110, iv (List.length r34 : Int)), (111, iv v49)]) (H7_22 r1 r5 r34) := by
        refine NX.bk ?_
        refine NX.sq ?_
        refine TS.regionP (by kernel_rfl) ?_
        refine TI.runA 2 [3, 4, 8, 12, 13, 109, 110, 111] (a2 := (st 198 [(3, pt 0 0), (4, pt 1 0), (8, accV 2 (List.length r5.1)), (12, iv r25), (13, iv m77), (109, accV 3 (List.length r34)), (110, iv (List.length r34 : Int)), (111, iv (w64 (v49 + 1)))])) (by kernel_rfl) ?_
        refine TI.done (by kernel_rfl) ?_
        exact Rd.again (a2 := (st 198 [(3, pt 0 0), (4, pt 1 0), (8, accV 2 (List.length r5.1)), (12, iv r25), (13, iv m77), (109, accV 3 (List.length r34)), (110, iv (List.length r34 : Int)), (111, iv (w64 (v49 + 1)))])) (h2 := (H7_22 r1 r5 r34)) (Wk.anew (base := 0) (L := 0) (f := [0, 1, 2, 3]) (by decide) (by decide) (Nat.le_of_ble_eq_true rfl) rfl (.cons (At.blk (by kernel_rfl) (RnB.lit (.cons (.flat (by kernel_rfl)) (.cons (.flat (by kernel_rfl)) (.cons (.flat (by kernel_rfl)) (.cons (.flat (by kernel_rfl)) .nil)))))) (.cons (At.blk (by kernel_rfl) (RnB.lit (.cons (.flat (by kernel_rfl)) (.cons (.flat (by kernel_rfl)) .nil)))) (.cons (At.acc (by kernel_rfl) rfl (fun _ => rfl)) (.cons (At.acc (by kernel_rfl) rfl (fun _ => rfl)) (.nil _))))) (LRn.stx [3, 4, 8, 12, 13, 109, 110, 111] [pt 0 0, pt 1 0, accV 2 (List.length r5.1), iv r25, iv m77, accV 3 (List.length r34), iv (List.length r34 : Int), iv (w64 (v49 + 1))] [pt 0 0, pt 1 0, accV 2 (List.length r5.1), iv r25, iv m77, accV 3 (List.length r34), iv (List.length r34 : Int), iv (w64 (v49 + 1))] (.cons (Rn.ptr _ _ _ (Nat.le_of_ble_eq_true rfl) rfl) (.cons (Rn.ptr _ _ _ (Nat.le_of_ble_eq_true rfl) rfl) (.cons (Rn.acc (Nat.le_of_ble_eq_true rfl) rfl) (.cons (.flat (by kernel_rfl)) (.cons (.flat (by kernel_rfl)) (.cons (Rn.acc (Nat.le_of_ble_eq_true rfl) rfl) (.cons (.flat (by kernel_rfl)) (.cons (.flat (by kernel_rfl)) .nil)))))))) (by kernel_rfl) (by kernel_rfl) rfl) rfl rfl) (ih m77 (w64 (v49 + 1)) _ hF)
      clear hF
      have hF := hm78
      clear hm78
      refine TS.start ?_
      refine TS.condP (o := (.tmp 127)) (b := r72 == r25) (by kernel_rfl) (by kernel_rfl) (fun hc79 => ?_) (fun hc79 => ?_)
      · replace hF := of_pos hF hc79
        refine TS.regionP (by kernel_rfl) ?_
        refine TI.runA 3 [3, 4, 8, 12, 13, 109, 110, 111] (a2 := (st 198 [(3, pt 0 0), (4, pt 1 0), (8, accV 2 (List.length r5.1)), (12, iv r25), (13, iv (w64 (v48 + 1))), (109, accV 3 (List.length r34)), (110, iv (List.length r34 : Int)), (111, iv v49)])) (by kernel_rfl) ?_
        refine TI.done (by kernel_rfl) ?_
        have hF := Option.some.inj hF
        subst hF
        exact TS.weak (Wk.anew (base := 0) (L := 0) (f := [0, 1, 2, 3]) (by decide) (by decide) (Nat.le_of_ble_eq_true rfl) rfl (.cons (At.blk (by kernel_rfl) (RnB.lit (.cons (.flat (by kernel_rfl)) (.cons (.flat (by kernel_rfl)) (.cons (.flat (by kernel_rfl)) (.cons (.flat (by kernel_rfl)) .nil)))))) (.cons (At.blk (by kernel_rfl) (RnB.lit (.cons (.flat (by kernel_rfl)) (.cons (.flat (by kernel_rfl)) .nil)))) (.cons (At.acc (by kernel_rfl) rfl (fun _ => rfl)) (.cons (At.acc (by kernel_rfl) rfl (fun _ => rfl)) (.nil _))))) (LRn.stx [3, 4, 8, 12, 13, 109, 110, 111] [pt 0 0, pt 1 0, accV 2 (List.length r5.1), iv r25, iv (w64 (v48 + 1)), accV 3 (List.length r34), iv (List.length r34 : Int), iv v49] [pt 0 0, pt 1 0, accV 2 (List.length r5.1), iv r25, iv (w64 (v48 + 1)), accV 3 (List.length r34), iv (List.length r34 : Int), iv v49] (.cons (Rn.ptr _ _ _ (Nat.le_of_ble_eq_true rfl) rfl) (.cons (Rn.ptr _ _ _ (Nat.le_of_ble_eq_true rfl) rfl) (.cons (Rn.acc (Nat.le_of_ble_eq_true rfl) rfl) (.cons (.flat (by kernel_rfl)) (.cons (.flat (by kernel_rfl)) (.cons (Rn.acc (Nat.le_of_ble_eq_true rfl) rfl) (.cons (.flat (by kernel_rfl)) (.cons (.flat (by kernel_rfl)) .nil)))))))) (by kernel_rfl) (by kernel_rfl) rfl) rfl rfl) hK
      · replace hF := of_neg hF hc79
        refine TS.skip' (by kernel_rfl) ?_
        have hF := Option.some.inj hF
        subst hF
        exact TS.weak (Wk.anew (base := 0) (L := 0) (f := [0, 1, 2, 3]) (by decide) (by decide) (Nat.le_of_ble_eq_true rfl) rfl (.cons (At.blk (by kernel_rfl) (RnB.lit (.cons (.flat (by kernel_rfl)) (.cons (.flat (by kernel_rfl)) (.cons (.flat (by kernel_rfl)) (.cons (.flat (by kernel_rfl)) .nil)))))) (.cons (At.blk (by kernel_rfl) (RnB.lit (.cons (.flat (by kernel_rfl)) (.cons (.flat (by kernel_rfl)) .nil)))) (.cons (At.acc (by kernel_rfl) rfl (fun _ => rfl)) (.cons (At.acc (by kernel_rfl) rfl (fun _ => rfl)) (.nil _))))) (LRn.stx [3, 4, 8, 12, 13, 109, 110, 111] [pt 0 0, pt 1 0, accV 2 (List.length r5.1), iv r25, iv v48, accV 3 (List.length r34), iv (List.length r34 : Int), iv v49] [pt 0 0, pt 1 0, accV 2 (List.length r5.1), iv r25, iv v48, accV 3 (List.length r34), iv (List.length r34 : Int), iv v49] (.cons (Rn.ptr _ _ _ (Nat.le_of_ble_eq_true rfl) rfl) (.cons (Rn.ptr _ _ _ (Nat.le_of_ble_eq_true rfl) rfl) (.cons (Rn.acc (Nat.le_of_ble_eq_true rfl) rfl) (.cons (.flat (by kernel_rfl)) (.cons (.flat (by kernel_rfl)) (.cons (Rn.acc (Nat.le_of_ble_eq_true rfl) rfl) (.cons (.flat (by kernel_rfl)) (.cons (.flat (by kernel_rfl)) .nil)))))))) (by kernel_rfl) (by kernel_rfl) rfl) rfl rfl) hK
  · replace hF := of_neg hF hc63
    refine TS.exit' (id := 0) (by kernel_rfl) ?_
    refine NX.sqX ?_
    have hF := Option.some.inj hF
    subst hF
    exact Rd.out (e := .exit 0) (by intro h; cases h) (And.intro rfl (Wk.anew (base := 0) (L := 0) (f := [0, 1, 2]) (by decide) (by decide) (Nat.le_of_ble_eq_true rfl) rfl (.cons (At.blk (by kernel_rfl) (RnB.lit (.cons (.flat (by kernel_rfl)) (.cons (.flat (by kernel_rfl)) (.cons (.flat (by kernel_rfl)) (.cons (.flat (by kernel_rfl)) .nil)))))) (.cons (At.blk (by kernel_rfl) (RnB.lit (.cons (.flat (by kernel_rfl)) (.cons (.flat (by kernel_rfl)) .nil)))) (.cons (At.acc (by kernel_rfl) rfl (fun _ => rfl)) (.nil _)))) (LRn.stx [3, 4, 8, 12, 13] [pt 0 0, pt 1 0, accV 2 (List.length r5.1), iv r25, iv v48] [pt 0 0, pt 1 0, accV 2 (List.length r5.1), iv r25, iv v48] (.cons (Rn.ptr _ _ _ (Nat.le_of_ble_eq_true rfl) rfl) (.cons (Rn.ptr _ _ _ (Nat.le_of_ble_eq_true rfl) rfl) (.cons (Rn.acc (Nat.le_of_ble_eq_true rfl) rfl) (.cons (.flat (by kernel_rfl)) (.cons (.flat (by kernel_rfl)) .nil))))) (by kernel_rfl) (by kernel_rfl) rfl) rfl rfl))
def P7l1 (o83 : Int) (r1 : (((Int × Int) × (Int × Int)) × (Int × Int))) (r5 : ((List (Int × Int)) × Int)) (r25 : Int) (r : (Unit ⊕ Unit)) : Post := fun e a h => (match r with | .inl q0 => e = .ret ∧ Wk Try.prog 0 0 a h (st 198 [(2, .bool false)]) [] | .inr q0 => e = .exit 2 ∧ Wk Try.prog 0 0 a h (st 198 [(8, accV 0 (List.length r5.1)), (13, iv o83)]) [accB 27 (List.length r5.1) (List.flatMap e27 r5.1)])
theorem L7l1 (o83 : Int) (r1 : (((Int × Int) × (Int × Int)) × (Int × Int))) (r5 : ((List (Int × Int)) × Int)) (r25 : Int) (v99 : Int) (r : (Unit ⊕ Unit)) (hF : F7l1 o83 r1 r5 r25 v99 = some r) : TL Try.prog 0 0 c7.s2.s2.s2.s2.s2.s2.s2.s2.s2.s2.s1.s2.bd.bd (S7_24 r5 r25 o83 v99) (H7_30 r1 r5) (P7l1 o83 r1 r5 r25 r) := by
  refine F7l1.partial_correctness o83 r1 r5 r25 (motive := fun v99 r => TL Try.prog 0 0 c7.s2.s2.s2.s2.s2.s2.s2.s2.s2.s2.s1.s2.bd.bd (S7_24 r5 r25 o83 v99) (H7_30 r1 r5) (P7l1 o83 r1 r5 r25 r)) ?_ v99 r hF
  clear hF r v99
  intro again ih v99 r hF
  refine TL.round ?_
  refine TS.seqP (by kernel_rfl) ?_
  refine TS.regionP (by kernel_rfl) ?_
  refine TI.runA 1 [3, 4, 8, 12, 13, 131, 132, 133, 134] (a2 := (st 198 [(3, pt 0 0), (4, pt 1 0), (8, accV 2 (List.length r5.1)), (12, iv r25), (13, iv o83), (131, accV 2 (List.length r5.1)), (132, iv (List.length r5.1 : Int)), (133, iv v99), (134, .bool (decide (v99 < (List.length r5.1 : Int))))])) (by kernel_rfl) ?_
  refine TI.done (by kernel_rfl) ?_
  refine NX.sq ?_
  refine TS.seqP (by kernel_rfl) ?_
  refine TS.condP (o := (.tmp 134)) (b := decide (v99 < (List.length r5.1 : Int))) (by kernel_rfl) (by kernel_rfl) (fun hc121 => ?_) (fun hc121 => ?_)
  · replace hF := of_pos hF hc121
    refine TS.skip' (by kernel_rfl) ?_
    refine NX.sq ?_
    refine TS.seqP (by kernel_rfl) ?_
    refine TS.blockP (id := 3) (by kernel_rfl) ?_
    refine TS.seqP (by kernel_rfl) ?_
    have hX := of_guard hF
    clear hF
    obtain ⟨hg122, hF⟩ := hX
    have hX := of_do hF
    clear hF
    obtain ⟨o123, h124, hF⟩ := hX
    replace h124 := Option.some.inj h124
    refine TS.regionP (by kernel_rfl) ?_
    refine TI.runA 1 [3, 4, 8, 12, 13, 131, 132, 133, 135] (a2 := (st 198 [(3, pt 0 0), (4, pt 1 0), (8, accV 2 (List.length r5.1)), (12, iv r25), (13, iv o83), (131, accV 2 (List.length r5.1)), (132, iv (List.length r5.1 : Int)), (133, iv v99), (135, iv v99)])) (by kernel_rfl) ?_
    refine TI.op (q := { val := .pointer (some ⟨2, 0 + (Int.toNat v99) * 2, none⟩) }) (q_ixAcc (P := Try.prog) (t := 60) (s := 2) (e := 27) 2 (List.length r5.1) (by kernel_rfl) hg122 (by kernel_rfl) (by kernel_rfl)) [3, 4, 8, 12, 13, 131, 132, 133, 135, 136] [0, 1, 2] (a2 := (st 198 [(3, pt 0 0), (4, pt 1 0), (8, accV 2 (List.length r5.1)), (12, iv r25), (13, iv o83), (131, accV 2 (List.length r5.1)), (132, iv (List.length r5.1 : Int)), (133, iv v99), (135, iv v99), (136, .pointer (some ⟨2, 0 + (Int.toNat v99) * 2, none⟩))])) (h2 := (H7_30 r1 r5)) (by kernel_rfl) ?_
    refine TI.op (q := { val := ag [iv o123.1, iv o123.2] }) (q_eqv (q_ldA (P := Try.prog) (hp := (H7_30 r1 r5)) (t := 27) (b := 2) (off := 0 + (Int.toNat v99) * 2) (l := r5.1) (enc := e27) (s := 2) (T := 27) (i := Int.toNat v99) (by kernel_rfl) (accB_at (h := (H7_30 r1 r5)) (n := List.length r5.1) (i := Int.toNat v99) (by kernel_rfl) (by first | omega | (simp only [List.length_set, List.length_replicate, List.length_cons, List.length_nil, List.length_append]; omega))) (by kernel_rfl) (by kernel_rfl) (fun _ => rfl) (by omega) (by first | omega | (simp only [List.length_set, List.length_replicate, List.length_cons, List.length_nil, List.length_append]; omega)) (0, 0)) (congrArg (fun (z : (Int × Int)) => ({ val := ag [iv z.1, iv z.2] } : QRes)) h124)) [3, 4, 8, 12, 13, 131, 132, 133, 135, 137] [0, 1, 2] (a2 := (st 198 [(3, pt 0 0), (4, pt 1 0), (8, accV 2 (List.length r5.1)), (12, iv r25), (13, iv o83), (131, accV 2 (List.length r5.1)), (132, iv (List.length r5.1 : Int)), (133, iv v99), (135, iv v99), (137, ag [iv o123.1, iv o123.2])])) (h2 := (H7_30 r1 r5)) (by kernel_rfl) ?_
    refine TI.run 3 [3, 4, 8, 12, 13, 17, 18, 131, 132, 133] [0, 1, 2, 3] (a2 := (st 198 [(3, pt 0 0), (4, pt 1 0), (8, accV 2 (List.length r5.1)), (12, iv r25), (13, iv o83), (17, iv v99), (18, pt 3 0), (131, accV 2 (List.length r5.1)), (132, iv (List.length r5.1 : Int)), (133, iv v99)])) (h2 := (H7_26 r1 r5 o123)) (by kernel_rfl) ?_
    refine TI.done (by kernel_rfl) ?_
    refine NX.sq ?_
    refine TS.seqP (by kernel_rfl) ?_
    have hX := of_do hF
    clear hF
    obtain ⟨r125, h126, hF⟩ := hX
    have hX := of_do hF
    clear hF
    obtain ⟨r127, h128, hF⟩ := hX
    have hT : ∀ e ∈ ([⟨40, [ag [iv r1.1.1.1, iv r1.1.1.2, iv r1.1.2.1, iv r1.1.2.2], ag [iv o123.1, iv o123.2]], (H7_26 r1 r5 o123), ag [iv r125.1, iv r125.2], []⟩, ⟨39, [ag [iv r1.2.1, iv r1.2.2], ag [iv r125.1, iv r125.2]], (H7_26 r1 r5 o123), ag [iv r127.1, iv r127.2], []⟩] : List Entry), PureSim Try.prog e.g e.args e.h e.v e.new := by
      intro e he
      simp only [List.mem_cons, List.not_mem_nil, or_false] at he
      rcases he with rfl | rfl
      · exact PureSim.anyK (C40 _ _ _ _ _ _ _ h126) (by kernel_rfl)
      · exact PureSim.anyK (C39 _ _ _ _ _ h128) (by kernel_rfl)
    refine TS.drawP [⟨40, [ag [iv r1.1.1.1, iv r1.1.1.2, iv r1.1.2.1, iv r1.1.2.2], ag [iv o123.1, iv o123.2]], (H7_26 r1 r5 o123), ag [iv r125.1, iv r125.2], []⟩, ⟨39, [ag [iv r1.2.1, iv r1.2.2], ag [iv r125.1, iv r125.2]], (H7_26 r1 r5 o123), ag [iv r127.1, iv r127.2], []⟩] hT mixed (by kernel_rfl) 6 (by kernel_rfl) [3, 4, 8, 12, 13, 17, 18, 19, 131, 132, 133] [0, 1, 2, 3, 4] (a2 := (st 198 [(3, pt 0 0), (4, pt 1 0), (8, accV 2 (List.length r5.1)), (12, iv r25), (13, iv o83), (17, iv v99), (18, pt 3 0), (19, pt 4 0), (131, accV 2 (List.length r5.1)), (132, iv (List.length r5.1 : Int)), (133, iv v99)])) (h2 := (H7_19 r1 r5 o123 r127)) ?_ ?_
    · refine QJ.run (s1 := (qs (st 198 [(3, pt 0 0), (4, pt 1 0), (8, accV 2 (List.length r5.1)), (12, iv r25), (13, iv o83), (17, iv v99), (18, pt 3 0), (131, accV 2 (List.length r5.1)), (132, iv (List.length r5.1 : Int)), (133, iv v99), (138, ag [iv r1.2.1, iv r1.2.2]), (139, ag [iv r1.1.1.1, iv r1.1.1.2, iv r1.1.2.1, iv r1.1.2.2]), (140, ag [iv o123.1, iv o123.2])]) (H7_26 r1 r5 o123) [] [])) 3 (by kernel_rfl) (by kernel_rfl) ?_
      refine QJ.op (q := { val := ag [iv r125.1, iv r125.2], new := [] }) (by decide) (qOf_call (g := 40) (args := [ag [iv r1.1.1.1, iv r1.1.1.2, iv r1.1.2.1, iv r1.1.2.2], ag [iv o123.1, iv o123.2]]) (by kernel_rfl) lookC_hit) ?_
      refine QJ.op (q := { val := ag [iv r127.1, iv r127.2], new := [] }) (by decide) (qOf_call (g := 39) (args := [ag [iv r1.2.1, iv r1.2.2], ag [iv r125.1, iv r125.2]]) (by kernel_rfl) (lookC_skip (fun hg => absurd (show (40 : Nat) = 39 from hg) (by decide)) lookC_hit)) ?_
      refine QJ.run (s1 := (qs (st 198 [(3, pt 0 0), (4, pt 1 0), (8, accV 2 (List.length r5.1)), (12, iv r25), (13, iv o83), (17, iv v99), (18, pt 3 0), (19, pt 4 0), (131, accV 2 (List.length r5.1)), (132, iv (List.length r5.1 : Int)), (133, iv v99), (138, ag [iv r1.2.1, iv r1.2.2]), (139, ag [iv r1.1.1.1, iv r1.1.1.2, iv r1.1.2.1, iv r1.1.2.2]), (140, ag [iv o123.1, iv o123.2]), (141, ag [iv r125.1, iv r125.2]), (142, ag [iv r127.1, iv r127.2])]) [cl 25 [iv r1.1.1.1, iv r1.1.1.2, iv r1.1.2.1, iv r1.1.2.2], cl 23 [iv r1.2.1, iv r1.2.2], accB 27 (List.length r5.1) (List.flatMap e27 r5.1), cl 27 [iv o123.1, iv o123.2], cl 23 [iv 0, iv 0]] [(5, 4, 5)] [])) 1 (by kernel_rfl) (by kernel_rfl) ?_
      refine QJ.done (by kernel_rfl) ⟨rfl, ?_⟩
      refine SJ.last (by kernel_rfl)
    refine TS.seqP (by kernel_rfl) ?_
    have hX := of_do hF
    clear hF
    obtain ⟨r129, h130, hF⟩ := hX
    have hX := of_do hF
    clear hF
    obtain ⟨m140, hm141, hF⟩ := hX
    have hK : NX Try.prog 0 0 [.sq c7.s2.s2.s2.s2.s2.s2.s2.s2.s2.s2.s1.s2.bd.bd.s2.s2.s1.bd.s2.s2.s2, .bk 3, .sq c7.s2.s2.s2.s2.s2.s2.s2.s2.s2.s2.s1.s2.bd.bd.s2.s2.s2] (Rd Try.prog 0 0 c7.s2.s2.s2.s2.s2.s2.s2.s2.s2.s2.s1.s2.bd.bd (P7l1 o83 r1 r5 r25 r)) .normal (st 198 [(3, pt 0 0), (4, pt 1 0), (8, accV 2 (List.length r5.1)), (12, iv r25), (13, iv o83), (131, accV 2 (List.length r5.1)), (132, iv (List.length r5.1 : Int)), (133, iv v99), (189, .bool m140)]) (H7_29 r1 r5) := by
      refine NX.sq ?_
      cases m140 with
      | true =>
        replace hF := of_pos hF rfl
        refine TS.condTP (o := (.tmp 189)) (by kernel_rfl) (by kernel_rfl) ?_
        refine TS.seqP (by kernel_rfl) ?_
        refine TS.regionP (by kernel_rfl) ?_
        refine TI.run 1 [2] [] (a2 := (st 198 [(2, .bool false)])) (h2 := [.dead, .dead, .dead, .dead, .dead]) (by kernel_rfl) ?_
        refine TI.done (by kernel_rfl) ?_
        refine NX.sq ?_
        refine TS.ret' (by kernel_rfl) ?_
        refine NX.bkR ?_
        refine NX.sqR ?_
        have hF := Option.some.inj hF
        subst hF
        exact Rd.out (e := .ret) (by intro h; cases h) (And.intro rfl (Wk.anew (base := 0) (L := 0) (f := []) (by decide) (by decide) (Nat.le_of_ble_eq_true rfl) rfl (.nil _) (LRn.stx [2] [.bool false] [.bool false] (.cons (.flat (by kernel_rfl)) .nil) (by kernel_rfl) (by kernel_rfl) rfl) rfl rfl))
      | false =>
        replace hF := of_neg hF rfl
        refine TS.condFP (o := (.tmp 189)) (by kernel_rfl) (by kernel_rfl) ?_
        refine TS.skip' (by kernel_rfl) ?_
        refine NX.bk ?_
        refine NX.sq ?_
        refine TS.regionP (by kernel_rfl) ?_
        refine TI.runA 2 [3, 4, 8, 12, 13, 131, 132, 133] (a2 := (S7_23 r5 r25 o83 v99)) (by kernel_rfl) ?_
        refine TI.done (by kernel_rfl) ?_
        exact Rd.again (a2 := (S7_23 r5 r25 o83 v99)) (h2 := (H7_30 r1 r5)) (Wk.anew (base := 0) (L := 0) (f := [0, 1, 2]) (by decide) (by decide) (Nat.le_of_ble_eq_true rfl) rfl (.cons (At.blk (by kernel_rfl) (RnB.lit (.cons (.flat (by kernel_rfl)) (.cons (.flat (by kernel_rfl)) (.cons (.flat (by kernel_rfl)) (.cons (.flat (by kernel_rfl)) .nil)))))) (.cons (At.blk (by kernel_rfl) (RnB.lit (.cons (.flat (by kernel_rfl)) (.cons (.flat (by kernel_rfl)) .nil)))) (.cons (At.acc (by kernel_rfl) rfl (fun _ => rfl)) (.nil _)))) (LRn.stx [3, 4, 8, 12, 13, 131, 132, 133] [pt 0 0, pt 1 0, accV 2 (List.length r5.1), iv r25, iv o83, accV 2 (List.length r5.1), iv (List.length r5.1 : Int), iv (w64 (v99 + 1))] [pt 0 0, pt 1 0, accV 2 (List.length r5.1), iv r25, iv o83, accV 2 (List.length r5.1), iv (List.length r5.1 : Int), iv (w64 (v99 + 1))] (.cons (Rn.ptr _ _ _ (Nat.le_of_ble_eq_true rfl) rfl) (.cons (Rn.ptr _ _ _ (Nat.le_of_ble_eq_true rfl) rfl) (.cons (Rn.acc (Nat.le_of_ble_eq_true rfl) rfl) (.cons (.flat (by kernel_rfl)) (.cons (.flat (by kernel_rfl)) (.cons (Rn.acc (Nat.le_of_ble_eq_true rfl) rfl) (.cons (.flat (by kernel_rfl)) (.cons (.flat (by kernel_rfl)) .nil)))))))) (by kernel_rfl) (by kernel_rfl) rfl) rfl rfl) (ih (w64 (v99 + 1)) _ hF)
    cases r129 with
    | true =>
      replace hm141 := of_pos hm141 rfl
      have hX := of_do hm141
      clear hm141
      obtain ⟨r131, h132, hm141⟩ := hX
      rcases Bool.eq_false_or_eq_true (r131 != r25) with hc133 | hc133
      · replace hm141 := of_pos hm141 hc133
        have hm141 := Option.some.inj hm141
        subst hm141
        have hT : ∀ e ∈ ([⟨38, [ag [iv o123.1, iv o123.2]], (H7_19 r1 r5 o123 r127), .bool true, []⟩, ⟨41, [ag [iv r127.1, iv r127.2], ag [iv r127.1, iv r127.2]], (H7_19 r1 r5 o123 r127), iv r131, []⟩] : List Entry), PureSim Try.prog e.g e.args e.h e.v e.new := by
          intro e he
          simp only [List.mem_cons, List.not_mem_nil, or_false] at he
          rcases he with rfl | rfl
          · exact PureSim.anyK (C38 _ _ _ h130) (by kernel_rfl)
          · exact PureSim.anyK (C41 _ _ _ _ _ h132) (by kernel_rfl)
        refine TS.drawP [⟨38, [ag [iv o123.1, iv o123.2]], (H7_19 r1 r5 o123 r127), .bool true, []⟩, ⟨41, [ag [iv r127.1, iv r127.2], ag [iv r127.1, iv r127.2]], (H7_19 r1 r5 o123 r127), iv r131, []⟩] hT mixed (by kernel_rfl) 42 (by kernel_rfl) [3, 4, 8, 12, 13, 131, 132, 133, 189] [0, 1, 2] (a2 := (S7_21 r5 r25 o83 v99)) (h2 := (H7_29 r1 r5)) ?_ ?_
        · refine QJ.run (s1 := (qs (S7_14 r5 r25 o83 v99 o123) (H7_19 r1 r5 o123 r127) [] [])) 1 (by kernel_rfl) (by kernel_rfl) ?_
          refine QJ.op (q := { val := .bool true, new := [] }) (by decide) (qOf_call (g := 38) (args := [ag [iv o123.1, iv o123.2]]) (by kernel_rfl) lookC_hit) ?_
          refine QJ.run (s1 := (qs (S7_11 r5 r25 o83 v99 o123 r127) (H7_19 r1 r5 o123 r127) [] [])) 4 (by kernel_rfl) (by kernel_rfl) ?_
          refine QJ.op (q := { val := iv r131, new := [] }) (by decide) (qOf_call (g := 41) (args := [ag [iv r127.1, iv r127.2], ag [iv r127.1, iv r127.2]]) (by kernel_rfl) (lookC_skip (fun hg => absurd (show (38 : Nat) = 41 from hg) (by decide)) lookC_hit)) ?_
          refine QJ.run (s1 := (qs (S7_10 r5 r25 o83 v99 o123 r127 r131) (H7_19 r1 r5 o123 r127) [] [])) 1 (by kernel_rfl) (by kernel_rfl) ?_
          refine QJ.op (q := { val := .bool true }) (by decide) (q_conv (e := r131 != r25) (b := true) (by kernel_rfl) hc133) ?_
          refine QJ.run (s1 := (qs (st 198 [(3, pt 0 0), (4, pt 1 0), (8, accV 2 (List.length r5.1)), (12, iv r25), (13, iv o83), (17, iv v99), (18, pt 3 0), (19, pt 4 0), (131, accV 2 (List.length r5.1)), (132, iv (List.length r5.1 : Int)), (133, iv v99), (143, ag [iv o123.1, iv o123.2]), (144, .bool true), (145, .bool false), (146, .bool false), (147, ag [iv r127.1, iv r127.2]), (148, ag [iv r127.1, iv r127.2]), (149, iv r131), (150, iv r25), (151, .bool true), (152, .bool true), (153, .bool true), (154, undef), (155, undef), (156, undef), (157, undef), (158, undef), (159, undef), (160, undef), (161, undef), (162, undef), (163, undef), (164, undef), (165, undef), (166, undef), (167, undef), (168, undef), (169, undef), (170, undef), (171, undef), (172, undef), (173, undef), (174, undef), (175, undef), (176, undef), (177, undef), (178, undef), (179, undef), (180, undef), (181, undef), (182, undef), (183, undef), (184, undef)]) (H7_19 r1 r5 o123 r127) [] [])) 33 (by kernel_rfl) (by kernel_rfl) ?_
          refine QJ.done (by kernel_rfl) ⟨rfl, ?_⟩
          refine SJ.last (by kernel_rfl)
        exact hK
      · replace hm141 := of_neg hm141 hc133
        rcases Bool.eq_false_or_eq_true (decide (v99 > 0)) with hc134 | hc134
        · replace hm141 := of_pos hm141 hc134
          have hX := of_guard hm141
          clear hm141
          obtain ⟨hg135, hm141⟩ := hX
          have hX := of_do hm141
          clear hm141
          obtain ⟨o136, h137, hm141⟩ := hX
          replace h137 := Option.some.inj h137
          rcases Bool.eq_false_or_eq_true (decide (o123.1 < o136.1)) with hc138 | hc138
          · replace hm141 := of_pos hm141 hc138
            have hm141 := Option.some.inj hm141
            subst hm141
            have hT : ∀ e ∈ ([⟨38, [ag [iv o123.1, iv o123.2]], (H7_19 r1 r5 o123 r127), .bool true, []⟩, ⟨41, [ag [iv r127.1, iv r127.2], ag [iv r127.1, iv r127.2]], (H7_19 r1 r5 o123 r127), iv r131, []⟩] : List Entry), PureSim Try.prog e.g e.args e.h e.v e.new := by
              intro e he
              simp only [List.mem_cons, List.not_mem_nil, or_false] at he
              rcases he with rfl | rfl
              · exact PureSim.anyK (C38 _ _ _ h130) (by kernel_rfl)
              · exact PureSim.anyK (C41 _ _ _ _ _ h132) (by kernel_rfl)
            refine TS.drawP [⟨38, [ag [iv o123.1, iv o123.2]], (H7_19 r1 r5 o123 r127), .bool true, []⟩, ⟨41, [ag [iv r127.1, iv r127.2], ag [iv r127.1, iv r127.2]], (H7_19 r1 r5 o123 r127), iv r131, []⟩] hT mixed (by kernel_rfl) 42 (by kernel_rfl) [3, 4, 8, 12, 13, 131, 132, 133, 189] [0, 1, 2] (a2 := (S7_21 r5 r25 o83 v99)) (h2 := (H7_29 r1 r5)) ?_ ?_
            · refine QJ.run (s1 := (qs (S7_14 r5 r25 o83 v99 o123) (H7_19 r1 r5 o123 r127) [] [])) 1 (by kernel_rfl) (by kernel_rfl) ?_
              refine QJ.op (q := { val := .bool true, new := [] }) (by decide) (qOf_call (g := 38) (args := [ag [iv o123.1, iv o123.2]]) (by kernel_rfl) lookC_hit) ?_
              refine QJ.run (s1 := (qs (S7_11 r5 r25 o83 v99 o123 r127) (H7_19 r1 r5 o123 r127) [] [])) 4 (by kernel_rfl) (by kernel_rfl) ?_
              refine QJ.op (q := { val := iv r131, new := [] }) (by decide) (qOf_call (g := 41) (args := [ag [iv r127.1, iv r127.2], ag [iv r127.1, iv r127.2]]) (by kernel_rfl) (lookC_skip (fun hg => absurd (show (38 : Nat) = 41 from hg) (by decide)) lookC_hit)) ?_
              refine QJ.run (s1 := (qs (S7_10 r5 r25 o83 v99 o123 r127 r131) (H7_19 r1 r5 o123 r127) [] [])) 1 (by kernel_rfl) (by kernel_rfl) ?_
              refine QJ.op (q := { val := .bool false }) (by decide) (q_conv (e := r131 != r25) (b := false) (by kernel_rfl) hc133) ?_
              refine QJ.run (s1 := (qs (S7_8 r5 r25 o83 v99 o123 r127 r131) (H7_19 r1 r5 o123 r127) [] [])) 3 (by kernel_rfl) (by kernel_rfl) ?_
              refine QJ.op (q := { val := .bool true }) (by decide) (q_conv (e := decide (v99 > 0)) (b := true) (by kernel_rfl) hc134) ?_
              refine QJ.run (s1 := (qs (S7_6 r5 r25 o83 v99 o123 r127 r131) (H7_19 r1 r5 o123 r127) [] [])) 6 (by kernel_rfl) (by kernel_rfl) ?_
              refine QJ.op (q := { val := .pointer (some ⟨2, 0 + (Int.toNat (w64 (v99 - 1))) * 2, none⟩) }) (by decide) (q_ixAcc (P := Try.prog) (t := 60) (s := 2) (e := 27) 2 (List.length r5.1) (by kernel_rfl) hg135 (by kernel_rfl) (by kernel_rfl)) ?_
              refine QJ.run (s1 := (qs (S7_3 r5 r25 o83 v99 o123 r127 r131) (H7_19 r1 r5 o123 r127) [] [])) 1 (by kernel_rfl) (by kernel_rfl) ?_
              refine QJ.op (q := { val := iv o136.1 }) (by decide) (q_eqv (q_ld1 (P := Try.prog) (hp := (H7_19 r1 r5 o123 r127)) (t := 3) (b := 2) (off := 0 + (Int.toNat (w64 (v99 - 1))) * 2) (l := r5.1) (enc := e27) (s := 2) (T := 27) (i := Int.toNat (w64 (v99 - 1))) (k := 0) (by kernel_rfl) (accB_at (h := (H7_19 r1 r5 o123 r127)) (n := List.length r5.1) (i := Int.toNat (w64 (v99 - 1))) (by kernel_rfl) (by first | omega | (simp only [List.length_set, List.length_replicate, List.length_cons, List.length_nil, List.length_append]; omega))) (by kernel_rfl) (fun _ => rfl) (by omega) (by decide) (by first | omega | (simp only [List.length_set, List.length_replicate, List.length_cons, List.length_nil, List.length_append]; omega)) (0, 0)) (congrArg (fun (z : (Int × Int)) => ({ val := iv z.1 } : QRes)) h137)) ?_
              refine QJ.op (q := { val := .bool true }) (by decide) (q_conv (e := decide (o123.1 < o136.1)) (b := true) (by kernel_rfl) hc138) ?_
              refine QJ.run (s1 := (qs (st 198 [(3, pt 0 0), (4, pt 1 0), (8, accV 2 (List.length r5.1)), (12, iv r25), (13, iv o83), (17, iv v99), (18, pt 3 0), (19, pt 4 0), (131, accV 2 (List.length r5.1)), (132, iv (List.length r5.1 : Int)), (133, iv v99), (143, ag [iv o123.1, iv o123.2]), (144, .bool true), (145, .bool false), (146, .bool false), (147, ag [iv r127.1, iv r127.2]), (148, ag [iv r127.1, iv r127.2]), (149, iv r131), (150, iv r25), (151, .bool false), (152, .bool false), (153, .bool false), (154, iv v99), (155, .bool true), (156, .bool true), (157, pt 3 0), (158, iv o123.1), (159, accV 2 (List.length r5.1)), (160, iv v99), (161, iv (w64 (v99 - 1))), (162, .pointer (some ⟨2, 0 + (Int.toNat (w64 (v99 - 1))) * 2, none⟩)), (163, .pointer (some ⟨2, 0 + (Int.toNat (w64 (v99 - 1))) * 2, none⟩)), (164, iv o136.1), (165, .bool true), (166, .bool true), (167, undef), (168, undef), (169, undef), (170, undef), (171, undef), (172, undef), (173, undef), (174, undef), (175, undef), (176, undef), (177, undef), (178, undef), (179, undef), (180, undef), (181, undef), (182, undef), (183, undef), (184, undef)]) (H7_19 r1 r5 o123 r127) [] [])) 19 (by kernel_rfl) (by kernel_rfl) ?_
              refine QJ.done (by kernel_rfl) ⟨rfl, ?_⟩
              refine SJ.last (by kernel_rfl)
            exact hK
          · replace hm141 := of_neg hm141 hc138
            rcases Bool.eq_false_or_eq_true (o123.1 == o136.1) with hc139 | hc139
            · replace hm141 := of_pos hm141 hc139
              have hm141 := Option.some.inj hm141
              subst hm141
              have hT : ∀ e ∈ ([⟨38, [ag [iv o123.1, iv o123.2]], (H7_19 r1 r5 o123 r127), .bool true, []⟩, ⟨41, [ag [iv r127.1, iv r127.2], ag [iv r127.1, iv r127.2]], (H7_19 r1 r5 o123 r127), iv r131, []⟩] : List Entry), PureSim Try.prog e.g e.args e.h e.v e.new := by
                intro e he
                simp only [List.mem_cons, List.not_mem_nil, or_false] at he
                rcases he with rfl | rfl
                · exact PureSim.anyK (C38 _ _ _ h130) (by kernel_rfl)
                · exact PureSim.anyK (C41 _ _ _ _ _ h132) (by kernel_rfl)
              refine TS.drawP [⟨38, [ag [iv o123.1, iv o123.2]], (H7_19 r1 r5 o123 r127), .bool true, []⟩, ⟨41, [ag [iv r127.1, iv r127.2], ag [iv r127.1, iv r127.2]], (H7_19 r1 r5 o123 r127), iv r131, []⟩] hT mixed (by kernel_rfl) 42 (by kernel_rfl) [3, 4, 8, 12, 13, 131, 132, 133, 189] [0, 1, 2] (a2 := (st 198 [(3, pt 0 0), (4, pt 1 0), (8, accV 2 (List.length r5.1)), (12, iv r25), (13, iv o83), (131, accV 2 (List.length r5.1)), (132, iv (List.length r5.1 : Int)), (133, iv v99), (189, .bool (decide (o123.2 ≤ o136.2)))])) (h2 := (H7_29 r1 r5)) ?_ ?_
              · refine QJ.run (s1 := (qs (S7_14 r5 r25 o83 v99 o123) (H7_19 r1 r5 o123 r127) [] [])) 1 (by kernel_rfl) (by kernel_rfl) ?_
                refine QJ.op (q := { val := .bool true, new := [] }) (by decide) (qOf_call (g := 38) (args := [ag [iv o123.1, iv o123.2]]) (by kernel_rfl) lookC_hit) ?_
                refine QJ.run (s1 := (qs (S7_11 r5 r25 o83 v99 o123 r127) (H7_19 r1 r5 o123 r127) [] [])) 4 (by kernel_rfl) (by kernel_rfl) ?_
                refine QJ.op (q := { val := iv r131, new := [] }) (by decide) (qOf_call (g := 41) (args := [ag [iv r127.1, iv r127.2], ag [iv r127.1, iv r127.2]]) (by kernel_rfl) (lookC_skip (fun hg => absurd (show (38 : Nat) = 41 from hg) (by decide)) lookC_hit)) ?_
                refine QJ.run (s1 := (qs (S7_10 r5 r25 o83 v99 o123 r127 r131) (H7_19 r1 r5 o123 r127) [] [])) 1 (by kernel_rfl) (by kernel_rfl) ?_
                refine QJ.op (q := { val := .bool false }) (by decide) (q_conv (e := r131 != r25) (b := false) (by kernel_rfl) hc133) ?_
                refine QJ.run (s1 := (qs (S7_8 r5 r25 o83 v99 o123 r127 r131) (H7_19 r1 r5 o123 r127) [] [])) 3 (by kernel_rfl) (by kernel_rfl) ?_
                refine QJ.op (q := { val := .bool true }) (by decide) (q_conv (e := decide (v99 > 0)) (b := true) (by kernel_rfl) hc134) ?_
                refine QJ.run (s1 := (qs (S7_6 r5 r25 o83 v99 o123 r127 r131) (H7_19 r1 r5 o123 r127) [] [])) 6 (by kernel_rfl) (by kernel_rfl) ?_
                refine QJ.op (q := { val := .pointer (some ⟨2, 0 + (Int.toNat (w64 (v99 - 1))) * 2, none⟩) }) (by decide) (q_ixAcc (P := Try.prog) (t := 60) (s := 2) (e := 27) 2 (List.length r5.1) (by kernel_rfl) hg135 (by kernel_rfl) (by kernel_rfl)) ?_
                refine QJ.run (s1 := (qs (S7_3 r5 r25 o83 v99 o123 r127 r131) (H7_19 r1 r5 o123 r127) [] [])) 1 (by kernel_rfl) (by kernel_rfl) ?_
                refine QJ.op (q := { val := iv o136.1 }) (by decide) (q_eqv (q_ld1 (P := Try.prog) (hp := (H7_19 r1 r5 o123 r127)) (t := 3) (b := 2) (off := 0 + (Int.toNat (w64 (v99 - 1))) * 2) (l := r5.1) (enc := e27) (s := 2) (T := 27) (i := Int.toNat (w64 (v99 - 1))) (k := 0) (by kernel_rfl) (accB_at (h := (H7_19 r1 r5 o123 r127)) (n := List.length r5.1) (i := Int.toNat (w64 (v99 - 1))) (by kernel_rfl) (by first | omega | (simp only [List.length_set, List.length_replicate, List.length_cons, List.length_nil, List.length_append]; omega))) (by kernel_rfl) (fun _ => rfl) (by omega) (by decide) (by first | omega | (simp only [List.length_set, List.length_replicate, List.length_cons, List.length_nil, List.length_append]; omega)) (0, 0)) (congrArg (fun (z : (Int × Int)) => ({ val := iv z.1 } : QRes)) h137)) ?_
                refine QJ.op (q := { val := .bool false }) (by decide) (q_conv (e := decide (o123.1 < o136.1)) (b := false) (by kernel_rfl) hc138) ?_
                refine QJ.run (s1 := (qs (S7_1 r5 r25 o83 v99 o123 r127 r131 o136) (H7_19 r1 r5 o123 r127) [] [])) 6 (by kernel_rfl) (by kernel_rfl) ?_
                refine QJ.op (q := { val := .pointer (some ⟨2, 0 + (Int.toNat (w64 (v99 - 1))) * 2, none⟩) }) (by decide) (q_ixAcc (P := Try.prog) (t := 60) (s := 2) (e := 27) 2 (List.length r5.1) (by kernel_rfl) hg135 (by kernel_rfl) (by kernel_rfl)) ?_
                refine QJ.run (s1 := (qs (S7_0 r5 r25 o83 v99 o123 r127 r131 o136) (H7_19 r1 r5 o123 r127) [] [])) 1 (by kernel_rfl) (by kernel_rfl) ?_
                refine QJ.op (q := { val := iv o136.1 }) (by decide) (q_eqv (q_ld1 (P := Try.prog) (hp := (H7_19 r1 r5 o123 r127)) (t := 3) (b := 2) (off := 0 + (Int.toNat (w64 (v99 - 1))) * 2) (l := r5.1) (enc := e27) (s := 2) (T := 27) (i := Int.toNat (w64 (v99 - 1))) (k := 0) (by kernel_rfl) (accB_at (h := (H7_19 r1 r5 o123 r127)) (n := List.length r5.1) (i := Int.toNat (w64 (v99 - 1))) (by kernel_rfl) (by first | omega | (simp only [List.length_set, List.length_replicate, List.length_cons, List.length_nil, List.length_append]; omega))) (by kernel_rfl) (fun _ => rfl) (by omega) (by decide) (by first | omega | (simp only [List.length_set, List.length_replicate, List.length_cons, List.length_nil, List.length_append]; omega)) (0, 0)) (congrArg (fun (z : (Int × Int)) => ({ val := iv z.1 } : QRes)) h137)) ?_
                refine QJ.op (q := { val := .bool true }) (by decide) (q_conv (e := o123.1 == o136.1) (b := true) (by kernel_rfl) hc139) ?_
                refine QJ.run (s1 := (qs (st 198 [(3, pt 0 0), (4, pt 1 0), (8, accV 2 (List.length r5.1)), (12, iv r25), (13, iv o83), (17, iv v99), (18, pt 3 0), (19, pt 4 0), (131, accV 2 (List.length r5.1)), (132, iv (List.length r5.1 : Int)), (133, iv v99), (143, ag [iv o123.1, iv o123.2]), (144, .bool true), (145, .bool false), (146, .bool false), (147, ag [iv r127.1, iv r127.2]), (148, ag [iv r127.1, iv r127.2]), (149, iv r131), (150, iv r25), (151, .bool false), (152, .bool false), (153, .bool false), (154, iv v99), (155, .bool true), (156, .bool true), (157, pt 3 0), (158, iv o123.1), (159, accV 2 (List.length r5.1)), (160, iv v99), (161, iv (w64 (v99 - 1))), (162, .pointer (some ⟨2, 0 + (Int.toNat (w64 (v99 - 1))) * 2, none⟩)), (163, .pointer (some ⟨2, 0 + (Int.toNat (w64 (v99 - 1))) * 2, none⟩)), (164, iv o136.1), (165, .bool false), (166, .bool false), (167, pt 3 0), (168, iv o123.1), (169, accV 2 (List.length r5.1)), (170, iv v99), (171, iv (w64 (v99 - 1))), (172, .pointer (some ⟨2, 0 + (Int.toNat (w64 (v99 - 1))) * 2, none⟩)), (173, .pointer (some ⟨2, 0 + (Int.toNat (w64 (v99 - 1))) * 2, none⟩)), (174, iv o136.1), (175, .bool true), (176, .bool true), (177, pt 3 1), (178, iv o123.2), (179, accV 2 (List.length r5.1)), (180, iv v99), (181, iv (w64 (v99 - 1)))]) (H7_19 r1 r5 o123 r127) [] [])) 6 (by kernel_rfl) (by kernel_rfl) ?_
                refine QJ.op (q := { val := .pointer (some ⟨2, 0 + (Int.toNat (w64 (v99 - 1))) * 2, none⟩) }) (by decide) (q_ixAcc (P := Try.prog) (t := 60) (s := 2) (e := 27) 2 (List.length r5.1) (by kernel_rfl) hg135 (by kernel_rfl) (by kernel_rfl)) ?_
                refine QJ.run (s1 := (qs (st 198 [(3, pt 0 0), (4, pt 1 0), (8, accV 2 (List.length r5.1)), (12, iv r25), (13, iv o83), (17, iv v99), (18, pt 3 0), (19, pt 4 0), (131, accV 2 (List.length r5.1)), (132, iv (List.length r5.1 : Int)), (133, iv v99), (143, ag [iv o123.1, iv o123.2]), (144, .bool true), (145, .bool false), (146, .bool false), (147, ag [iv r127.1, iv r127.2]), (148, ag [iv r127.1, iv r127.2]), (149, iv r131), (150, iv r25), (151, .bool false), (152, .bool false), (153, .bool false), (154, iv v99), (155, .bool true), (156, .bool true), (157, pt 3 0), (158, iv o123.1), (159, accV 2 (List.length r5.1)), (160, iv v99), (161, iv (w64 (v99 - 1))), (162, .pointer (some ⟨2, 0 + (Int.toNat (w64 (v99 - 1))) * 2, none⟩)), (163, .pointer (some ⟨2, 0 + (Int.toNat (w64 (v99 - 1))) * 2, none⟩)), (164, iv o136.1), (165, .bool false), (166, .bool false), (167, pt 3 0), (168, iv o123.1), (169, accV 2 (List.length r5.1)), (170, iv v99), (171, iv (w64 (v99 - 1))), (172, .pointer (some ⟨2, 0 + (Int.toNat (w64 (v99 - 1))) * 2, none⟩)), (173, .pointer (some ⟨2, 0 + (Int.toNat (w64 (v99 - 1))) * 2, none⟩)), (174, iv o136.1), (175, .bool true), (176, .bool true), (177, pt 3 1), (178, iv o123.2), (179, accV 2 (List.length r5.1)), (180, iv v99), (181, iv (w64 (v99 - 1))), (182, .pointer (some ⟨2, 0 + (Int.toNat (w64 (v99 - 1))) * 2, none⟩)), (183, .pointer (some ⟨2, 0 + (Int.toNat (w64 (v99 - 1))) * 2 + 1, none⟩))]) (H7_19 r1 r5 o123 r127) [] [])) 1 (by kernel_rfl) (by kernel_rfl) ?_
                refine QJ.op (q := { val := iv o136.2 }) (by decide) (q_eqv (q_ld1 (P := Try.prog) (hp := (H7_19 r1 r5 o123 r127)) (t := 3) (b := 2) (off := 0 + (Int.toNat (w64 (v99 - 1))) * 2 + 1) (l := r5.1) (enc := e27) (s := 2) (T := 27) (i := Int.toNat (w64 (v99 - 1))) (k := 1) (by kernel_rfl) (accB_at (h := (H7_19 r1 r5 o123 r127)) (n := List.length r5.1) (i := Int.toNat (w64 (v99 - 1))) (by kernel_rfl) (by first | omega | (simp only [List.length_set, List.length_replicate, List.length_cons, List.length_nil, List.length_append]; omega))) (by kernel_rfl) (fun _ => rfl) (by omega) (by decide) (by first | omega | (simp only [List.length_set, List.length_replicate, List.length_cons, List.length_nil, List.length_append]; omega)) (0, 0)) (congrArg (fun (z : (Int × Int)) => ({ val := iv z.2 } : QRes)) h137)) ?_
                refine QJ.done (by kernel_rfl) ⟨rfl, ?_⟩
                refine SJ.last (by kernel_rfl)
              exact hK
            · replace hm141 := of_neg hm141 hc139
              have hm141 := Option.some.inj hm141
              subst hm141
              have hT : ∀ e ∈ ([⟨38, [ag [iv o123.1, iv o123.2]], (H7_19 r1 r5 o123 r127), .bool true, []⟩, ⟨41, [ag [iv r127.1, iv r127.2], ag [iv r127.1, iv r127.2]], (H7_19 r1 r5 o123 r127), iv r131, []⟩] : List Entry), PureSim Try.prog e.g e.args e.h e.v e.new := by
                intro e he
                simp only [List.mem_cons, List.not_mem_nil, or_false] at he
                rcases he with rfl | rfl
                · exact PureSim.anyK (C38 _ _ _ h130) (by kernel_rfl)
                · exact PureSim.anyK (C41 _ _ _ _ _ h132) (by kernel_rfl)
              refine TS.drawP [⟨38, [ag [iv o123.1, iv o123.2]], (H7_19 r1 r5 o123 r127), .bool true, []⟩, ⟨41, [ag [iv r127.1, iv r127.2], ag [iv r127.1, iv r127.2]], (H7_19 r1 r5 o123 r127), iv r131, []⟩] hT mixed (by kernel_rfl) 42 (by kernel_rfl) [3, 4, 8, 12, 13, 131, 132, 133, 189] [0, 1, 2] (a2 := (S7_20 r5 r25 o83 v99)) (h2 := (H7_29 r1 r5)) ?_ ?_
              · refine QJ.run (s1 := (qs (S7_14 r5 r25 o83 v99 o123) (H7_19 r1 r5 o123 r127) [] [])) 1 (by kernel_rfl) (by kernel_rfl) ?_
                refine QJ.op (q := { val := .bool true, new := [] }) (by decide) (qOf_call (g := 38) (args := [ag [iv o123.1, iv o123.2]]) (by kernel_rfl) lookC_hit) ?_
                refine QJ.run (s1 := (qs (S7_11 r5 r25 o83 v99 o123 r127) (H7_19 r1 r5 o123 r127) [] [])) 4 (by kernel_rfl) (by kernel_rfl) ?_
                refine QJ.op (q := { val := iv r131, new := [] }) (by decide) (qOf_call (g := 41) (args := [ag [iv r127.1, iv r127.2], ag [iv r127.1, iv r127.2]]) (by kernel_rfl) (lookC_skip (fun hg => absurd (show (38 : Nat) = 41 from hg) (by decide)) lookC_hit)) ?_
                refine QJ.run (s1 := (qs (S7_10 r5 r25 o83 v99 o123 r127 r131) (H7_19 r1 r5 o123 r127) [] [])) 1 (by kernel_rfl) (by kernel_rfl) ?_
                refine QJ.op (q := { val := .bool false }) (by decide) (q_conv (e := r131 != r25) (b := false) (by kernel_rfl) hc133) ?_
                refine QJ.run (s1 := (qs (S7_8 r5 r25 o83 v99 o123 r127 r131) (H7_19 r1 r5 o123 r127) [] [])) 3 (by kernel_rfl) (by kernel_rfl) ?_
                refine QJ.op (q := { val := .bool true }) (by decide) (q_conv (e := decide (v99 > 0)) (b := true) (by kernel_rfl) hc134) ?_
                refine QJ.run (s1 := (qs (S7_6 r5 r25 o83 v99 o123 r127 r131) (H7_19 r1 r5 o123 r127) [] [])) 6 (by kernel_rfl) (by kernel_rfl) ?_
                refine QJ.op (q := { val := .pointer (some ⟨2, 0 + (Int.toNat (w64 (v99 - 1))) * 2, none⟩) }) (by decide) (q_ixAcc (P := Try.prog) (t := 60) (s := 2) (e := 27) 2 (List.length r5.1) (by kernel_rfl) hg135 (by kernel_rfl) (by kernel_rfl)) ?_
                refine QJ.run (s1 := (qs (S7_3 r5 r25 o83 v99 o123 r127 r131) (H7_19 r1 r5 o123 r127) [] [])) 1 (by kernel_rfl) (by kernel_rfl) ?_
                refine QJ.op (q := { val := iv o136.1 }) (by decide) (q_eqv (q_ld1 (P := Try.prog) (hp := (H7_19 r1 r5 o123 r127)) (t := 3) (b := 2) (off := 0 + (Int.toNat (w64 (v99 - 1))) * 2) (l := r5.1) (enc := e27) (s := 2) (T := 27) (i := Int.toNat (w64 (v99 - 1))) (k := 0) (by kernel_rfl) (accB_at (h := (H7_19 r1 r5 o123 r127)) (n := List.length r5.1) (i := Int.toNat (w64 (v99 - 1))) (by kernel_rfl) (by first | omega | (simp only [List.length_set, List.length_replicate, List.length_cons, List.length_nil, List.length_append]; omega))) (by kernel_rfl) (fun _ => rfl) (by omega) (by decide) (by first | omega | (simp only [List.length_set, List.length_replicate, List.length_cons, List.length_nil, List.length_append]; omega)) (0, 0)) (congrArg (fun (z : (Int × Int)) => ({ val := iv z.1 } : QRes)) h137)) ?_
                refine QJ.op (q := { val := .bool false }) (by decide) (q_conv (e := decide (o123.1 < o136.1)) (b := false) (by kernel_rfl) hc138) ?_
                refine QJ.run (s1 := (qs (S7_1 r5 r25 o83 v99 o123 r127 r131 o136) (H7_19 r1 r5 o123 r127) [] [])) 6 (by kernel_rfl) (by kernel_rfl) ?_
                refine QJ.op (q := { val := .pointer (some ⟨2, 0 + (Int.toNat (w64 (v99 - 1))) * 2, none⟩) }) (by decide) (q_ixAcc (P := Try.prog) (t := 60) (s := 2) (e := 27) 2 (List.length r5.1) (by kernel_rfl) hg135 (by kernel_rfl) (by kernel_rfl)) ?_
                refine QJ.run (s1 := (qs (S7_0 r5 r25 o83 v99 o123 r127 r131 o136) (H7_19 r1 r5 o123 r127) [] [])) 1 (by kernel_rfl) (by kernel_rfl) ?_
                refine QJ.op (q := { val := iv o136.1 }) (by decide) (q_eqv (q_ld1 (P := Try.prog) (hp := (H7_19 r1 r5 o123 r127)) (t := 3) (b := 2) (off := 0 + (Int.toNat (w64 (v99 - 1))) * 2) (l := r5.1) (enc := e27) (s := 2) (T := 27) (i := Int.toNat (w64 (v99 - 1))) (k := 0) (by kernel_rfl) (accB_at (h := (H7_19 r1 r5 o123 r127)) (n := List.length r5.1) (i := Int.toNat (w64 (v99 - 1))) (by kernel_rfl) (by first | omega | (simp only [List.length_set, List.length_replicate, List.length_cons, List.length_nil, List.length_append]; omega))) (by kernel_rfl) (fun _ => rfl) (by omega) (by decide) (by first | omega | (simp only [List.length_set, List.length_replicate, List.length_cons, List.length_nil, List.length_append]; omega)) (0, 0)) (congrArg (fun (z : (Int × Int)) => ({ val := iv z.1 } : QRes)) h137)) ?_
                refine QJ.op (q := { val := .bool false }) (by decide) (q_conv (e := o123.1 == o136.1) (b := false) (by kernel_rfl) hc139) ?_
                refine QJ.run (s1 := (qs (st 198 [(3, pt 0 0), (4, pt 1 0), (8, accV 2 (List.length r5.1)), (12, iv r25), (13, iv o83), (17, iv v99), (18, pt 3 0), (19, pt 4 0), (131, accV 2 (List.length r5.1)), (132, iv (List.length r5.1 : Int)), (133, iv v99), (143, ag [iv o123.1, iv o123.2]), (144, .bool true), (145, .bool false), (146, .bool false), (147, ag [iv r127.1, iv r127.2]), (148, ag [iv r127.1, iv r127.2]), (149, iv r131), (150, iv r25), (151, .bool false), (152, .bool false), (153, .bool false), (154, iv v99), (155, .bool true), (156, .bool true), (157, pt 3 0), (158, iv o123.1), (159, accV 2 (List.length r5.1)), (160, iv v99), (161, iv (w64 (v99 - 1))), (162, .pointer (some ⟨2, 0 + (Int.toNat (w64 (v99 - 1))) * 2, none⟩)), (163, .pointer (some ⟨2, 0 + (Int.toNat (w64 (v99 - 1))) * 2, none⟩)), (164, iv o136.1), (165, .bool false), (166, .bool false), (167, pt 3 0), (168, iv o123.1), (169, accV 2 (List.length r5.1)), (170, iv v99), (171, iv (w64 (v99 - 1))), (172, .pointer (some ⟨2, 0 + (Int.toNat (w64 (v99 - 1))) * 2, none⟩)), (173, .pointer (some ⟨2, 0 + (Int.toNat (w64 (v99 - 1))) * 2, none⟩)), (174, iv o136.1), (175, .bool false), (176, .bool false), (177, undef), (178, undef), (179, undef), (180, undef), (181, undef), (182, undef), (183, undef), (184, undef)]) (H7_19 r1 r5 o123 r127) [] [])) 9 (by kernel_rfl) (by kernel_rfl) ?_
                refine QJ.done (by kernel_rfl) ⟨rfl, ?_⟩
                refine SJ.last (by kernel_rfl)
              exact hK
        · replace hm141 := of_neg hm141 hc134
          have hm141 := Option.some.inj hm141
          subst hm141
          have hT : ∀ e ∈ ([⟨38, [ag [iv o123.1, iv o123.2]], (H7_19 r1 r5 o123 r127), .bool true, []⟩, ⟨41, [ag [iv r127.1, iv r127.2], ag [iv r127.1, iv r127.2]], (H7_19 r1 r5 o123 r127), iv r131, []⟩] : List Entry), PureSim Try.prog e.g e.args e.h e.v e.new := by
            intro e he
            simp only [List.mem_cons, List.not_mem_nil, or_false] at he
            rcases he with rfl | rfl
            · exact PureSim.anyK (C38 _ _ _ h130) (by kernel_rfl)
            · exact PureSim.anyK (C41 _ _ _ _ _ h132) (by kernel_rfl)
          refine TS.drawP [⟨38, [ag [iv o123.1, iv o123.2]], (H7_19 r1 r5 o123 r127), .bool true, []⟩, ⟨41, [ag [iv r127.1, iv r127.2], ag [iv r127.1, iv r127.2]], (H7_19 r1 r5 o123 r127), iv r131, []⟩] hT mixed (by kernel_rfl) 42 (by kernel_rfl) [3, 4, 8, 12, 13, 131, 132, 133, 189] [0, 1, 2] (a2 := (S7_20 r5 r25 o83 v99)) (h2 := (H7_29 r1 r5)) ?_ ?_
          · refine QJ.run (s1 := (qs (S7_14 r5 r25 o83 v99 o123) (H7_19 r1 r5 o123 r127) [] [])) 1 (by kernel_rfl) (by kernel_rfl) ?_
            refine QJ.op (q := { val := .bool true, new := [] }) (by decide) (qOf_call (g := 38) (args := [ag [iv o123.1, iv o123.2]]) (by kernel_rfl) lookC_hit) ?_
            refine QJ.run (s1 := (qs (S7_11 r5 r25 o83 v99 o123 r127) (H7_19 r1 r5 o123 r127) [] [])) 4 (by kernel_rfl) (by kernel_rfl) ?_
            refine QJ.op (q := { val := iv r131, new := [] }) (by decide) (qOf_call (g := 41) (args := [ag [iv r127.1, iv r127.2], ag [iv r127.1, iv r127.2]]) (by kernel_rfl) (lookC_skip (fun hg => absurd (show (38 : Nat) = 41 from hg) (by decide)) lookC_hit)) ?_
            refine QJ.run (s1 := (qs (S7_10 r5 r25 o83 v99 o123 r127 r131) (H7_19 r1 r5 o123 r127) [] [])) 1 (by kernel_rfl) (by kernel_rfl) ?_
            refine QJ.op (q := { val := .bool false }) (by decide) (q_conv (e := r131 != r25) (b := false) (by kernel_rfl) hc133) ?_
            refine QJ.run (s1 := (qs (S7_8 r5 r25 o83 v99 o123 r127 r131) (H7_19 r1 r5 o123 r127) [] [])) 3 (by kernel_rfl) (by kernel_rfl) ?_
            refine QJ.op (q := { val := .bool false }) (by decide) (q_conv (e := decide (v99 > 0)) (b := false) (by kernel_rfl) hc134) ?_
            refine QJ.run (s1 := (qs (st 198 [(3, pt 0 0), (4, pt 1 0), (8, accV 2 (List.length r5.1)), (12, iv r25), (13, iv o83), (17, iv v99), (18, pt 3 0), (19, pt 4 0), (131, accV 2 (List.length r5.1)), (132, iv (List.length r5.1 : Int)), (133, iv v99), (143, ag [iv o123.1, iv o123.2]), (144, .bool true), (145, .bool false), (146, .bool false), (147, ag [iv r127.1, iv r127.2]), (148, ag [iv r127.1, iv r127.2]), (149, iv r131), (150, iv r25), (151, .bool false), (152, .bool false), (153, .bool false), (154, iv v99), (155, .bool false), (156, .bool false), (157, undef), (158, undef), (159, undef), (160, undef), (161, undef), (162, undef), (163, undef), (164, undef), (165, undef), (166, undef), (167, undef), (168, undef), (169, undef), (170, undef), (171, undef), (172, undef), (173, undef), (174, undef), (175, undef), (176, undef), (177, undef), (178, undef), (179, undef), (180, undef), (181, undef), (182, undef), (183, undef), (184, undef)]) (H7_19 r1 r5 o123 r127) [] [])) 29 (by kernel_rfl) (by kernel_rfl) ?_
            refine QJ.done (by kernel_rfl) ⟨rfl, ?_⟩
            refine SJ.last (by kernel_rfl)
          exact hK
    | false =>
      replace hm141 := of_neg hm141 rfl
      have hm141 := Option.some.inj hm141
      subst hm141
      have hT : ∀ e ∈ ([⟨38, [ag [iv o123.1, iv o123.2]], (H7_19 r1 r5 o123 r127), .bool false, []⟩] : List Entry), PureSim Try.prog e.g e.args e.h e.v e.new := by
        intro e he
        simp only [List.mem_cons, List.not_mem_nil, or_false] at he
        rcases he with rfl
        · exact PureSim.anyK (C38 _ _ _ h130) (by kernel_rfl)
      refine TS.drawP [⟨38, [ag [iv o123.1, iv o123.2]], (H7_19 r1 r5 o123 r127), .bool false, []⟩] hT mixed (by kernel_rfl) 42 (by kernel_rfl) [3, 4, 8, 12, 13, 131, 132, 133, 189] [0, 1, 2] (a2 := (S7_21 r5 r25 o83 v99)) (h2 := (H7_29 r1 r5)) ?_ ?_
      · refine QJ.run (s1 := (qs (S7_14 r5 r25 o83 v99 o123) (H7_19 r1 r5 o123 r127) [] [])) 1 (by kernel_rfl) (by kernel_rfl) ?_
        refine QJ.op (q := { val := .bool false, new := [] }) (by decide) (qOf_call (g := 38) (args := [ag [iv o123.1, iv o123.2]]) (by kernel_rfl) lookC_hit) ?_
        refine QJ.run (s1 := (qs (st 198 [(3, pt 0 0), (4, pt 1 0), (8, accV 2 (List.length r5.1)), (12, iv r25), (13, iv o83), (17, iv v99), (18, pt 3 0), (19, pt 4 0), (131, accV 2 (List.length r5.1)), (132, iv (List.length r5.1 : Int)), (133, iv v99), (143, ag [iv o123.1, iv o123.2]), (144, .bool false), (145, .bool true), (146, .bool true), (147, undef), (148, undef), (149, undef), (150, undef), (151, undef), (152, .bool true), (153, .bool true), (154, undef), (155, undef), (156, undef), (157, undef), (158, undef), (159, undef), (160, undef), (161, undef), (162, undef), (163, undef), (164, undef), (165, undef), (166, undef), (167, undef), (168, undef), (169, undef), (170, undef), (171, undef), (172, undef), (173, undef), (174, undef), (175, undef), (176, undef), (177, undef), (178, undef), (179, undef), (180, undef), (181, undef), (182, undef), (183, undef), (184, undef)]) (H7_19 r1 r5 o123 r127) [] [])) 40 (by kernel_rfl) (by kernel_rfl) ?_
        refine QJ.done (by kernel_rfl) ⟨rfl, ?_⟩
        refine SJ.last (by kernel_rfl)
      exact hK
  · replace hF := of_neg hF hc121
    refine TS.exit' (id := 2) (by kernel_rfl) ?_
    refine NX.sqX ?_
    have hF := Option.some.inj hF
    subst hF
    exact Rd.out (e := .exit 2) (by intro h; cases h) (And.intro rfl (Wk.anew (base := 0) (L := 0) (f := [2]) (by decide) (by decide) (Nat.le_of_ble_eq_true rfl) rfl (.cons (At.acc (by kernel_rfl) rfl (fun _ => rfl)) (.nil _)) (LRn.stx [8, 13] [accV 0 (List.length r5.1), iv o83] [accV 2 (List.length r5.1), iv o83] (.cons (Rn.acc (Nat.le_of_ble_eq_true rfl) rfl) (.cons (.flat (by kernel_rfl)) .nil)) (by kernel_rfl) (by kernel_rfl) rfl) rfl rfl))
theorem B7 (p0 : Int) (p1 : Int) (p2 : Int) (p3 : Int) (p4 : Int) (p5 : Int) (r : Bool) (hF : F7 p0 p1 p2 p3 p4 p5 = some r) : TS Try.prog 0 0 c7 (st 198 [(0, ag [.int .i8 p0, .int .i8 p1, .int .i8 p2, .int .i8 p3, .int .i16 p4, .int .i16 p5])]) [] (NX Try.prog 0 0 [] (FinP Try.prog Try.f7 0 (V7 0 r) (N7 0 r))) := by
  unfold F7 at hF
  refine TS.seqP (by kernel_rfl) ?_
  refine TS.regionP (by kernel_rfl) ?_
  refine TI.run 2 [1] [0] (a2 := (st 198 [(1, pt 0 0)])) (h2 := [cl 77 [.int .i8 p0, .int .i8 p1, .int .i8 p2, .int .i8 p3, .int .i16 p4, .int .i16 p5]]) (by kernel_rfl) ?_
  refine TI.done (by kernel_rfl) ?_
  refine NX.sq ?_
  refine TS.seqP (by kernel_rfl) ?_
  have hX := of_do hF
  clear hF
  obtain ⟨r1, h2, hF⟩ := hX
  refine TS.regionP (by kernel_rfl) ?_
  refine TI.run 1 [21] [] (a2 := (st 198 [(21, ag [.int .i8 p0, .int .i8 p1, .int .i8 p2, .int .i8 p3, .int .i16 p4, .int .i16 p5])])) (h2 := [.dead]) (by kernel_rfl) ?_
  refine TI.callF (C36 _ _ _ _ _ _ _ h2) (by kernel_rfl) (by kernel_rfl) ?_
  refine TI.run 7 [3, 4] [1, 2] (a2 := (st 198 [(3, pt 1 0), (4, pt 2 0)])) (h2 := [.dead, cl 25 [iv r1.1.1.1, iv r1.1.1.2, iv r1.1.2.1, iv r1.1.2.2], cl 23 [iv r1.2.1, iv r1.2.2]]) (by kernel_rfl) ?_
  refine TI.done (by kernel_rfl) ?_
  refine NX.sq ?_
  refine TS.seqP (by kernel_rfl) ?_
  have hX := of_do hF
  clear hF
  obtain ⟨r3, h4, hF⟩ := hX
  refine TS.regionP (by kernel_rfl) ?_
  refine TI.runA 2 [3, 4, 26, 27] (a2 := (st 198 [(3, pt 1 0), (4, pt 2 0), (26, ag [iv r1.1.1.1, iv r1.1.1.2, iv r1.1.2.1, iv r1.1.2.2]), (27, ag [iv r1.2.1, iv r1.2.2])])) (by kernel_rfl) ?_
  refine TI.callF (C28 _ _ _ _ _ _ _ h4) (by kernel_rfl) (by kernel_rfl) ?_
  refine TI.run 9 [3, 4, 5, 6, 7] [1, 2, 3, 4] (a2 := (st 198 [(3, pt 1 0), (4, pt 2 0), (5, pt 3 0), (6, pt 4 0), (7, iv r3.2.2)])) (h2 := [.dead, cl 25 [iv r1.1.1.1, iv r1.1.1.2, iv r1.1.2.1, iv r1.1.2.2], cl 23 [iv r1.2.1, iv r1.2.2], cl 27 [iv r3.1.1, iv r3.1.2], cl 23 [iv r3.2.1.1, iv r3.2.1.2]]) (by kernel_rfl) ?_
  refine TI.done (by kernel_rfl) ?_
  refine NX.sq ?_
  refine TS.seqP (by kernel_rfl) ?_
  have hX := of_do hF
  clear hF
  obtain ⟨r5, h6, hF⟩ := hX
  refine TS.regionP (by kernel_rfl) ?_
  refine TI.runA 2 [3, 4, 5, 6, 7, 33, 34] (a2 := (st 198 [(3, pt 1 0), (4, pt 2 0), (5, pt 3 0), (6, pt 4 0), (7, iv r3.2.2), (33, ag [iv r1.1.1.1, iv r1.1.1.2, iv r1.1.2.1, iv r1.1.2.2]), (34, ag [iv r1.2.1, iv r1.2.2])])) (by kernel_rfl) ?_
  refine TI.callP (g := 30) (args := [ag [iv r1.1.1.1, iv r1.1.1.2, iv r1.1.2.1, iv r1.1.2.2], ag [iv r1.2.1, iv r1.2.2]]) (v := .tuple ⟨[accV 5 (List.length r5.1), iv r5.2]⟩) (new := [accB 27 (List.length r5.1) (List.flatMap e27 r5.1)]) (PureSim.ren (hc := []) (fun i => List.getD [] i (0, 0)) (C30 _ _ _ _ _ _ _ h6) (.nil _) (.cons (.flat (by kernel_rfl)) (.cons (.flat (by kernel_rfl)) .nil)) (Rn.tuple' (.cons (Rn.acc (i' := 5) (Nat.le_of_ble_eq_true rfl) rfl) (.cons (.flat (by kernel_rfl)) .nil))) (newflat_cons (accB_flat (fun _ => rfl)) newflat_nil)) (by kernel_rfl) ?_
  refine TI.run 5 [3, 4, 5, 6, 7, 8, 9] [1, 2, 3, 4, 5] (a2 := (st 198 [(3, pt 1 0), (4, pt 2 0), (5, pt 3 0), (6, pt 4 0), (7, iv r3.2.2), (8, accV 5 (List.length r5.1)), (9, iv r5.2)])) (h2 := [.dead, cl 25 [iv r1.1.1.1, iv r1.1.1.2, iv r1.1.2.1, iv r1.1.2.2], cl 23 [iv r1.2.1, iv r1.2.2], cl 27 [iv r3.1.1, iv r3.1.2], cl 23 [iv r3.2.1.1, iv r3.2.1.2], accB 27 (List.length r5.1) (List.flatMap e27 r5.1)]) (by kernel_rfl) ?_
  refine TI.done (by kernel_rfl) ?_
  refine NX.sq ?_
  refine TS.seqP (by kernel_rfl) ?_
  have hX := of_do hF
  clear hF
  obtain ⟨r7, h8, hF⟩ := hX
  refine TS.regionP (by kernel_rfl) ?_
  refine TI.runA 1 [3, 4, 5, 6, 7, 8, 9, 39] (a2 := (st 198 [(3, pt 1 0), (4, pt 2 0), (5, pt 3 0), (6, pt 4 0), (7, iv r3.2.2), (8, accV 5 (List.length r5.1)), (9, iv r5.2), (39, ag [iv r1.1.1.1, iv r1.1.1.2, iv r1.1.2.1, iv r1.1.2.2])])) (by kernel_rfl) ?_
  refine TI.callF (C37 _ _ _ _ _ h8) (by kernel_rfl) (by kernel_rfl) ?_
  refine TI.run 6 [3, 4, 5, 6, 7, 8, 9, 10, 11] [1, 2, 3, 4, 5, 6] (a2 := (st 198 [(3, pt 1 0), (4, pt 2 0), (5, pt 3 0), (6, pt 4 0), (7, iv r3.2.2), (8, accV 5 (List.length r5.1)), (9, iv r5.2), (10, pt 6 0), (11, .bool r7.2)])) (h2 := (H7_13 r1 r3 r5 r7)) (by kernel_rfl) ?_
  refine TI.done (by kernel_rfl) ?_
  refine NX.sq ?_
  refine TS.seqP (by kernel_rfl) ?_
  refine TS.seqP (by kernel_rfl) ?_
  have hX := of_do hF
  clear hF
  obtain ⟨m24, hm151, hF⟩ := hX
  have hK : NX Try.prog 0 0 [.sq c7.s2.s2.s2.s2.s2.s1.s2, .sq c7.s2.s2.s2.s2.s2.s2] (FinP Try.prog Try.f7 0 (V7 0 r) (N7 0 r)) .normal (st 198 [(3, pt 1 0), (4, pt 2 0), (6, pt 4 0), (8, accV 5 (List.length r5.1)), (10, pt 6 0), (83, .bool m24)]) (H7_15 r1 r3 r5 r7) := by
    refine NX.sq ?_
    cases m24 with
    | true =>
      replace hF := of_pos hF rfl
      refine TS.condTP (o := (.tmp 83)) (by kernel_rfl) (by kernel_rfl) ?_
      refine TS.seqP (by kernel_rfl) ?_
      refine TS.regionP (by kernel_rfl) ?_
      refine TI.run 1 [2] [] (a2 := (st 198 [(2, .bool false)])) (h2 := [.dead, .dead, .dead, .dead, .dead, .dead, .dead]) (by kernel_rfl) ?_
      refine TI.done (by kernel_rfl) ?_
      refine NX.sq ?_
      refine TS.ret' (by kernel_rfl) ?_
      refine NX.sqR ?_
      have hF := Option.some.inj hF
      subst hF
      exact ⟨.inr rfl, rfl, .bool false, by kernel_rfl, WkV.flat0 (by kernel_rfl) (Nat.le_of_ble_eq_true rfl)⟩
    | false =>
      replace hF := of_neg hF rfl
      refine TS.condFP (o := (.tmp 83)) (by kernel_rfl) (by kernel_rfl) ?_
      refine TS.skip' (by kernel_rfl) ?_
      refine NX.sq ?_
      refine TS.seqP (by kernel_rfl) ?_
      have hX := of_do hF
      clear hF
      obtain ⟨r25, h26, hF⟩ := hX
      refine TS.regionP (by kernel_rfl) ?_
      refine TI.run 2 [3, 4, 8, 10, 84, 85] [1, 2, 5, 6] (a2 := (st 198 [(3, pt 1 0), (4, pt 2 0), (8, accV 5 (List.length r5.1)), (10, pt 6 0), (84, ag [iv r3.2.1.1, iv r3.2.1.2]), (85, ag [iv r3.2.1.1, iv r3.2.1.2])])) (h2 := (H7_17 r1 r5 r7)) (by kernel_rfl) ?_
      refine TI.callF (C41 _ _ _ _ _ h26) (by kernel_rfl) (by kernel_rfl) ?_
      refine TI.runA 1 [3, 4, 8, 10, 12] (a2 := (st 198 [(3, pt 1 0), (4, pt 2 0), (8, accV 5 (List.length r5.1)), (10, pt 6 0), (12, iv r25)])) (by kernel_rfl) ?_
      refine TI.done (by kernel_rfl) ?_
      refine NX.sq ?_
      refine TS.seqP (by kernel_rfl) ?_
      refine TS.seqP (by kernel_rfl) ?_
      have hX := of_do hF
      clear hF
      obtain ⟨r27, h28, hF⟩ := hX
      have hX := of_do hF
      clear hF
      obtain ⟨r29, h30, hF⟩ := hX
      have hT : ∀ e ∈ ([⟨41, [ag [iv r7.1.1.1, iv r7.1.1.2], ag [iv r7.1.1.1, iv r7.1.1.2]], (H7_17 r1 r5 r7), iv r27, []⟩, ⟨41, [ag [iv r7.1.2.1, iv r7.1.2.2], ag [iv r7.1.2.1, iv r7.1.2.2]], (H7_17 r1 r5 r7), iv r29, []⟩] : List Entry), PureSim Try.prog e.g e.args e.h e.v e.new := by
        intro e he
        simp only [List.mem_cons, List.not_mem_nil, or_false] at he
        rcases he with rfl | rfl
        · exact PureSim.anyK (C41 _ _ _ _ _ h28) (by kernel_rfl)
        · exact PureSim.anyK (C41 _ _ _ _ _ h30) (by kernel_rfl)
      refine TS.drawP [⟨41, [ag [iv r7.1.1.1, iv r7.1.1.2], ag [iv r7.1.1.1, iv r7.1.1.2]], (H7_17 r1 r5 r7), iv r27, []⟩, ⟨41, [ag [iv r7.1.2.1, iv r7.1.2.2], ag [iv r7.1.2.1, iv r7.1.2.2]], (H7_17 r1 r5 r7), iv r29, []⟩] hT mixed (by kernel_rfl) 13 (by kernel_rfl) [3, 4, 8, 12, 100] [1, 2, 5] (a2 := (st 198 [(3, pt 1 0), (4, pt 2 0), (8, accV 5 (List.length r5.1)), (12, iv r25), (100, .bool (decide ((w64 (4 * r25)) > (w64 (r27 + r29)))))])) (h2 := (H7_28 r1 r5)) ?_ ?_
      · refine QJ.run (s1 := (qs (st 198 [(3, pt 1 0), (4, pt 2 0), (8, accV 5 (List.length r5.1)), (10, pt 6 0), (12, iv r25), (87, iv r25), (88, iv (w64 (4 * r25))), (89, pt 6 0), (90, ag [iv r7.1.1.1, iv r7.1.1.2]), (91, pt 6 0), (92, ag [iv r7.1.1.1, iv r7.1.1.2])]) (H7_17 r1 r5 r7) [] [])) 6 (by kernel_rfl) (by kernel_rfl) ?_
        refine QJ.op (q := { val := iv r27, new := [] }) (by decide) (qOf_call (g := 41) (args := [ag [iv r7.1.1.1, iv r7.1.1.2], ag [iv r7.1.1.1, iv r7.1.1.2]]) (by kernel_rfl) lookC_hit) ?_
        refine QJ.run (s1 := (qs (st 198 [(3, pt 1 0), (4, pt 2 0), (8, accV 5 (List.length r5.1)), (10, pt 6 0), (12, iv r25), (87, iv r25), (88, iv (w64 (4 * r25))), (89, pt 6 0), (90, ag [iv r7.1.1.1, iv r7.1.1.2]), (91, pt 6 0), (92, ag [iv r7.1.1.1, iv r7.1.1.2]), (93, iv r27), (94, pt 6 2), (95, ag [iv r7.1.2.1, iv r7.1.2.2]), (96, pt 6 2), (97, ag [iv r7.1.2.1, iv r7.1.2.2])]) (H7_17 r1 r5 r7) [] [])) 4 (by kernel_rfl) (by kernel_rfl) ?_
        refine QJ.op (q := { val := iv r29, new := [] }) (by decide) (qOf_call (g := 41) (args := [ag [iv r7.1.2.1, iv r7.1.2.2], ag [iv r7.1.2.1, iv r7.1.2.2]]) (by kernel_rfl) (lookC_skip (by intro _ ha _; have hr := Option.some.inj (h28.symm.trans (Eq.trans (congr (congr (congr (congrArg F41 (show r7.1.1.1 = r7.1.2.1 from congrArg (leafI 0) ha)) (show r7.1.1.2 = r7.1.2.2 from congrArg (leafI 1) ha)) (show r7.1.1.1 = r7.1.2.1 from congrArg (leafI 2) ha)) (show r7.1.1.2 = r7.1.2.2 from congrArg (leafI 3) ha)) h30)); first | (subst hr; rfl) | (cases hr; done) | (cases hr; rfl)) lookC_hit)) ?_
        refine QJ.run (s1 := (qs (st 198 [(3, pt 1 0), (4, pt 2 0), (8, accV 5 (List.length r5.1)), (10, pt 6 0), (12, iv r25), (87, iv r25), (88, iv (w64 (4 * r25))), (89, pt 6 0), (90, ag [iv r7.1.1.1, iv r7.1.1.2]), (91, pt 6 0), (92, ag [iv r7.1.1.1, iv r7.1.1.2]), (93, iv r27), (94, pt 6 2), (95, ag [iv r7.1.2.1, iv r7.1.2.2]), (96, pt 6 2), (97, ag [iv r7.1.2.1, iv r7.1.2.2]), (98, iv r29), (99, iv (w64 (r27 + r29)))]) (H7_17 r1 r5 r7) [] [])) 1 (by kernel_rfl) (by kernel_rfl) ?_
        refine QJ.done (by kernel_rfl) ⟨rfl, ?_⟩
        refine SJ.last (by kernel_rfl)
      refine TS.condP (o := (.tmp 100)) (b := decide ((w64 (4 * r25)) > (w64 (r27 + r29)))) (by kernel_rfl) (by kernel_rfl) (fun hc31 => ?_) (fun hc31 => ?_)
      · replace hF := of_pos hF hc31
        refine TS.seqP (by kernel_rfl) ?_
        refine TS.regionP (by kernel_rfl) ?_
        refine TI.run 1 [2] [] (a2 := (st 198 [(2, .bool false)])) (h2 := [.dead, .dead, .dead, .dead, .dead, .dead, .dead]) (by kernel_rfl) ?_
        refine TI.done (by kernel_rfl) ?_
        refine NX.sq ?_
        refine TS.ret' (by kernel_rfl) ?_
        refine NX.sqR ?_
        have hF := Option.some.inj hF
        subst hF
        exact ⟨.inr rfl, rfl, .bool false, by kernel_rfl, WkV.flat0 (by kernel_rfl) (Nat.le_of_ble_eq_true rfl)⟩
      · replace hF := of_neg hF hc31
        refine TS.skip' (by kernel_rfl) ?_
        refine NX.sq ?_
        refine TS.seqP (by kernel_rfl) ?_
        refine TS.regionP (by kernel_rfl) ?_
        refine TI.runA 1 [3, 4, 8, 12, 13] (a2 := (st 198 [(3, pt 1 0), (4, pt 2 0), (8, accV 5 (List.length r5.1)), (12, iv r25), (13, iv 0)])) (by kernel_rfl) ?_
        refine TI.done (by kernel_rfl) ?_
        refine NX.sq ?_
        refine TS.seqP (by kernel_rfl) ?_
        refine TS.seqP (by kernel_rfl) ?_
        have hX := of_do hF
        clear hF
        obtain ⟨r32, h33, hF⟩ := hX
        have hX := of_do hF
        clear hF
        obtain ⟨r34, h35, hF⟩ := hX
        have hT : ∀ e ∈ ([⟨43, [iv (w64 (0 - r1.2.1)), iv (w64 (0 - r1.2.2))], (H7_28 r1 r5), ag [iv r32.1, iv r32.2], []⟩, ⟨42, [ag [iv r1.1.1.1, iv r1.1.1.2, iv r1.1.2.1, iv r1.1.2.2], ag [iv r32.1, iv r32.2], iv 12], (H7_28 r1 r5), accV 7 (List.length r34), [accB 23 (List.length r34) (List.flatMap e23 r34)]⟩] : List Entry), PureSim Try.prog e.g e.args e.h e.v e.new := by
          intro e he
          simp only [List.mem_cons, List.not_mem_nil, or_false] at he
          rcases he with rfl | rfl
          · exact PureSim.anyK (C43 _ _ _ h33) (by kernel_rfl)
          · exact (PureSim.ren (hc := []) (fun i => List.getD [] i (0, 0)) (C42 _ _ _ _ _ _ _ _ h35) (.nil _) (.cons (.flat (by kernel_rfl)) (.cons (.flat (by kernel_rfl)) (.cons (.flat (by kernel_rfl)) .nil))) (Rn.acc (i' := 7) (Nat.le_of_ble_eq_true rfl) rfl) (newflat_cons (accB_flat (fun _ => rfl)) newflat_nil))
        refine TS.drawP [⟨43, [iv (w64 (0 - r1.2.1)), iv (w64 (0 - r1.2.2))], (H7_28 r1 r5), ag [iv r32.1, iv r32.2], []⟩, ⟨42, [ag [iv r1.1.1.1, iv r1.1.1.2, iv r1.1.2.1, iv r1.1.2.2], ag [iv r32.1, iv r32.2], iv 12], (H7_28 r1 r5), accV 7 (List.length r34), [accB 23 (List.length r34) (List.flatMap e23 r34)]⟩] hT mixed (by kernel_rfl) 11 (by kernel_rfl) [3, 4, 8, 12, 13, 109, 110, 111] [1, 2, 5, 7] (a2 := (st 198 [(3, pt 1 0), (4, pt 2 0), (8, accV 5 (List.length r5.1)), (12, iv r25), (13, iv 0), (109, accV 7 (List.length r34)), (110, iv (List.length r34 : Int)), (111, iv 0)])) (h2 := (H7_18 r1 r5 r34)) ?_ ?_
        · refine QJ.run (s1 := (qs (st 198 [(3, pt 1 0), (4, pt 2 0), (8, accV 5 (List.length r5.1)), (12, iv r25), (13, iv 0), (101, ag [iv r1.1.1.1, iv r1.1.1.2, iv r1.1.2.1, iv r1.1.2.2]), (102, pt 2 0), (103, iv r1.2.1), (104, iv (w64 (0 - r1.2.1))), (105, pt 2 1), (106, iv r1.2.2), (107, iv (w64 (0 - r1.2.2)))]) (H7_28 r1 r5) [] [])) 7 (by kernel_rfl) (by kernel_rfl) ?_
          refine QJ.op (q := { val := ag [iv r32.1, iv r32.2], new := [] }) (by decide) (qOf_call (g := 43) (args := [iv (w64 (0 - r1.2.1)), iv (w64 (0 - r1.2.2))]) (by kernel_rfl) lookC_hit) ?_
          refine QJ.op (q := { val := accV 7 (List.length r34), new := [accB 23 (List.length r34) (List.flatMap e23 r34)] }) (by decide) (qOf_call (g := 42) (args := [ag [iv r1.1.1.1, iv r1.1.1.2, iv r1.1.2.1, iv r1.1.2.2], ag [iv r32.1, iv r32.2], iv 12]) (by kernel_rfl) (lookC_skip (fun hg => absurd (show (43 : Nat) = 42 from hg) (by decide)) lookC_hit)) ?_
          refine QJ.run (s1 := (qs (st 198 [(3, pt 1 0), (4, pt 2 0), (8, accV 5 (List.length r5.1)), (12, iv r25), (13, iv 0), (101, ag [iv r1.1.1.1, iv r1.1.1.2, iv r1.1.2.1, iv r1.1.2.2]), (102, pt 2 0), (103, iv r1.2.1), (104, iv (w64 (0 - r1.2.1))), (105, pt 2 1), (106, iv r1.2.2), (107, iv (w64 (0 - r1.2.2))), (108, ag [iv r32.1, iv r32.2]), (109, accV 7 (List.length r34)), (110, iv (List.length r34 : Int)), (111, iv 0)]) (H7_18 r1 r5 r34) [(8, 7, 8)] [])) 2 (by kernel_rfl) (by kernel_rfl) ?_
          refine QJ.done (by kernel_rfl) ⟨rfl, ?_⟩
          exact SJ.done (by kernel_rfl) (by kernel_rfl)
        refine TS.blockP (id := 0) (by kernel_rfl) ?_
        have hX := of_do hF
        clear hF
        obtain ⟨r80, h81, hF⟩ := hX
        refine TS.loopP (by kernel_rfl) (TL.weak (a2 := (st 198 [(3, pt 0 0), (4, pt 1 0), (8, accV 2 (List.length r5.1)), (12, iv r25), (13, iv 0), (109, accV 3 (List.length r34)), (110, iv (List.length r34 : Int)), (111, iv 0)])) (h2 := (H7_22 r1 r5 r34)) (Wk.anew (base := 0) (L := 0) (f := [1, 2, 5, 7]) (by decide) (by decide) (Nat.le_of_ble_eq_true rfl) rfl (.cons (At.blk (by kernel_rfl) (RnB.lit (.cons (.flat (by kernel_rfl)) (.cons (.flat (by kernel_rfl)) (.cons (.flat (by kernel_rfl)) (.cons (.flat (by kernel_rfl)) .nil)))))) (.cons (At.blk (by kernel_rfl) (RnB.lit (.cons (.flat (by kernel_rfl)) (.cons (.flat (by kernel_rfl)) .nil)))) (.cons (At.acc (by kernel_rfl) rfl (fun _ => rfl)) (.cons (At.acc (by kernel_rfl) rfl (fun _ => rfl)) (.nil _))))) (LRn.stx [3, 4, 8, 12, 13, 109, 110, 111] [pt 0 0, pt 1 0, accV 2 (List.length r5.1), iv r25, iv 0, accV 3 (List.length r34), iv (List.length r34 : Int), iv 0] [pt 1 0, pt 2 0, accV 5 (List.length r5.1), iv r25, iv 0, accV 7 (List.length r34), iv (List.length r34 : Int), iv 0] (.cons (Rn.ptr _ _ _ (Nat.le_of_ble_eq_true rfl) rfl) (.cons (Rn.ptr _ _ _ (Nat.le_of_ble_eq_true rfl) rfl) (.cons (Rn.acc (Nat.le_of_ble_eq_true rfl) rfl) (.cons (.flat (by kernel_rfl)) (.cons (.flat (by kernel_rfl)) (.cons (Rn.acc (Nat.le_of_ble_eq_true rfl) rfl) (.cons (.flat (by kernel_rfl)) (.cons (.flat (by kernel_rfl)) .nil)))))))) (by kernel_rfl) (by kernel_rfl) rfl) rfl rfl) (TL.post (L7l0 r1 r5 r25 r34 0 0 r80 h81) ?_))
        rintro e a1 h1 hp
        rcases r80 with o82 | o83
        · skip
          obtain ⟨rfl, hw⟩ := hp
          refine ⟨(st 198 [(2, .bool false)]), [], ?_, hw⟩
          refine NX.bkR ?_
          refine NX.sqR ?_
          have hF := Option.some.inj hF
          subst hF
          exact ⟨.inr rfl, rfl, .bool false, by kernel_rfl, WkV.flat0 (by kernel_rfl) (Nat.le_of_ble_eq_true rfl)⟩
        · skip
          obtain ⟨rfl, hw⟩ := hp
          refine ⟨(st 198 [(3, pt 0 0), (4, pt 1 0), (8, accV 2 (List.length r5.1)), (12, iv r25), (13, iv o83)]), (H7_30 r1 r5), ?_, hw⟩
          refine NX.bkX ?_
          refine NX.sq ?_
          refine TS.seqP (by kernel_rfl) ?_
          refine TS.seqP (by kernel_rfl) ?_
          refine TS.regionP (by kernel_rfl) ?_
          refine TI.runA 3 [3, 4, 8, 12, 13, 131, 132, 133] (a2 := (S7_25 r5 r25 o83)) (by kernel_rfl) ?_
          refine TI.done (by kernel_rfl) ?_
          refine NX.sq ?_
          refine TS.blockP (id := 2) (by kernel_rfl) ?_
          have hX := of_do hF
          clear hF
          obtain ⟨r142, h143, hF⟩ := hX
          refine TS.loopP (by kernel_rfl) (TL.weak (a2 := (S7_25 r5 r25 o83)) (h2 := (H7_30 r1 r5)) (Wk.anew (base := 0) (L := 0) (f := [0, 1, 2]) (by decide) (by decide) (Nat.le_of_ble_eq_true rfl) rfl (.cons (At.blk (by kernel_rfl) (RnB.lit (.cons (.flat (by kernel_rfl)) (.cons (.flat (by kernel_rfl)) (.cons (.flat (by kernel_rfl)) (.cons (.flat (by kernel_rfl)) .nil)))))) (.cons (At.blk (by kernel_rfl) (RnB.lit (.cons (.flat (by kernel_rfl)) (.cons (.flat (by kernel_rfl)) .nil)))) (.cons (At.acc (by kernel_rfl) rfl (fun _ => rfl)) (.nil _)))) (LRn.stx [3, 4, 8, 12, 13, 131, 132, 133] [pt 0 0, pt 1 0, accV 2 (List.length r5.1), iv r25, iv o83, accV 2 (List.length r5.1), iv (List.length r5.1 : Int), iv 0] [pt 0 0, pt 1 0, accV 2 (List.length r5.1), iv r25, iv o83, accV 2 (List.length r5.1), iv (List.length r5.1 : Int), iv 0] (.cons (Rn.ptr _ _ _ (Nat.le_of_ble_eq_true rfl) rfl) (.cons (Rn.ptr _ _ _ (Nat.le_of_ble_eq_true rfl) rfl) (.cons (Rn.acc (Nat.le_of_ble_eq_true rfl) rfl) (.cons (.flat (by kernel_rfl)) (.cons (.flat (by kernel_rfl)) (.cons (Rn.acc (Nat.le_of_ble_eq_true rfl) rfl) (.cons (.flat (by kernel_rfl)) (.cons (.flat (by kernel_rfl)) .nil)))))))) (by kernel_rfl) (by kernel_rfl) rfl) rfl rfl) (TL.post (L7l1 o83 r1 r5 r25 0 r142 h143) ?_))
          rintro e a1 h1 hp
          rcases r142 with o144 | o145
          · skip
            obtain ⟨rfl, hw⟩ := hp
            refine ⟨(st 198 [(2, .bool false)]), [], ?_, hw⟩
            refine NX.bkR ?_
            refine NX.sqR ?_
            have hF := Option.some.inj hF
            subst hF
            exact ⟨.inr rfl, rfl, .bool false, by kernel_rfl, WkV.flat0 (by kernel_rfl) (Nat.le_of_ble_eq_true rfl)⟩
          · skip
            obtain ⟨rfl, hw⟩ := hp
            refine ⟨(st 198 [(8, accV 0 (List.length r5.1)), (13, iv o83)]), [accB 27 (List.length r5.1) (List.flatMap e27 r5.1)], ?_, hw⟩
            refine NX.bkX ?_
            refine NX.sq ?_
            refine TS.seqP (by kernel_rfl) ?_
            have hX := of_do hF
            clear hF
            obtain ⟨m149, hm150, hF⟩ := hX
            have hK : NX Try.prog 0 0 [.sq c7.s2.s2.s2.s2.s2.s2.s2.s2.s2.s2.s2.s2] (FinP Try.prog Try.f7 0 (V7 0 r) (N7 0 r)) .normal (st 198 [(2, .bool m149)]) [.dead] := by
              refine NX.sq ?_
              refine TS.ret' (by kernel_rfl) ?_
              have hF := Option.some.inj hF
              subst hF
              exact ⟨.inr rfl, rfl, .bool m149, by kernel_rfl, WkV.flat0 (by kernel_rfl) (Nat.le_of_ble_eq_true rfl)⟩
            rcases Bool.eq_false_or_eq_true (o83 == (List.length r5.1 : Int)) with hc146 | hc146
            · replace hm150 := of_pos hm150 hc146
              have hX := of_do hm150
              clear hm150
              obtain ⟨r147, h148, hm150⟩ := hX
              have hm150 := Option.some.inj hm150
              subst hm150
              refine TS.regionP (by kernel_rfl) ?_
              refine TI.run 3 [191, 193] [] (a2 := (st 198 [(191, iv o83), (193, iv (List.length r5.1 : Int))])) (h2 := [.dead]) (by kernel_rfl) ?_
              refine TI.op (q := { val := .bool true }) (q_conv (e := o83 == (List.length r5.1 : Int)) (b := true) (by kernel_rfl) hc146) [194] [] (a2 := (st 198 [(194, .bool true)])) (h2 := [.dead]) (by kernel_rfl) ?_
              refine TI.runA 1 [195] (a2 := (st 198 [(195, .bool true)])) (by kernel_rfl) ?_
              refine TI.callF (C22 _ h148) (by kernel_rfl) (by kernel_rfl) ?_
              refine TI.runA 2 [2] (a2 := (st 198 [(2, .bool r147)])) (by kernel_rfl) ?_
              refine TI.done (by kernel_rfl) ?_
              exact hK
            · replace hm150 := of_neg hm150 hc146
              have hm150 := Option.some.inj hm150
              subst hm150
              refine TS.regionP (by kernel_rfl) ?_
              refine TI.run 3 [191, 193] [] (a2 := (st 198 [(191, iv o83), (193, iv (List.length r5.1 : Int))])) (h2 := [.dead]) (by kernel_rfl) ?_
              refine TI.op (q := { val := .bool false }) (q_conv (e := o83 == (List.length r5.1 : Int)) (b := false) (by kernel_rfl) hc146) [194] [] (a2 := (st 198 [(194, .bool false)])) (h2 := [.dead]) (by kernel_rfl) ?_
              refine TI.runA 4 [2] (a2 := (st 198 [(2, .bool false)])) (by kernel_rfl) ?_
              refine TI.done (by kernel_rfl) ?_
              exact hK
  rcases Bool.eq_false_or_eq_true (r3.2.2 != 0) with hc9 | hc9
  · replace hm151 := of_pos hm151 hc9
    have hm151 := Option.some.inj hm151
    subst hm151
    refine TS.drawP [] (fun e he => by cases he) mixed (by kernel_rfl) 39 (by kernel_rfl) [3, 4, 6, 8, 10, 83] [1, 2, 4, 5, 6] (a2 := (S7_31 r5)) (h2 := (H7_15 r1 r3 r5 r7)) ?_ ?_
    · refine QJ.run (s1 := (qs (S7_27 r3 r5 r7) (H7_13 r1 r3 r5 r7) [] [])) 1 (by kernel_rfl) (by kernel_rfl) ?_
      refine QJ.op (q := { val := .bool true }) (by decide) (q_conv (e := r3.2.2 != 0) (b := true) (by kernel_rfl) hc9) ?_
      refine QJ.run (s1 := (qs (st 198 [(3, pt 1 0), (4, pt 2 0), (5, pt 3 0), (6, pt 4 0), (7, iv r3.2.2), (8, accV 5 (List.length r5.1)), (9, iv r5.2), (10, pt 6 0), (11, .bool r7.2), (43, iv r3.2.2), (44, .bool true), (45, .bool true), (46, undef), (47, undef), (48, .bool true), (49, .bool true), (50, undef), (51, undef), (52, .bool true), (53, .bool true), (54, undef), (55, undef), (56, undef), (57, .bool true), (58, .bool true), (59, undef), (60, undef), (61, undef), (62, .bool true), (63, .bool true), (64, undef), (65, undef), (66, undef), (67, .bool true), (68, .bool true), (69, undef), (70, undef), (71, undef), (72, undef), (73, undef), (74, .bool true), (75, .bool true), (76, undef), (77, undef), (78, undef), (79, undef), (80, undef), (81, undef)]) (H7_13 r1 r3 r5 r7) [] [])) 37 (by kernel_rfl) (by kernel_rfl) ?_
      refine QJ.done (by kernel_rfl) ⟨rfl, ?_⟩
      refine SJ.last (by kernel_rfl)
    exact hK
  · replace hm151 := of_neg hm151 hc9
    rcases Bool.eq_false_or_eq_true (r5.2 != 0) with hc10 | hc10
    · replace hm151 := of_pos hm151 hc10
      have hm151 := Option.some.inj hm151
      subst hm151
      refine TS.drawP [] (fun e he => by cases he) mixed (by kernel_rfl) 39 (by kernel_rfl) [3, 4, 6, 8, 10, 83] [1, 2, 4, 5, 6] (a2 := (S7_31 r5)) (h2 := (H7_15 r1 r3 r5 r7)) ?_ ?_
      · refine QJ.run (s1 := (qs (S7_27 r3 r5 r7) (H7_13 r1 r3 r5 r7) [] [])) 1 (by kernel_rfl) (by kernel_rfl) ?_
        refine QJ.op (q := { val := .bool false }) (by decide) (q_conv (e := r3.2.2 != 0) (b := false) (by kernel_rfl) hc9) ?_
        refine QJ.run (s1 := (qs (S7_16 r3 r5 r7) (H7_13 r1 r3 r5 r7) [] [])) 2 (by kernel_rfl) (by kernel_rfl) ?_
        refine QJ.op (q := { val := .bool true }) (by decide) (q_conv (e := r5.2 != 0) (b := true) (by kernel_rfl) hc10) ?_
        refine QJ.run (s1 := (qs (st 198 [(3, pt 1 0), (4, pt 2 0), (5, pt 3 0), (6, pt 4 0), (7, iv r3.2.2), (8, accV 5 (List.length r5.1)), (9, iv r5.2), (10, pt 6 0), (11, .bool r7.2), (43, iv r3.2.2), (44, .bool false), (45, .bool false), (46, iv r5.2), (47, .bool true), (48, .bool true), (49, .bool true), (50, undef), (51, undef), (52, .bool true), (53, .bool true), (54, undef), (55, undef), (56, undef), (57, .bool true), (58, .bool true), (59, undef), (60, undef), (61, undef), (62, .bool true), (63, .bool true), (64, undef), (65, undef), (66, undef), (67, .bool true), (68, .bool true), (69, undef), (70, undef), (71, undef), (72, undef), (73, undef), (74, .bool true), (75, .bool true), (76, undef), (77, undef), (78, undef), (79, undef), (80, undef), (81, undef)]) (H7_13 r1 r3 r5 r7) [] [])) 34 (by kernel_rfl) (by kernel_rfl) ?_
        refine QJ.done (by kernel_rfl) ⟨rfl, ?_⟩
        refine SJ.last (by kernel_rfl)
      exact hK
    · replace hm151 := of_neg hm151 hc10
      rcases Bool.eq_false_or_eq_true (r7.2) with hc11 | hc11
      · replace hm151 := of_pos hm151 hc11
        rcases Bool.eq_false_or_eq_true (decide ((List.length r5.1 : Int) < 1)) with hc12 | hc12
        · replace hm151 := of_pos hm151 hc12
          have hm151 := Option.some.inj hm151
          subst hm151
          refine TS.drawP [] (fun e he => by cases he) mixed (by kernel_rfl) 39 (by kernel_rfl) [3, 4, 6, 8, 10, 83] [1, 2, 4, 5, 6] (a2 := (S7_31 r5)) (h2 := (H7_15 r1 r3 r5 r7)) ?_ ?_
          · refine QJ.run (s1 := (qs (S7_27 r3 r5 r7) (H7_13 r1 r3 r5 r7) [] [])) 1 (by kernel_rfl) (by kernel_rfl) ?_
            refine QJ.op (q := { val := .bool false }) (by decide) (q_conv (e := r3.2.2 != 0) (b := false) (by kernel_rfl) hc9) ?_
            refine QJ.run (s1 := (qs (S7_16 r3 r5 r7) (H7_13 r1 r3 r5 r7) [] [])) 2 (by kernel_rfl) (by kernel_rfl) ?_
            refine QJ.op (q := { val := .bool false }) (by decide) (q_conv (e := r5.2 != 0) (b := false) (by kernel_rfl) hc10) ?_
            refine QJ.run (s1 := (qs (S7_12 r3 r5 r7) (H7_13 r1 r3 r5 r7) [] [])) 2 (by kernel_rfl) (by kernel_rfl) ?_
            refine QJ.op (q := { val := .bool true }) (by decide) (q_conv (e := r7.2) (b := true) (by kernel_rfl) hc11) ?_
            refine QJ.run (s1 := (qs (S7_9 r3 r5 r7) (H7_13 r1 r3 r5 r7) [] [])) 5 (by kernel_rfl) (by kernel_rfl) ?_
            refine QJ.op (q := { val := .bool true }) (by decide) (q_conv (e := decide ((List.length r5.1 : Int) < 1)) (b := true) (by kernel_rfl) hc12) ?_
            refine QJ.run (s1 := (qs (st 198 [(3, pt 1 0), (4, pt 2 0), (5, pt 3 0), (6, pt 4 0), (7, iv r3.2.2), (8, accV 5 (List.length r5.1)), (9, iv r5.2), (10, pt 6 0), (11, .bool r7.2), (43, iv r3.2.2), (44, .bool false), (45, .bool false), (46, iv r5.2), (47, .bool false), (48, .bool false), (49, .bool false), (50, .bool true), (51, .bool false), (52, .bool false), (53, .bool false), (54, accV 5 (List.length r5.1)), (55, iv (List.length r5.1 : Int)), (56, .bool true), (57, .bool true), (58, .bool true), (59, undef), (60, undef), (61, undef), (62, .bool true), (63, .bool true), (64, undef), (65, undef), (66, undef), (67, .bool true), (68, .bool true), (69, undef), (70, undef), (71, undef), (72, undef), (73, undef), (74, .bool true), (75, .bool true), (76, undef), (77, undef), (78, undef), (79, undef), (80, undef), (81, undef)]) (H7_13 r1 r3 r5 r7) [] [])) 25 (by kernel_rfl) (by kernel_rfl) ?_
            refine QJ.done (by kernel_rfl) ⟨rfl, ?_⟩
            refine SJ.last (by kernel_rfl)
          exact hK
        · replace hm151 := of_neg hm151 hc12
          rcases Bool.eq_false_or_eq_true (decide ((List.length r5.1 : Int) > 4)) with hc13 | hc13
          · replace hm151 := of_pos hm151 hc13
            have hm151 := Option.some.inj hm151
            subst hm151
            refine TS.drawP [] (fun e he => by cases he) mixed (by kernel_rfl) 39 (by kernel_rfl) [3, 4, 6, 8, 10, 83] [1, 2, 4, 5, 6] (a2 := (S7_31 r5)) (h2 := (H7_15 r1 r3 r5 r7)) ?_ ?_
            · refine QJ.run (s1 := (qs (S7_27 r3 r5 r7) (H7_13 r1 r3 r5 r7) [] [])) 1 (by kernel_rfl) (by kernel_rfl) ?_
              refine QJ.op (q := { val := .bool false }) (by decide) (q_conv (e := r3.2.2 != 0) (b := false) (by kernel_rfl) hc9) ?_
              refine QJ.run (s1 := (qs (S7_16 r3 r5 r7) (H7_13 r1 r3 r5 r7) [] [])) 2 (by kernel_rfl) (by kernel_rfl) ?_
              refine QJ.op (q := { val := .bool false }) (by decide) (q_conv (e := r5.2 != 0) (b := false) (by kernel_rfl) hc10) ?_
              refine QJ.run (s1 := (qs (S7_12 r3 r5 r7) (H7_13 r1 r3 r5 r7) [] [])) 2 (by kernel_rfl) (by kernel_rfl) ?_
              refine QJ.op (q := { val := .bool true }) (by decide) (q_conv (e := r7.2) (b := true) (by kernel_rfl) hc11) ?_
              refine QJ.run (s1 := (qs (S7_9 r3 r5 r7) (H7_13 r1 r3 r5 r7) [] [])) 5 (by kernel_rfl) (by kernel_rfl) ?_
              refine QJ.op (q := { val := .bool false }) (by decide) (q_conv (e := decide ((List.length r5.1 : Int) < 1)) (b := false) (by kernel_rfl) hc12) ?_
              refine QJ.run (s1 := (qs (S7_7 r3 r5 r7) (H7_13 r1 r3 r5 r7) [] [])) 4 (by kernel_rfl) (by kernel_rfl) ?_
              refine QJ.op (q := { val := .bool true }) (by decide) (q_conv (e := decide ((List.length r5.1 : Int) > 4)) (b := true) (by kernel_rfl) hc13) ?_
              refine QJ.run (s1 := (qs (st 198 [(3, pt 1 0), (4, pt 2 0), (5, pt 3 0), (6, pt 4 0), (7, iv r3.2.2), (8, accV 5 (List.length r5.1)), (9, iv r5.2), (10, pt 6 0), (11, .bool r7.2), (43, iv r3.2.2), (44, .bool false), (45, .bool false), (46, iv r5.2), (47, .bool false), (48, .bool false), (49, .bool false), (50, .bool true), (51, .bool false), (52, .bool false), (53, .bool false), (54, accV 5 (List.length r5.1)), (55, iv (List.length r5.1 : Int)), (56, .bool false), (57, .bool false), (58, .bool false), (59, accV 5 (List.length r5.1)), (60, iv (List.length r5.1 : Int)), (61, .bool true), (62, .bool true), (63, .bool true), (64, undef), (65, undef), (66, undef), (67, .bool true), (68, .bool true), (69, undef), (70, undef), (71, undef), (72, undef), (73, undef), (74, .bool true), (75, .bool true), (76, undef), (77, undef), (78, undef), (79, undef), (80, undef), (81, undef)]) (H7_13 r1 r3 r5 r7) [] [])) 20 (by kernel_rfl) (by kernel_rfl) ?_
              refine QJ.done (by kernel_rfl) ⟨rfl, ?_⟩
              refine SJ.last (by kernel_rfl)
            exact hK
          · replace hm151 := of_neg hm151 hc13
            have hX := of_do hm151
            clear hm151
            obtain ⟨r14, h15, hm151⟩ := hX
            cases r14 with
            | true =>
              replace hm151 := of_pos hm151 rfl
              have hX := of_guard hm151
              clear hm151
              obtain ⟨hg16, hm151⟩ := hX
              have hX := of_do hm151
              clear hm151
              obtain ⟨o17, h18, hm151⟩ := hX
              replace h18 := Option.some.inj h18
              rcases Bool.eq_false_or_eq_true (!((o17.1 == r3.1.1) && ((o17.2 == r3.1.2) && true))) with hc19 | hc19
              · replace hm151 := of_pos hm151 hc19
                have hm151 := Option.some.inj hm151
                subst hm151
                have hT : ∀ e ∈ ([⟨38, [ag [iv r3.1.1, iv r3.1.2]], (H7_13 r1 r3 r5 r7), .bool true, []⟩] : List Entry), PureSim Try.prog e.g e.args e.h e.v e.new := by
                  intro e he
                  simp only [List.mem_cons, List.not_mem_nil, or_false] at he
                  rcases he with rfl
                  · exact PureSim.anyK (C38 _ _ _ h15) (by kernel_rfl)
                refine TS.drawP [⟨38, [ag [iv r3.1.1, iv r3.1.2]], (H7_13 r1 r3 r5 r7), .bool true, []⟩] hT mixed (by kernel_rfl) 39 (by kernel_rfl) [3, 4, 6, 8, 10, 83] [1, 2, 4, 5, 6] (a2 := (S7_31 r5)) (h2 := (H7_15 r1 r3 r5 r7)) ?_ ?_
                · refine QJ.run (s1 := (qs (S7_27 r3 r5 r7) (H7_13 r1 r3 r5 r7) [] [])) 1 (by kernel_rfl) (by kernel_rfl) ?_
                  refine QJ.op (q := { val := .bool false }) (by decide) (q_conv (e := r3.2.2 != 0) (b := false) (by kernel_rfl) hc9) ?_
                  refine QJ.run (s1 := (qs (S7_16 r3 r5 r7) (H7_13 r1 r3 r5 r7) [] [])) 2 (by kernel_rfl) (by kernel_rfl) ?_
                  refine QJ.op (q := { val := .bool false }) (by decide) (q_conv (e := r5.2 != 0) (b := false) (by kernel_rfl) hc10) ?_
                  refine QJ.run (s1 := (qs (S7_12 r3 r5 r7) (H7_13 r1 r3 r5 r7) [] [])) 2 (by kernel_rfl) (by kernel_rfl) ?_
                  refine QJ.op (q := { val := .bool true }) (by decide) (q_conv (e := r7.2) (b := true) (by kernel_rfl) hc11) ?_
                  refine QJ.run (s1 := (qs (S7_9 r3 r5 r7) (H7_13 r1 r3 r5 r7) [] [])) 5 (by kernel_rfl) (by kernel_rfl) ?_
                  refine QJ.op (q := { val := .bool false }) (by decide) (q_conv (e := decide ((List.length r5.1 : Int) < 1)) (b := false) (by kernel_rfl) hc12) ?_
                  refine QJ.run (s1 := (qs (S7_7 r3 r5 r7) (H7_13 r1 r3 r5 r7) [] [])) 4 (by kernel_rfl) (by kernel_rfl) ?_
                  refine QJ.op (q := { val := .bool false }) (by decide) (q_conv (e := decide ((List.length r5.1 : Int) > 4)) (b := false) (by kernel_rfl) hc13) ?_
                  refine QJ.run (s1 := (qs (S7_5 r3 r5 r7) (H7_13 r1 r3 r5 r7) [] [])) 3 (by kernel_rfl) (by kernel_rfl) ?_
                  refine QJ.op (q := { val := .bool true, new := [] }) (by decide) (qOf_call (g := 38) (args := [ag [iv r3.1.1, iv r3.1.2]]) (by kernel_rfl) lookC_hit) ?_
                  refine QJ.run (s1 := (qs (S7_4 r3 r5 r7) (H7_13 r1 r3 r5 r7) [] [])) 4 (by kernel_rfl) (by kernel_rfl) ?_
                  refine QJ.op (q := { val := .pointer (some ⟨5, 0 + (Int.toNat 0) * 2, none⟩) }) (by decide) (q_ixAcc (P := Try.prog) (t := 60) (s := 2) (e := 27) 5 (List.length r5.1) (by kernel_rfl) hg16 (by kernel_rfl) (by kernel_rfl)) ?_
                  refine QJ.op (q := { val := ag [iv o17.1, iv o17.2] }) (by decide) (q_eqv (q_ldA (P := Try.prog) (hp := (H7_13 r1 r3 r5 r7)) (t := 27) (b := 5) (off := 0 + (Int.toNat 0) * 2) (l := r5.1) (enc := e27) (s := 2) (T := 27) (i := Int.toNat 0) (by kernel_rfl) (accB_at (h := (H7_13 r1 r3 r5 r7)) (n := List.length r5.1) (i := Int.toNat 0) (by kernel_rfl) (by first | omega | (simp only [List.length_set, List.length_replicate, List.length_cons, List.length_nil, List.length_append]; omega))) (by kernel_rfl) (by kernel_rfl) (fun _ => rfl) (by omega) (by first | omega | (simp only [List.length_set, List.length_replicate, List.length_cons, List.length_nil, List.length_append]; omega)) (0, 0)) (congrArg (fun (z : (Int × Int)) => ({ val := ag [iv z.1, iv z.2] } : QRes)) h18)) ?_
                  refine QJ.run (s1 := (qs (S7_2 r3 r5 r7 o17) (H7_13 r1 r3 r5 r7) [] [])) 1 (by kernel_rfl) (by kernel_rfl) ?_
                  refine QJ.op (q := { val := .bool true }) (by decide) (q_conv (e := !((o17.1 == r3.1.1) && ((o17.2 == r3.1.2) && true))) (b := true) (by kernel_rfl) hc19) ?_
                  refine QJ.run (s1 := (qs (st 198 [(3, pt 1 0), (4, pt 2 0), (5, pt 3 0), (6, pt 4 0), (7, iv r3.2.2), (8, accV 5 (List.length r5.1)), (9, iv r5.2), (10, pt 6 0), (11, .bool r7.2), (43, iv r3.2.2), (44, .bool false), (45, .bool false), (46, iv r5.2), (47, .bool false), (48, .bool false), (49, .bool false), (50, .bool true), (51, .bool false), (52, .bool false), (53, .bool false), (54, accV 5 (List.length r5.1)), (55, iv (List.length r5.1 : Int)), (56, .bool false), (57, .bool false), (58, .bool false), (59, accV 5 (List.length r5.1)), (60, iv (List.length r5.1 : Int)), (61, .bool false), (62, .bool false), (63, .bool false), (64, ag [iv r3.1.1, iv r3.1.2]), (65, .bool true), (66, .bool false), (67, .bool false), (68, .bool false), (69, accV 5 (List.length r5.1)), (70, .pointer (some ⟨5, 0 + (Int.toNat 0) * 2, none⟩)), (71, ag [iv o17.1, iv o17.2]), (72, ag [iv r3.1.1, iv r3.1.2]), (73, .bool true), (74, .bool true), (75, .bool true), (76, undef), (77, undef), (78, undef), (79, undef), (80, undef), (81, undef)]) (H7_13 r1 r3 r5 r7) [] [])) 8 (by kernel_rfl) (by kernel_rfl) ?_
                  refine QJ.done (by kernel_rfl) ⟨rfl, ?_⟩
                  refine SJ.last (by kernel_rfl)
                exact hK
              · replace hm151 := of_neg hm151 hc19
                have hX := of_do hm151
                clear hm151
                obtain ⟨r20, h21, hm151⟩ := hX
                have hX := of_do hm151
                clear hm151
                obtain ⟨r22, h23, hm151⟩ := hX
                have hm151 := Option.some.inj hm151
                subst hm151
                have hT : ∀ e ∈ ([⟨38, [ag [iv r3.1.1, iv r3.1.2]], (H7_13 r1 r3 r5 r7), .bool true, []⟩, ⟨40, [ag [iv r1.1.1.1, iv r1.1.1.2, iv r1.1.2.1, iv r1.1.2.2], ag [iv r3.1.1, iv r3.1.2]], (H7_13 r1 r3 r5 r7), ag [iv r20.1, iv r20.2], []⟩, ⟨39, [ag [iv r1.2.1, iv r1.2.2], ag [iv r20.1, iv r20.2]], (H7_13 r1 r3 r5 r7), ag [iv r22.1, iv r22.2], []⟩] : List Entry), PureSim Try.prog e.g e.args e.h e.v e.new := by
                  intro e he
                  simp only [List.mem_cons, List.not_mem_nil, or_false] at he
                  rcases he with rfl | rfl | rfl
                  · exact PureSim.anyK (C38 _ _ _ h15) (by kernel_rfl)
                  · exact PureSim.anyK (C40 _ _ _ _ _ _ _ h21) (by kernel_rfl)
                  · exact PureSim.anyK (C39 _ _ _ _ _ h23) (by kernel_rfl)
                refine TS.drawP [⟨38, [ag [iv r3.1.1, iv r3.1.2]], (H7_13 r1 r3 r5 r7), .bool true, []⟩, ⟨40, [ag [iv r1.1.1.1, iv r1.1.1.2, iv r1.1.2.1, iv r1.1.2.2], ag [iv r3.1.1, iv r3.1.2]], (H7_13 r1 r3 r5 r7), ag [iv r20.1, iv r20.2], []⟩, ⟨39, [ag [iv r1.2.1, iv r1.2.2], ag [iv r20.1, iv r20.2]], (H7_13 r1 r3 r5 r7), ag [iv r22.1, iv r22.2], []⟩] hT mixed (by kernel_rfl) 39 (by kernel_rfl) [3, 4, 6, 8, 10, 83] [1, 2, 4, 5, 6] (a2 := (st 198 [(3, pt 1 0), (4, pt 2 0), (6, pt 4 0), (8, accV 5 (List.length r5.1)), (10, pt 6 0), (83, .bool (!((r3.2.1.1 == r22.1) && ((r3.2.1.2 == r22.2) && true))))])) (h2 := (H7_15 r1 r3 r5 r7)) ?_ ?_
                · refine QJ.run (s1 := (qs (S7_27 r3 r5 r7) (H7_13 r1 r3 r5 r7) [] [])) 1 (by kernel_rfl) (by kernel_rfl) ?_
                  refine QJ.op (q := { val := .bool false }) (by decide) (q_conv (e := r3.2.2 != 0) (b := false) (by kernel_rfl) hc9) ?_
                  refine QJ.run (s1 := (qs (S7_16 r3 r5 r7) (H7_13 r1 r3 r5 r7) [] [])) 2 (by kernel_rfl) (by kernel_rfl) ?_
                  refine QJ.op (q := { val := .bool false }) (by decide) (q_conv (e := r5.2 != 0) (b := false) (by kernel_rfl) hc10) ?_
                  refine QJ.run (s1 := (qs (S7_12 r3 r5 r7) (H7_13 r1 r3 r5 r7) [] [])) 2 (by kernel_rfl) (by kernel_rfl) ?_
                  refine QJ.op (q := { val := .bool true }) (by decide) (q_conv (e := r7.2) (b := true) (by kernel_rfl) hc11) ?_
                  refine QJ.run (s1 := (qs (S7_9 r3 r5 r7) (H7_13 r1 r3 r5 r7) [] [])) 5 (by kernel_rfl) (by kernel_rfl) ?_
                  refine QJ.op (q := { val := .bool false }) (by decide) (q_conv (e := decide ((List.length r5.1 : Int) < 1)) (b := false) (by kernel_rfl) hc12) ?_
                  refine QJ.run (s1 := (qs (S7_7 r3 r5 r7) (H7_13 r1 r3 r5 r7) [] [])) 4 (by kernel_rfl) (by kernel_rfl) ?_
                  refine QJ.op (q := { val := .bool false }) (by decide) (q_conv (e := decide ((List.length r5.1 : Int) > 4)) (b := false) (by kernel_rfl) hc13) ?_
                  refine QJ.run (s1 := (qs (S7_5 r3 r5 r7) (H7_13 r1 r3 r5 r7) [] [])) 3 (by kernel_rfl) (by kernel_rfl) ?_
                  refine QJ.op (q := { val := .bool true, new := [] }) (by decide) (qOf_call (g := 38) (args := [ag [iv r3.1.1, iv r3.1.2]]) (by kernel_rfl) lookC_hit) ?_
                  refine QJ.run (s1 := (qs (S7_4 r3 r5 r7) (H7_13 r1 r3 r5 r7) [] [])) 4 (by kernel_rfl) (by kernel_rfl) ?_
                  refine QJ.op (q := { val := .pointer (some ⟨5, 0 + (Int.toNat 0) * 2, none⟩) }) (by decide) (q_ixAcc (P := Try.prog) (t := 60) (s := 2) (e := 27) 5 (List.length r5.1) (by kernel_rfl) hg16 (by kernel_rfl) (by kernel_rfl)) ?_
                  refine QJ.op (q := { val := ag [iv o17.1, iv o17.2] }) (by decide) (q_eqv (q_ldA (P := Try.prog) (hp := (H7_13 r1 r3 r5 r7)) (t := 27) (b := 5) (off := 0 + (Int.toNat 0) * 2) (l := r5.1) (enc := e27) (s := 2) (T := 27) (i := Int.toNat 0) (by kernel_rfl) (accB_at (h := (H7_13 r1 r3 r5 r7)) (n := List.length r5.1) (i := Int.toNat 0) (by kernel_rfl) (by first | omega | (simp only [List.length_set, List.length_replicate, List.length_cons, List.length_nil, List.length_append]; omega))) (by kernel_rfl) (by kernel_rfl) (fun _ => rfl) (by omega) (by first | omega | (simp only [List.length_set, List.length_replicate, List.length_cons, List.length_nil, List.length_append]; omega)) (0, 0)) (congrArg (fun (z : (Int × Int)) => ({ val := ag [iv z.1, iv z.2] } : QRes)) h18)) ?_
                  refine QJ.run (s1 := (qs (S7_2 r3 r5 r7 o17) (H7_13 r1 r3 r5 r7) [] [])) 1 (by kernel_rfl) (by kernel_rfl) ?_
                  refine QJ.op (q := { val := .bool false }) (by decide) (q_conv (e := !((o17.1 == r3.1.1) && ((o17.2 == r3.1.2) && true))) (b := false) (by kernel_rfl) hc19) ?_
                  refine QJ.run (s1 := (qs (st 198 [(3, pt 1 0), (4, pt 2 0), (5, pt 3 0), (6, pt 4 0), (7, iv r3.2.2), (8, accV 5 (List.length r5.1)), (9, iv r5.2), (10, pt 6 0), (11, .bool r7.2), (43, iv r3.2.2), (44, .bool false), (45, .bool false), (46, iv r5.2), (47, .bool false), (48, .bool false), (49, .bool false), (50, .bool true), (51, .bool false), (52, .bool false), (53, .bool false), (54, accV 5 (List.length r5.1)), (55, iv (List.length r5.1 : Int)), (56, .bool false), (57, .bool false), (58, .bool false), (59, accV 5 (List.length r5.1)), (60, iv (List.length r5.1 : Int)), (61, .bool false), (62, .bool false), (63, .bool false), (64, ag [iv r3.1.1, iv r3.1.2]), (65, .bool true), (66, .bool false), (67, .bool false), (68, .bool false), (69, accV 5 (List.length r5.1)), (70, .pointer (some ⟨5, 0 + (Int.toNat 0) * 2, none⟩)), (71, ag [iv o17.1, iv o17.2]), (72, ag [iv r3.1.1, iv r3.1.2]), (73, .bool false), (74, .bool false), (75, .bool false), (76, ag [iv r3.2.1.1, iv r3.2.1.2]), (77, ag [iv r1.2.1, iv r1.2.2]), (78, ag [iv r1.1.1.1, iv r1.1.1.2, iv r1.1.2.1, iv r1.1.2.2]), (79, ag [iv r3.1.1, iv r3.1.2])]) (H7_13 r1 r3 r5 r7) [] [])) 6 (by kernel_rfl) (by kernel_rfl) ?_
                  refine QJ.op (q := { val := ag [iv r20.1, iv r20.2], new := [] }) (by decide) (qOf_call (g := 40) (args := [ag [iv r1.1.1.1, iv r1.1.1.2, iv r1.1.2.1, iv r1.1.2.2], ag [iv r3.1.1, iv r3.1.2]]) (by kernel_rfl) (lookC_skip (fun hg => absurd (show (38 : Nat) = 40 from hg) (by decide)) lookC_hit)) ?_
                  refine QJ.op (q := { val := ag [iv r22.1, iv r22.2], new := [] }) (by decide) (qOf_call (g := 39) (args := [ag [iv r1.2.1, iv r1.2.2], ag [iv r20.1, iv r20.2]]) (by kernel_rfl) (lookC_skip (fun hg => absurd (show (38 : Nat) = 39 from hg) (by decide)) (lookC_skip (fun hg => absurd (show (40 : Nat) = 39 from hg) (by decide)) lookC_hit))) ?_
                  refine QJ.done (by kernel_rfl) ⟨rfl, ?_⟩
                  refine SJ.last (by kernel_rfl)
                exact hK
            | false =>
              replace hm151 := of_neg hm151 rfl
              have hm151 := Option.some.inj hm151
              subst hm151
              have hT : ∀ e ∈ ([⟨38, [ag [iv r3.1.1, iv r3.1.2]], (H7_13 r1 r3 r5 r7), .bool false, []⟩] : List Entry), PureSim Try.prog e.g e.args e.h e.v e.new := by
                intro e he
                simp only [List.mem_cons, List.not_mem_nil, or_false] at he
                rcases he with rfl
                · exact PureSim.anyK (C38 _ _ _ h15) (by kernel_rfl)
              refine TS.drawP [⟨38, [ag [iv r3.1.1, iv r3.1.2]], (H7_13 r1 r3 r5 r7), .bool false, []⟩] hT mixed (by kernel_rfl) 39 (by kernel_rfl) [3, 4, 6, 8, 10, 83] [1, 2, 4, 5, 6] (a2 := (S7_31 r5)) (h2 := (H7_15 r1 r3 r5 r7)) ?_ ?_
              · refine QJ.run (s1 := (qs (S7_27 r3 r5 r7) (H7_13 r1 r3 r5 r7) [] [])) 1 (by kernel_rfl) (by kernel_rfl) ?_
                refine QJ.op (q := { val := .bool false }) (by decide) (q_conv (e := r3.2.2 != 0) (b := false) (by kernel_rfl) hc9) ?_
                refine QJ.run (s1 := (qs (S7_16 r3 r5 r7) (H7_13 r1 r3 r5 r7) [] [])) 2 (by kernel_rfl) (by kernel_rfl) ?_
                refine QJ.op (q := { val := .bool false }) (by decide) (q_conv (e := r5.2 != 0) (b := false) (by kernel_rfl) hc10) ?_
                refine QJ.run (s1 := (qs (S7_12 r3 r5 r7) (H7_13 r1 r3 r5 r7) [] [])) 2 (by kernel_rfl) (by kernel_rfl) ?_
                refine QJ.op (q := { val := .bool true }) (by decide) (q_conv (e := r7.2) (b := true) (by kernel_rfl) hc11) ?_
                refine QJ.run (s1 := (qs (S7_9 r3 r5 r7) (H7_13 r1 r3 r5 r7) [] [])) 5 (by kernel_rfl) (by kernel_rfl) ?_
                refine QJ.op (q := { val := .bool false }) (by decide) (q_conv (e := decide ((List.length r5.1 : Int) < 1)) (b := false) (by kernel_rfl) hc12) ?_
                refine QJ.run (s1 := (qs (S7_7 r3 r5 r7) (H7_13 r1 r3 r5 r7) [] [])) 4 (by kernel_rfl) (by kernel_rfl) ?_
                refine QJ.op (q := { val := .bool false }) (by decide) (q_conv (e := decide ((List.length r5.1 : Int) > 4)) (b := false) (by kernel_rfl) hc13) ?_
                refine QJ.run (s1 := (qs (S7_5 r3 r5 r7) (H7_13 r1 r3 r5 r7) [] [])) 3 (by kernel_rfl) (by kernel_rfl) ?_
                refine QJ.op (q := { val := .bool false, new := [] }) (by decide) (qOf_call (g := 38) (args := [ag [iv r3.1.1, iv r3.1.2]]) (by kernel_rfl) lookC_hit) ?_
                refine QJ.run (s1 := (qs (st 198 [(3, pt 1 0), (4, pt 2 0), (5, pt 3 0), (6, pt 4 0), (7, iv r3.2.2), (8, accV 5 (List.length r5.1)), (9, iv r5.2), (10, pt 6 0), (11, .bool r7.2), (43, iv r3.2.2), (44, .bool false), (45, .bool false), (46, iv r5.2), (47, .bool false), (48, .bool false), (49, .bool false), (50, .bool true), (51, .bool false), (52, .bool false), (53, .bool false), (54, accV 5 (List.length r5.1)), (55, iv (List.length r5.1 : Int)), (56, .bool false), (57, .bool false), (58, .bool false), (59, accV 5 (List.length r5.1)), (60, iv (List.length r5.1 : Int)), (61, .bool false), (62, .bool false), (63, .bool false), (64, ag [iv r3.1.1, iv r3.1.2]), (65, .bool false), (66, .bool true), (67, .bool true), (68, .bool true), (69, undef), (70, undef), (71, undef), (72, undef), (73, undef), (74, .bool true), (75, .bool true), (76, undef), (77, undef), (78, undef), (79, undef), (80, undef), (81, undef)]) (H7_13 r1 r3 r5 r7) [] [])) 16 (by kernel_rfl) (by kernel_rfl) ?_
                refine QJ.done (by kernel_rfl) ⟨rfl, ?_⟩
                refine SJ.last (by kernel_rfl)
              exact hK
      · replace hm151 := of_neg hm151 hc11
        have hm151 := Option.some.inj hm151
        subst hm151
        refine TS.drawP [] (fun e he => by cases he) mixed (by kernel_rfl) 39 (by kernel_rfl) [3, 4, 6, 8, 10, 83] [1, 2, 4, 5, 6] (a2 := (S7_31 r5)) (h2 := (H7_15 r1 r3 r5 r7)) ?_ ?_
        · refine QJ.run (s1 := (qs (S7_27 r3 r5 r7) (H7_13 r1 r3 r5 r7) [] [])) 1 (by kernel_rfl) (by kernel_rfl) ?_
          refine QJ.op (q := { val := .bool false }) (by decide) (q_conv (e := r3.2.2 != 0) (b := false) (by kernel_rfl) hc9) ?_
          refine QJ.run (s1 := (qs (S7_16 r3 r5 r7) (H7_13 r1 r3 r5 r7) [] [])) 2 (by kernel_rfl) (by kernel_rfl) ?_
          refine QJ.op (q := { val := .bool false }) (by decide) (q_conv (e := r5.2 != 0) (b := false) (by kernel_rfl) hc10) ?_
          refine QJ.run (s1 := (qs (S7_12 r3 r5 r7) (H7_13 r1 r3 r5 r7) [] [])) 2 (by kernel_rfl) (by kernel_rfl) ?_
          refine QJ.op (q := { val := .bool false }) (by decide) (q_conv (e := r7.2) (b := false) (by kernel_rfl) hc11) ?_
          refine QJ.run (s1 := (qs (st 198 [(3, pt 1 0), (4, pt 2 0), (5, pt 3 0), (6, pt 4 0), (7, iv r3.2.2), (8, accV 5 (List.length r5.1)), (9, iv r5.2), (10, pt 6 0), (11, .bool r7.2), (43, iv r3.2.2), (44, .bool false), (45, .bool false), (46, iv r5.2), (47, .bool false), (48, .bool false), (49, .bool false), (50, .bool false), (51, .bool true), (52, .bool true), (53, .bool true), (54, undef), (55, undef), (56, undef), (57, .bool true), (58, .bool true), (59, undef), (60, undef), (61, undef), (62, .bool true), (63, .bool true), (64, undef), (65, undef), (66, undef), (67, .bool true), (68, .bool true), (69, undef), (70, undef), (71, undef), (72, undef), (73, undef), (74, .bool true), (75, .bool true), (76, undef), (77, undef), (78, undef), (79, undef), (80, undef), (81, undef)]) (H7_13 r1 r3 r5 r7) [] [])) 31 (by kernel_rfl) (by kernel_rfl) ?_
          refine QJ.done (by kernel_rfl) ⟨rfl, ?_⟩
          refine SJ.last (by kernel_rfl)
        exact hK
theorem C7 (p0 : Int) (p1 : Int) (p2 : Int) (p3 : Int) (p4 : Int) (p5 : Int) (r : Bool) (hF : F7 p0 p1 p2 p3 p4 p5 = some r) : PureSim Try.prog 7 [ag [.int .i8 p0, .int .i8 p1, .int .i8 p2, .int .i8 p3, .int .i16 p4, .int .i16 p5]] [] (V7 0 r) (N7 0 r) :=
  PureSim.of_Fin Try.func7 (c := c7) (by kernel_rfl) (by kernel_rfl) 0 rfl [0] [] (by kernel_rfl) (B7 p0 p1 p2 p3 p4 p5 r hF)

end Go.Proofs.Ytenjelagfbceeaa
