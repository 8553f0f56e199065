/- What functions of the program compute, and that they do. -/
import Derived.Test.YtenjelagfbceeaaGB
set_option linter.unusedVariables false
set_option linter.unusedSimpArgs false
set_option maxRecDepth 100000
set_option maxHeartbeats 4000000
namespace Go.Proofs.Ytenjelagfbceeaa
open Go Go.Cl

-- agonic/agoniclaw06.vector
noncomputable def c43 : Code := Try.f43.code
def F43 (p0 : Int) (p1 : Int) : Option (Int × Int) :=
  some (p0, p1)
def V43 (b : Nat) (r : (Int × Int)) : Value := ag [iv r.1, iv r.2]
def N43 (b : Nat) (r : (Int × Int)) : List Blk := []
theorem B43 (p0 : Int) (p1 : Int) (r : (Int × Int)) (hF : F43 p0 p1 = some r) : TS Try.prog 0 0 c43 (st 8 [(0, iv p0), (1, iv p1)]) [] (NX Try.prog 0 0 [] (FinP Try.prog Try.f43 0 (V43 0 r) (N43 0 r))) := by
  unfold F43 at hF
  refine TS.seqP (by kernel_rfl) ?_
  refine TS.regionP (by kernel_rfl) ?_
  refine TI.run 1 [0, 1, 4] [0] (a2 := (st 8 [(0, iv p0), (1, iv p1), (4, pt 0 0)])) (h2 := [cl 23 [iv 0, iv 0]]) (by kernel_rfl) ?_
  refine TI.done (by kernel_rfl) ?_
  refine NX.sq ?_
  refine TS.seqP (by kernel_rfl) ?_
  refine TS.regionP (by kernel_rfl) ?_
  refine TI.run 4 [4] [0] (a2 := (st 8 [(4, pt 0 0)])) (h2 := [cl 23 [iv p0, iv p1]]) (by kernel_rfl) ?_
  refine TI.done (by kernel_rfl) ?_
  refine NX.sq ?_
  refine TS.ret' (by kernel_rfl) ?_
  have hF := Option.some.inj hF
  subst hF
  exact ⟨.inr rfl, rfl, ag [iv p0, iv p1], by kernel_rfl, WkV.flat0 (by kernel_rfl) (Nat.le_of_ble_eq_true rfl)⟩
theorem C43 (p0 : Int) (p1 : Int) (r : (Int × Int)) (hF : F43 p0 p1 = some r) : PureSim Try.prog 43 [iv p0, iv p1] [] (V43 0 r) (N43 0 r) :=
  PureSim.of_Fin Try.func43 (c := c43) (by kernel_rfl) (by kernel_rfl) 0 rfl [0, 1] [] (by kernel_rfl) (B43 p0 p1 r hF)

-- agonic/agoniclaw06.kit
noncomputable def c49 : Code := Try.f49.code
def F49 (p0 : Int) (p1 : Int) (p2 : Int) (p3 : Int) : Option ((Int × Int) × (Int × Int)) :=
  F43 p0 p1 >>= fun r1 =>
  F43 p2 p3 >>= fun r3 =>
  some ((r1.1, r1.2), (r3.1, r3.2))
def V49 (b : Nat) (r : ((Int × Int) × (Int × Int))) : Value := ag [iv r.1.1, iv r.1.2, iv r.2.1, iv r.2.2]
def N49 (b : Nat) (r : ((Int × Int) × (Int × Int))) : List Blk := []
theorem B49 (p0 : Int) (p1 : Int) (p2 : Int) (p3 : Int) (r : ((Int × Int) × (Int × Int))) (hF : F49 p0 p1 p2 p3 = some r) : TS Try.prog 0 0 c49 (st 16 [(0, iv p0), (1, iv p1), (2, iv p2), (3, iv p3)]) [] (NX Try.prog 0 0 [] (FinP Try.prog Try.f49 0 (V49 0 r) (N49 0 r))) := by
  unfold F49 at hF
  refine TS.seqP (by kernel_rfl) ?_
  refine TS.regionP (by kernel_rfl) ?_
  refine TI.run 1 [0, 1, 2, 3, 8] [0] (a2 := (st 16 [(0, iv p0), (1, iv p1), (2, iv p2), (3, iv p3), (8, pt 0 0)])) (h2 := [cl 25 [iv 0, iv 0, iv 0, iv 0]]) (by kernel_rfl) ?_
  refine TI.done (by kernel_rfl) ?_
  refine NX.sq ?_
  refine TS.seqP (by kernel_rfl) ?_
  have hX := of_do hF
  clear hF
  obtain ⟨r1, h2, hF⟩ := hX
  have hX := of_do hF
  clear hF
  obtain ⟨r3, h4, hF⟩ := hX
  refine TS.regionP (by kernel_rfl) ?_
  refine TI.runA 2 [2, 3, 8, 9, 10] (a2 := (st 16 [(2, iv p2), (3, iv p3), (8, pt 0 0), (9, iv p0), (10, iv p1)])) (by kernel_rfl) ?_
  refine TI.callF (C43 _ _ _ h2) (by kernel_rfl) (by kernel_rfl) ?_
  refine TI.runA 2 [8, 11, 12, 13] (a2 := (st 16 [(8, pt 0 0), (11, ag [iv r1.1, iv r1.2]), (12, iv p2), (13, iv p3)])) (by kernel_rfl) ?_
  refine TI.callF (C43 _ _ _ h4) (by kernel_rfl) (by kernel_rfl) ?_
  refine TI.run 2 [8] [0] (a2 := (st 16 [(8, pt 0 0)])) (h2 := [cl 25 [iv r1.1, iv r1.2, iv r3.1, iv r3.2]]) (by kernel_rfl) ?_
  refine TI.done (by kernel_rfl) ?_
  refine NX.sq ?_
  refine TS.ret' (by kernel_rfl) ?_
  have hF := Option.some.inj hF
  subst hF
  exact ⟨.inr rfl, rfl, ag [iv r1.1, iv r1.2, iv r3.1, iv r3.2], by kernel_rfl, WkV.flat0 (by kernel_rfl) (Nat.le_of_ble_eq_true rfl)⟩
theorem C49 (p0 : Int) (p1 : Int) (p2 : Int) (p3 : Int) (r : ((Int × Int) × (Int × Int))) (hF : F49 p0 p1 p2 p3 = some r) : PureSim Try.prog 49 [iv p0, iv p1, iv p2, iv p3] [] (V49 0 r) (N49 0 r) :=
  PureSim.of_Fin Try.func49 (c := c49) (by kernel_rfl) (by kernel_rfl) 0 rfl [0, 1, 2, 3] [] (by kernel_rfl) (B49 p0 p1 p2 p3 r hF)

-- agonic/agoniclaw06.area
noncomputable def c45 : Code := Try.f45.code
def F45 (p0 : Int) (p1 : Int) (p2 : Int) (p3 : Int) : Option Int :=
  some (mx (w64 ((w64 (p0 * p3)) - (w64 (p1 * p2)))) (w64 (0 - (w64 ((w64 (p0 * p3)) - (w64 (p1 * p2))))))) >>= fun o1 =>
  some o1
def V45 (b : Nat) (r : Int) : Value := iv r
def N45 (b : Nat) (r : Int) : List Blk := []
theorem B45 (p0 : Int) (p1 : Int) (p2 : Int) (p3 : Int) (r : Int) (hF : F45 p0 p1 p2 p3 = some r) : TS Try.prog 0 0 c45 (st 21 [(0, ag [iv p0, iv p1]), (1, ag [iv p2, iv p3])]) [] (NX Try.prog 0 0 [] (FinP Try.prog Try.f45 0 (V45 0 r) (N45 0 r))) := by
  unfold F45 at hF
  refine TS.seqP (by kernel_rfl) ?_
  refine TS.regionP (by kernel_rfl) ?_
  refine TI.run 3 [2, 3] [0, 1] (a2 := (st 21 [(2, pt 0 0), (3, pt 1 0)])) (h2 := [cl 23 [iv p0, iv p1], cl 23 [iv p2, iv p3]]) (by kernel_rfl) ?_
  refine TI.done (by kernel_rfl) ?_
  refine NX.sq ?_
  refine TS.seqP (by kernel_rfl) ?_
  refine TS.regionP (by kernel_rfl) ?_
  refine TI.run 12 [5] [] (a2 := (st 21 [(5, iv (w64 ((w64 (p0 * p3)) - (w64 (p1 * p2)))))])) (h2 := [.dead, .dead]) (by kernel_rfl) ?_
  refine TI.done (by kernel_rfl) ?_
  refine NX.sq ?_
  refine TS.seqP (by kernel_rfl) ?_
  have hX := of_do hF
  clear hF
  obtain ⟨o1, h2, hF⟩ := hX
  replace h2 := Option.some.inj h2
  refine TS.regionP (by kernel_rfl) ?_
  refine TI.runA 3 [17, 19] (a2 := (st 21 [(17, iv (w64 ((w64 (p0 * p3)) - (w64 (p1 * p2))))), (19, iv (w64 (0 - (w64 ((w64 (p0 * p3)) - (w64 (p1 * p2)))))))])) (by kernel_rfl) ?_
  refine TI.op (q := { val := iv o1 }) (q_convI (e := mx (w64 ((w64 (p0 * p3)) - (w64 (p1 * p2)))) (w64 (0 - (w64 ((w64 (p0 * p3)) - (w64 (p1 * p2))))))) (y := o1) (by kernel_rfl) h2) [20] [] (a2 := (st 21 [(20, iv o1)])) (h2 := [.dead, .dead]) (by kernel_rfl) ?_
  refine TI.runA 1 [4] (a2 := (st 21 [(4, iv o1)])) (by kernel_rfl) ?_
  refine TI.done (by kernel_rfl) ?_
  refine NX.sq ?_
  refine TS.ret' (by kernel_rfl) ?_
  have hF := Option.some.inj hF
  subst hF
  exact ⟨.inr rfl, rfl, iv o1, by kernel_rfl, WkV.flat0 (by kernel_rfl) (Nat.le_of_ble_eq_true rfl)⟩
theorem C45 (p0 : Int) (p1 : Int) (p2 : Int) (p3 : Int) (r : Int) (hF : F45 p0 p1 p2 p3 = some r) : PureSim Try.prog 45 [ag [iv p0, iv p1], ag [iv p2, iv p3]] [] (V45 0 r) (N45 0 r) :=
  PureSim.of_Fin Try.func45 (c := c45) (by kernel_rfl) (by kernel_rfl) 0 rfl [0, 1] [] (by kernel_rfl) (B45 p0 p1 p2 p3 r hF)

-- (agonic/agoniclaw06.Ship).made
noncomputable def c36 : Code := Try.f36.code
def H36_0 (p0 : Int) (p1 : Int) (p2 : Int) (p3 : Int) (p4 : Int) (p5 : Int) (m12 : (Int × Int × Int × Int)) : List Blk := [cl 77 [.int .i8 p0, .int .i8 p1, .int .i8 p2, .int .i8 p3, .int .i16 p4, .int .i16 p5], cl 25 [iv 0, iv 0, iv 0, iv 0], cl 23 [iv 0, iv 0], cl 25 [iv m12.1, iv m12.2.1, iv m12.2.2.1, iv m12.2.2.2]]
def S36_1  : CAct := (st 45 [(1, pt 0 0), (2, pt 1 0), (3, pt 2 0), (4, pt 3 0)])
def F36 (p0 : Int) (p1 : Int) (p2 : Int) (p3 : Int) (p4 : Int) (p5 : Int) : Option (((Int × Int) × (Int × Int)) × (Int × Int)) :=
  F49 (Int.tmod (w64 p0) 13) (Int.tmod (w64 p1) 13) (Int.tmod (w64 p2) 13) (Int.tmod (w64 p3) 13) >>= fun r1 =>
  F45 r1.1.1 r1.1.2 r1.2.1 r1.2.2 >>= fun r3 =>
  (
    if r3 == 0 then
      F49 3 1 1 4 >>= fun r17 =>
      some (r17.1.1, r17.1.2, r17.2.1, r17.2.2)
    else
      some (r1.1.1, r1.1.2, r1.2.1, r1.2.2)
  : Option (Int × Int × Int × Int)) >>= fun m12 =>
  F43 (Int.tmod (w64 p4) 200) (Int.tmod (w64 p5) 200) >>= fun r14 =>
  some (((m12.1, m12.2.1), (m12.2.2.1, m12.2.2.2)), (r14.1, r14.2))
def V36 (b : Nat) (r : (((Int × Int) × (Int × Int)) × (Int × Int))) : Value := .tuple ⟨[ag [iv r.1.1.1, iv r.1.1.2, iv r.1.2.1, iv r.1.2.2], ag [iv r.2.1, iv r.2.2]]⟩
def N36 (b : Nat) (r : (((Int × Int) × (Int × Int)) × (Int × Int))) : List Blk := []
theorem B36 (p0 : Int) (p1 : Int) (p2 : Int) (p3 : Int) (p4 : Int) (p5 : Int) (r : (((Int × Int) × (Int × Int)) × (Int × Int))) (hF : F36 p0 p1 p2 p3 p4 p5 = some r) : TS Try.prog 0 0 c36 (st 45 [(0, ag [.int .i8 p0, .int .i8 p1, .int .i8 p2, .int .i8 p3, .int .i16 p4, .int .i16 p5])]) [] (NX Try.prog 0 0 [] (FinP Try.prog Try.f36 0 (V36 0 r) (N36 0 r))) := by
  unfold F36 at hF
  refine TS.seqP (by kernel_rfl) ?_
  refine TS.regionP (by kernel_rfl) ?_
  refine TI.run 3 [1, 2, 3] [0, 1, 2] (a2 := (st 45 [(1, pt 0 0), (2, pt 1 0), (3, pt 2 0)])) (h2 := [cl 77 [.int .i8 p0, .int .i8 p1, .int .i8 p2, .int .i8 p3, .int .i16 p4, .int .i16 p5], cl 25 [iv 0, iv 0, iv 0, iv 0], cl 23 [iv 0, iv 0]]) (by kernel_rfl) ?_
  refine TI.done (by kernel_rfl) ?_
  refine NX.sq ?_
  refine TS.seqP (by kernel_rfl) ?_
  have hX := of_do hF
  clear hF
  obtain ⟨r1, h2, hF⟩ := hX
  refine TS.regionP (by kernel_rfl) ?_
  refine TI.runA 20 [1, 2, 3, 9, 14, 19, 24] (a2 := (st 45 [(1, pt 0 0), (2, pt 1 0), (3, pt 2 0), (9, iv (Int.tmod (w64 p0) 13)), (14, iv (Int.tmod (w64 p1) 13)), (19, iv (Int.tmod (w64 p2) 13)), (24, iv (Int.tmod (w64 p3) 13))])) (by kernel_rfl) ?_
  refine TI.callF (C49 _ _ _ _ _ h2) (by kernel_rfl) (by kernel_rfl) ?_
  refine TI.run 2 [1, 2, 3, 4] [0, 1, 2, 3] (a2 := (S36_1)) (h2 := [cl 77 [.int .i8 p0, .int .i8 p1, .int .i8 p2, .int .i8 p3, .int .i16 p4, .int .i16 p5], cl 25 [iv 0, iv 0, iv 0, iv 0], cl 23 [iv 0, iv 0], cl 25 [iv r1.1.1, iv r1.1.2, iv r1.2.1, iv r1.2.2]]) (by kernel_rfl) ?_
  refine TI.done (by kernel_rfl) ?_
  refine NX.sq ?_
  refine TS.seqP (by kernel_rfl) ?_
  refine TS.seqP (by kernel_rfl) ?_
  have hX := of_do hF
  clear hF
  obtain ⟨r3, h4, hF⟩ := hX
  refine TS.regionP (by kernel_rfl) ?_
  refine TI.runA 4 [1, 2, 3, 4, 27, 29] (a2 := (st 45 [(1, pt 0 0), (2, pt 1 0), (3, pt 2 0), (4, pt 3 0), (27, ag [iv r1.1.1, iv r1.1.2]), (29, ag [iv r1.2.1, iv r1.2.2])])) (by kernel_rfl) ?_
  refine TI.callF (C45 _ _ _ _ _ h4) (by kernel_rfl) (by kernel_rfl) ?_
  refine TI.runA 1 [1, 2, 3, 4, 31] (a2 := (st 45 [(1, pt 0 0), (2, pt 1 0), (3, pt 2 0), (4, pt 3 0), (31, .bool (r3 == 0))])) (by kernel_rfl) ?_
  refine TI.done (by kernel_rfl) ?_
  refine NX.sq ?_
  have hX := of_do hF
  clear hF
  obtain ⟨m12, hm13, hF⟩ := hX
  have hK : NX Try.prog 0 0 [.sq c36.s2.s2.s2] (FinP Try.prog Try.f36 0 (V36 0 r) (N36 0 r)) .normal (S36_1) (H36_0 p0 p1 p2 p3 p4 p5 m12) := by
    refine NX.sq ?_
    refine TS.seqP (by kernel_rfl) ?_
    have hX := of_do hF
    clear hF
    obtain ⟨r14, h15, hF⟩ := hX
    have hT : ∀ e ∈ ([⟨43, [iv (Int.tmod (w64 p4) 200), iv (Int.tmod (w64 p5) 200)], (H36_0 p0 p1 p2 p3 p4 p5 m12), ag [iv r14.1, iv r14.2], []⟩] : List Entry), PureSim Try.prog e.g e.args e.h e.v e.new := by
      intro e he
      simp only [List.mem_cons, List.not_mem_nil, or_false] at he
      rcases he with rfl
      · exact PureSim.anyK (C43 _ _ _ h15) (by kernel_rfl)
    refine TS.drawP [⟨43, [iv (Int.tmod (w64 p4) 200), iv (Int.tmod (w64 p5) 200)], (H36_0 p0 p1 p2 p3 p4 p5 m12), ag [iv r14.1, iv r14.2], []⟩] hT mixed (by kernel_rfl) 12 (by kernel_rfl) [2, 3] [1, 2] (a2 := (st 45 [(2, pt 1 0), (3, pt 2 0)])) (h2 := [.dead, cl 25 [iv m12.1, iv m12.2.1, iv m12.2.2.1, iv m12.2.2.2], cl 23 [iv r14.1, iv r14.2], .dead]) ?_ ?_
    · refine QJ.run (s1 := (qs (st 45 [(1, pt 0 0), (2, pt 1 0), (3, pt 2 0), (4, pt 3 0), (33, ag [iv m12.1, iv m12.2.1, iv m12.2.2.1, iv m12.2.2.2]), (34, pt 0 4), (35, pt 0 4), (36, .int .i16 p4), (37, iv (w64 p4)), (38, iv (Int.tmod (w64 p4) 200)), (39, pt 0 4), (40, pt 0 5), (41, .int .i16 p5), (42, iv (w64 p5)), (43, iv (Int.tmod (w64 p5) 200))]) (H36_0 p0 p1 p2 p3 p4 p5 m12) [] [])) 11 (by kernel_rfl) (by kernel_rfl) ?_
      refine QJ.op (q := { val := ag [iv r14.1, iv r14.2], new := [] }) (by decide) (qOf_call (g := 43) (args := [iv (Int.tmod (w64 p4) 200), iv (Int.tmod (w64 p5) 200)]) (by kernel_rfl) lookC_hit) ?_
      refine QJ.done (by kernel_rfl) ⟨rfl, ?_⟩
      refine SJ.last (by kernel_rfl)
    refine TS.ret' (by kernel_rfl) ?_
    have hF := Option.some.inj hF
    subst hF
    exact ⟨.inr rfl, rfl, .tuple ⟨[ag [iv m12.1, iv m12.2.1, iv m12.2.2.1, iv m12.2.2.2], ag [iv r14.1, iv r14.2]]⟩, by kernel_rfl, WkV.flat0 (by kernel_rfl) (Nat.le_of_ble_eq_true rfl)⟩
  clear hF
  have hF := hm13
  clear hm13
  refine TS.start ?_
  refine TS.condP (o := (.tmp 31)) (b := r3 == 0) (by kernel_rfl) (by kernel_rfl) (fun hc16 => ?_) (fun hc16 => ?_)
  · replace hF := of_pos hF hc16
    have hX := of_do hF
    clear hF
    obtain ⟨r17, h18, hF⟩ := hX
    refine TS.regionP (by kernel_rfl) ?_
    refine TI.callF (C49 _ _ _ _ _ h18) (by kernel_rfl) (by kernel_rfl) ?_
    refine TI.run 1 [1, 2, 3, 4] [0, 1, 2, 3] (a2 := (S36_1)) (h2 := [cl 77 [.int .i8 p0, .int .i8 p1, .int .i8 p2, .int .i8 p3, .int .i16 p4, .int .i16 p5], cl 25 [iv 0, iv 0, iv 0, iv 0], cl 23 [iv 0, iv 0], cl 25 [iv r17.1.1, iv r17.1.2, iv r17.2.1, iv r17.2.2]]) (by kernel_rfl) ?_
    refine TI.done (by kernel_rfl) ?_
    have hF := Option.some.inj hF
    subst hF
    exact TS.weak (Wk.anew (base := 0) (L := 0) (f := [0, 1, 2, 3]) (by decide) (by decide) (Nat.le_of_ble_eq_true rfl) rfl (.cons (At.blk (by kernel_rfl) (RnB.lit (.cons (.flat (by kernel_rfl)) (.cons (.flat (by kernel_rfl)) (.cons (.flat (by kernel_rfl)) (.cons (.flat (by kernel_rfl)) (.cons (.flat (by kernel_rfl)) (.cons (.flat (by kernel_rfl)) .nil)))))))) (.cons (At.blk (by kernel_rfl) (RnB.lit (.cons (.flat (by kernel_rfl)) (.cons (.flat (by kernel_rfl)) (.cons (.flat (by kernel_rfl)) (.cons (.flat (by kernel_rfl)) .nil)))))) (.cons (At.blk (by kernel_rfl) (RnB.lit (.cons (.flat (by kernel_rfl)) (.cons (.flat (by kernel_rfl)) .nil)))) (.cons (At.blk (by kernel_rfl) (RnB.lit (.cons (.flat (by kernel_rfl)) (.cons (.flat (by kernel_rfl)) (.cons (.flat (by kernel_rfl)) (.cons (.flat (by kernel_rfl)) .nil)))))) (.nil _))))) (LRn.stx [1, 2, 3, 4] [pt 0 0, pt 1 0, pt 2 0, pt 3 0] [pt 0 0, pt 1 0, pt 2 0, pt 3 0] (.cons (Rn.ptr _ _ _ (Nat.le_of_ble_eq_true rfl) rfl) (.cons (Rn.ptr _ _ _ (Nat.le_of_ble_eq_true rfl) rfl) (.cons (Rn.ptr _ _ _ (Nat.le_of_ble_eq_true rfl) rfl) (.cons (Rn.ptr _ _ _ (Nat.le_of_ble_eq_true rfl) rfl) .nil)))) (by kernel_rfl) (by kernel_rfl) rfl) rfl rfl) hK
  · replace hF := of_neg hF hc16
    refine TS.skip' (by kernel_rfl) ?_
    have hF := Option.some.inj hF
    subst hF
    exact TS.weak (Wk.anew (base := 0) (L := 0) (f := [0, 1, 2, 3]) (by decide) (by decide) (Nat.le_of_ble_eq_true rfl) rfl (.cons (At.blk (by kernel_rfl) (RnB.lit (.cons (.flat (by kernel_rfl)) (.cons (.flat (by kernel_rfl)) (.cons (.flat (by kernel_rfl)) (.cons (.flat (by kernel_rfl)) (.cons (.flat (by kernel_rfl)) (.cons (.flat (by kernel_rfl)) .nil)))))))) (.cons (At.blk (by kernel_rfl) (RnB.lit (.cons (.flat (by kernel_rfl)) (.cons (.flat (by kernel_rfl)) (.cons (.flat (by kernel_rfl)) (.cons (.flat (by kernel_rfl)) .nil)))))) (.cons (At.blk (by kernel_rfl) (RnB.lit (.cons (.flat (by kernel_rfl)) (.cons (.flat (by kernel_rfl)) .nil)))) (.cons (At.blk (by kernel_rfl) (RnB.lit (.cons (.flat (by kernel_rfl)) (.cons (.flat (by kernel_rfl)) (.cons (.flat (by kernel_rfl)) (.cons (.flat (by kernel_rfl)) .nil)))))) (.nil _))))) (LRn.stx [1, 2, 3, 4] [pt 0 0, pt 1 0, pt 2 0, pt 3 0] [pt 0 0, pt 1 0, pt 2 0, pt 3 0] (.cons (Rn.ptr _ _ _ (Nat.le_of_ble_eq_true rfl) rfl) (.cons (Rn.ptr _ _ _ (Nat.le_of_ble_eq_true rfl) rfl) (.cons (Rn.ptr _ _ _ (Nat.le_of_ble_eq_true rfl) rfl) (.cons (Rn.ptr _ _ _ (Nat.le_of_ble_eq_true rfl) rfl) .nil)))) (by kernel_rfl) (by kernel_rfl) rfl) rfl rfl) hK
theorem C36 (p0 : Int) (p1 : Int) (p2 : Int) (p3 : Int) (p4 : Int) (p5 : Int) (r : (((Int × Int) × (Int × Int)) × (Int × Int))) (hF : F36 p0 p1 p2 p3 p4 p5 = some r) : PureSim Try.prog 36 [ag [.int .i8 p0, .int .i8 p1, .int .i8 p2, .int .i8 p3, .int .i16 p4, .int .i16 p5]] [] (V36 0 r) (N36 0 r) :=
  PureSim.of_Fin Try.func36 (c := c36) (by kernel_rfl) (by kernel_rfl) 0 rfl [0] [] (by kernel_rfl) (B36 p0 p1 p2 p3 p4 p5 r hF)

-- agonic/agoniclaw06.choice
noncomputable def c44 : Code := Try.f44.code
def F44 (p0 : Int) (p1 : Int) : Option (Int × Int) :=
  some (p0, p1)
def V44 (b : Nat) (r : (Int × Int)) : Value := ag [iv r.1, iv r.2]
def N44 (b : Nat) (r : (Int × Int)) : List Blk := []
theorem B44 (p0 : Int) (p1 : Int) (r : (Int × Int)) (hF : F44 p0 p1 = some r) : TS Try.prog 0 0 c44 (st 8 [(0, iv p0), (1, iv p1)]) [] (NX Try.prog 0 0 [] (FinP Try.prog Try.f44 0 (V44 0 r) (N44 0 r))) := by
  unfold F44 at hF
  refine TS.seqP (by kernel_rfl) ?_
  refine TS.regionP (by kernel_rfl) ?_
  refine TI.run 1 [0, 1, 4] [0] (a2 := (st 8 [(0, iv p0), (1, iv p1), (4, pt 0 0)])) (h2 := [cl 27 [iv 0, iv 0]]) (by kernel_rfl) ?_
  refine TI.done (by kernel_rfl) ?_
  refine NX.sq ?_
  refine TS.seqP (by kernel_rfl) ?_
  refine TS.regionP (by kernel_rfl) ?_
  refine TI.run 4 [4] [0] (a2 := (st 8 [(4, pt 0 0)])) (h2 := [cl 27 [iv p0, iv p1]]) (by kernel_rfl) ?_
  refine TI.done (by kernel_rfl) ?_
  refine NX.sq ?_
  refine TS.ret' (by kernel_rfl) ?_
  have hF := Option.some.inj hF
  subst hF
  exact ⟨.inr rfl, rfl, ag [iv p0, iv p1], by kernel_rfl, WkV.flat0 (by kernel_rfl) (Nat.le_of_ble_eq_true rfl)⟩
theorem C44 (p0 : Int) (p1 : Int) (r : (Int × Int)) (hF : F44 p0 p1 = some r) : PureSim Try.prog 44 [iv p0, iv p1] [] (V44 0 r) (N44 0 r) :=
  PureSim.of_Fin Try.func44 (c := c44) (by kernel_rfl) (by kernel_rfl) 0 rfl [0, 1] [] (by kernel_rfl) (B44 p0 p1 r hF)

-- agonic/agoniclaw06.pull
noncomputable def c40 : Code := Try.f40.code
def F40 (p0 : Int) (p1 : Int) (p2 : Int) (p3 : Int) (p4 : Int) (p5 : Int) : Option (Int × Int) :=
  F43 (w64 ((w64 (p4 * p0)) + (w64 (p5 * p2)))) (w64 ((w64 (p4 * p1)) + (w64 (p5 * p3)))) >>= fun r1 =>
  some (r1.1, r1.2)
def V40 (b : Nat) (r : (Int × Int)) : Value := ag [iv r.1, iv r.2]
def N40 (b : Nat) (r : (Int × Int)) : List Blk := []
theorem B40 (p0 : Int) (p1 : Int) (p2 : Int) (p3 : Int) (p4 : Int) (p5 : Int) (r : (Int × Int)) (hF : F40 p0 p1 p2 p3 p4 p5 = some r) : TS Try.prog 0 0 c40 (st 32 [(0, ag [iv p0, iv p1, iv p2, iv p3]), (1, ag [iv p4, iv p5])]) [] (NX Try.prog 0 0 [] (FinP Try.prog Try.f40 0 (V40 0 r) (N40 0 r))) := by
  unfold F40 at hF
  refine TS.seqP (by kernel_rfl) ?_
  refine TS.regionP (by kernel_rfl) ?_
  refine TI.run 3 [2, 3, 4] [0, 1, 2] (a2 := (st 32 [(2, pt 0 0), (3, pt 1 0), (4, pt 2 0)])) (h2 := [cl 25 [iv p0, iv p1, iv p2, iv p3], cl 27 [iv p4, iv p5], cl 23 [iv 0, iv 0]]) (by kernel_rfl) ?_
  refine TI.done (by kernel_rfl) ?_
  refine NX.sq ?_
  refine TS.seqP (by kernel_rfl) ?_
  have hX := of_do hF
  clear hF
  obtain ⟨r1, h2, hF⟩ := hX
  refine TS.regionP (by kernel_rfl) ?_
  refine TI.run 26 [4, 17, 30] [2] (a2 := (st 32 [(4, pt 2 0), (17, iv (w64 ((w64 (p4 * p0)) + (w64 (p5 * p2))))), (30, iv (w64 ((w64 (p4 * p1)) + (w64 (p5 * p3)))))])) (h2 := [.dead, .dead, cl 23 [iv 0, iv 0]]) (by kernel_rfl) ?_
  refine TI.callF (C43 _ _ _ h2) (by kernel_rfl) (by kernel_rfl) ?_
  refine TI.run 1 [4] [2] (a2 := (st 32 [(4, pt 2 0)])) (h2 := [.dead, .dead, cl 23 [iv r1.1, iv r1.2]]) (by kernel_rfl) ?_
  refine TI.done (by kernel_rfl) ?_
  refine NX.sq ?_
  refine TS.ret' (by kernel_rfl) ?_
  have hF := Option.some.inj hF
  subst hF
  exact ⟨.inr rfl, rfl, ag [iv r1.1, iv r1.2], by kernel_rfl, WkV.flat0 (by kernel_rfl) (Nat.le_of_ble_eq_true rfl)⟩
theorem C40 (p0 : Int) (p1 : Int) (p2 : Int) (p3 : Int) (p4 : Int) (p5 : Int) (r : (Int × Int)) (hF : F40 p0 p1 p2 p3 p4 p5 = some r) : PureSim Try.prog 40 [ag [iv p0, iv p1, iv p2, iv p3], ag [iv p4, iv p5]] [] (V40 0 r) (N40 0 r) :=
  PureSim.of_Fin Try.func40 (c := c40) (by kernel_rfl) (by kernel_rfl) 0 rfl [0, 1] [] (by kernel_rfl) (B40 p0 p1 p2 p3 p4 p5 r hF)

-- agonic/agoniclaw06.plus
noncomputable def c39 : Code := Try.f39.code
def F39 (p0 : Int) (p1 : Int) (p2 : Int) (p3 : Int) : Option (Int × Int) :=
  F43 (w64 (p0 + p2)) (w64 (p1 + p3)) >>= fun r1 =>
  some (r1.1, r1.2)
def V39 (b : Nat) (r : (Int × Int)) : Value := ag [iv r.1, iv r.2]
def N39 (b : Nat) (r : (Int × Int)) : List Blk := []
theorem B39 (p0 : Int) (p1 : Int) (p2 : Int) (p3 : Int) (r : (Int × Int)) (hF : F39 p0 p1 p2 p3 = some r) : TS Try.prog 0 0 c39 (st 16 [(0, ag [iv p0, iv p1]), (1, ag [iv p2, iv p3])]) [] (NX Try.prog 0 0 [] (FinP Try.prog Try.f39 0 (V39 0 r) (N39 0 r))) := by
  unfold F39 at hF
  refine TS.seqP (by kernel_rfl) ?_
  refine TS.regionP (by kernel_rfl) ?_
  refine TI.run 3 [2, 3, 4] [0, 1, 2] (a2 := (st 16 [(2, pt 0 0), (3, pt 1 0), (4, pt 2 0)])) (h2 := [cl 23 [iv p0, iv p1], cl 23 [iv p2, iv p3], cl 23 [iv 0, iv 0]]) (by kernel_rfl) ?_
  refine TI.done (by kernel_rfl) ?_
  refine NX.sq ?_
  refine TS.seqP (by kernel_rfl) ?_
  have hX := of_do hF
  clear hF
  obtain ⟨r1, h2, hF⟩ := hX
  refine TS.regionP (by kernel_rfl) ?_
  refine TI.run 10 [4, 9, 14] [2] (a2 := (st 16 [(4, pt 2 0), (9, iv (w64 (p0 + p2))), (14, iv (w64 (p1 + p3)))])) (h2 := [.dead, .dead, cl 23 [iv 0, iv 0]]) (by kernel_rfl) ?_
  refine TI.callF (C43 _ _ _ h2) (by kernel_rfl) (by kernel_rfl) ?_
  refine TI.run 1 [4] [2] (a2 := (st 16 [(4, pt 2 0)])) (h2 := [.dead, .dead, cl 23 [iv r1.1, iv r1.2]]) (by kernel_rfl) ?_
  refine TI.done (by kernel_rfl) ?_
  refine NX.sq ?_
  refine TS.ret' (by kernel_rfl) ?_
  have hF := Option.some.inj hF
  subst hF
  exact ⟨.inr rfl, rfl, ag [iv r1.1, iv r1.2], by kernel_rfl, WkV.flat0 (by kernel_rfl) (Nat.le_of_ble_eq_true rfl)⟩
theorem C39 (p0 : Int) (p1 : Int) (p2 : Int) (p3 : Int) (r : (Int × Int)) (hF : F39 p0 p1 p2 p3 = some r) : PureSim Try.prog 39 [ag [iv p0, iv p1], ag [iv p2, iv p3]] [] (V39 0 r) (N39 0 r) :=
  PureSim.of_Fin Try.func39 (c := c39) (by kernel_rfl) (by kernel_rfl) 0 rfl [0, 1] [] (by kernel_rfl) (B39 p0 p1 p2 p3 r hF)

-- agonic/agoniclaw06.MagnetMoved$1
noncomputable def c46 : Code := Try.f46.code
def F46 (p0 : Int) (p1 : Int) : Option (Int × Int) :=
  F43 (w64 (0 - p1)) p0 >>= fun r1 =>
  some (r1.1, r1.2)
def V46 (b : Nat) (r : (Int × Int)) : Value := ag [iv r.1, iv r.2]
def N46 (b : Nat) (r : (Int × Int)) : List Blk := []
theorem B46 (p0 : Int) (p1 : Int) (r : (Int × Int)) (hF : F46 p0 p1 = some r) : TS Try.prog 0 0 c46 (st 9 [(0, ag [iv p0, iv p1])]) [] (NX Try.prog 0 0 [] (FinP Try.prog Try.f46 0 (V46 0 r) (N46 0 r))) := by
  unfold F46 at hF
  refine TS.seqP (by kernel_rfl) ?_
  refine TS.regionP (by kernel_rfl) ?_
  refine TI.run 2 [1, 2] [0, 1] (a2 := (st 9 [(1, pt 0 0), (2, pt 1 0)])) (h2 := [cl 23 [iv p0, iv p1], cl 23 [iv 0, iv 0]]) (by kernel_rfl) ?_
  refine TI.done (by kernel_rfl) ?_
  refine NX.sq ?_
  refine TS.seqP (by kernel_rfl) ?_
  have hX := of_do hF
  clear hF
  obtain ⟨r1, h2, hF⟩ := hX
  refine TS.regionP (by kernel_rfl) ?_
  refine TI.run 5 [2, 5, 7] [1] (a2 := (st 9 [(2, pt 1 0), (5, iv (w64 (0 - p1))), (7, iv p0)])) (h2 := [.dead, cl 23 [iv 0, iv 0]]) (by kernel_rfl) ?_
  refine TI.callF (C43 _ _ _ h2) (by kernel_rfl) (by kernel_rfl) ?_
  refine TI.run 1 [2] [1] (a2 := (st 9 [(2, pt 1 0)])) (h2 := [.dead, cl 23 [iv r1.1, iv r1.2]]) (by kernel_rfl) ?_
  refine TI.done (by kernel_rfl) ?_
  refine NX.sq ?_
  refine TS.ret' (by kernel_rfl) ?_
  have hF := Option.some.inj hF
  subst hF
  exact ⟨.inr rfl, rfl, ag [iv r1.1, iv r1.2], by kernel_rfl, WkV.flat0 (by kernel_rfl) (Nat.le_of_ble_eq_true rfl)⟩
theorem C46 (p0 : Int) (p1 : Int) (r : (Int × Int)) (hF : F46 p0 p1 = some r) : PureSim Try.prog 46 [ag [iv p0, iv p1]] [] (V46 0 r) (N46 0 r) :=
  PureSim.of_Fin Try.func46 (c := c46) (by kernel_rfl) (by kernel_rfl) 0 rfl [0] [] (by kernel_rfl) (B46 p0 p1 r hF)

-- agonic/agoniclaw06.MagnetMoved$2
noncomputable def c47 : Code := Try.f47.code
def F47 (p0 : Int) (p1 : Int) : Option (Int × Int) :=
  F43 p0 (w64 (0 - p1)) >>= fun r1 =>
  some (r1.1, r1.2)
def V47 (b : Nat) (r : (Int × Int)) : Value := ag [iv r.1, iv r.2]
def N47 (b : Nat) (r : (Int × Int)) : List Blk := []
theorem B47 (p0 : Int) (p1 : Int) (r : (Int × Int)) (hF : F47 p0 p1 = some r) : TS Try.prog 0 0 c47 (st 9 [(0, ag [iv p0, iv p1])]) [] (NX Try.prog 0 0 [] (FinP Try.prog Try.f47 0 (V47 0 r) (N47 0 r))) := by
  unfold F47 at hF
  refine TS.seqP (by kernel_rfl) ?_
  refine TS.regionP (by kernel_rfl) ?_
  refine TI.run 2 [1, 2] [0, 1] (a2 := (st 9 [(1, pt 0 0), (2, pt 1 0)])) (h2 := [cl 23 [iv p0, iv p1], cl 23 [iv 0, iv 0]]) (by kernel_rfl) ?_
  refine TI.done (by kernel_rfl) ?_
  refine NX.sq ?_
  refine TS.seqP (by kernel_rfl) ?_
  have hX := of_do hF
  clear hF
  obtain ⟨r1, h2, hF⟩ := hX
  refine TS.regionP (by kernel_rfl) ?_
  refine TI.run 5 [2, 4, 7] [1] (a2 := (st 9 [(2, pt 1 0), (4, iv p0), (7, iv (w64 (0 - p1)))])) (h2 := [.dead, cl 23 [iv 0, iv 0]]) (by kernel_rfl) ?_
  refine TI.callF (C43 _ _ _ h2) (by kernel_rfl) (by kernel_rfl) ?_
  refine TI.run 1 [2] [1] (a2 := (st 9 [(2, pt 1 0)])) (h2 := [.dead, cl 23 [iv r1.1, iv r1.2]]) (by kernel_rfl) ?_
  refine TI.done (by kernel_rfl) ?_
  refine NX.sq ?_
  refine TS.ret' (by kernel_rfl) ?_
  have hF := Option.some.inj hF
  subst hF
  exact ⟨.inr rfl, rfl, ag [iv r1.1, iv r1.2], by kernel_rfl, WkV.flat0 (by kernel_rfl) (Nat.le_of_ble_eq_true rfl)⟩
theorem C47 (p0 : Int) (p1 : Int) (r : (Int × Int)) (hF : F47 p0 p1 = some r) : PureSim Try.prog 47 [ag [iv p0, iv p1]] [] (V47 0 r) (N47 0 r) :=
  PureSim.of_Fin Try.func47 (c := c47) (by kernel_rfl) (by kernel_rfl) 0 rfl [0] [] (by kernel_rfl) (B47 p0 p1 r hF)

-- agonic/agoniclaw06.choices
noncomputable def c48 : Code := Try.f48.code
def H48_0 (p0 : (List (Int × Int))) (p1 : (List (Int × Int))) : List Blk := [accB 27 (List.length p0) (List.flatMap e27 p0), accB 27 (List.length p1) (List.flatMap e27 p1)]
def F48l0 (p0 : (List (Int × Int))) (p1 : (List (Int × Int))) (v10 : Int) : Option (Unit ⊕ Unit) :=
    if decide (v10 < (List.length p0 : Int)) then
      if (0 : Int) ≤ v10 ∧ v10 < (List.length p0 : Int) then
        some (List.getD p0 (Int.toNat v10) (0, 0)) >>= fun o21 =>
        if (0 : Int) ≤ v10 ∧ v10 < (List.length p1 : Int) then
          some (List.getD p1 (Int.toNat v10) (0, 0)) >>= fun o24 =>
          if !((o21.1 == o24.1) && ((o21.2 == o24.2) && true)) then
            some (.inl ())
          else
            F48l0 p0 p1 (w64 (v10 + 1))
        else none
      else none
    else
      some (.inr ())
  partial_fixpoint
def F48 (p0 : (List (Int × Int))) (p1 : (List (Int × Int))) : Option Bool :=
  if (List.length p0 : Int) != (List.length p1 : Int) then
    some false
  else
    F48l0 p0 p1 0 >>= fun r27 =>
    match r27 with
    | .inl o29 =>
      some false
    | .inr o30 =>
      some true
def V48 (b : Nat) (r : Bool) : Value := .bool r
def N48 (b : Nat) (r : Bool) : List Blk := []
def P48l0 (p0 : (List (Int × Int))) (p1 : (List (Int × Int))) (r : (Unit ⊕ Unit)) : Post := fun e a h => (match r with | .inl q0 => e = .ret ∧ Wk Try.prog 2 2 a h (st 26 [(4, .bool false)]) (H48_0 p0 p1) | .inr q0 => e = .exit 0 ∧ Wk Try.prog 2 2 a h (st 26 []) (H48_0 p0 p1))
theorem L48l0 (p0 : (List (Int × Int))) (p1 : (List (Int × Int))) (v10 : Int) (r : (Unit ⊕ Unit)) (hF : F48l0 p0 p1 v10 = some r) : TL Try.prog 2 2 c48.s2.s2.s1.s2.bd.bd (st 26 [(0, .slice (some ⟨0, 0, none⟩) (List.length p0) ANY), (1, .slice (some ⟨1, 0, none⟩) (List.length p1) ANY), (5, iv v10)]) (H48_0 p0 p1) (P48l0 p0 p1 r) := by
  refine F48l0.partial_correctness p0 p1 (motive := fun v10 r => TL Try.prog 2 2 c48.s2.s2.s1.s2.bd.bd (st 26 [(0, .slice (some ⟨0, 0, none⟩) (List.length p0) ANY), (1, .slice (some ⟨1, 0, none⟩) (List.length p1) ANY), (5, iv v10)]) (H48_0 p0 p1) (P48l0 p0 p1 r)) ?_ v10 r hF
  clear hF r v10
  intro again ih v10 r hF
  refine TL.round ?_
  refine TS.seqP (by kernel_rfl) ?_
  refine TS.seqP (by kernel_rfl) ?_
  refine TS.regionP (by kernel_rfl) ?_
  refine TI.runA 4 [0, 1, 5, 14] (a2 := (st 26 [(0, .slice (some ⟨0, 0, none⟩) (List.length p0) ANY), (1, .slice (some ⟨1, 0, none⟩) (List.length p1) ANY), (5, iv v10), (14, .bool (decide (v10 < (List.length p0 : Int))))])) (by kernel_rfl) ?_
  refine TI.done (by kernel_rfl) ?_
  refine NX.sq ?_
  refine TS.condP (o := (.tmp 14)) (b := decide (v10 < (List.length p0 : Int))) (by kernel_rfl) (by kernel_rfl) (fun hc19 => ?_) (fun hc19 => ?_)
  · replace hF := of_pos hF hc19
    refine TS.skip' (by kernel_rfl) ?_
    refine NX.sq ?_
    refine TS.seqP (by kernel_rfl) ?_
    refine TS.blockP (id := 1) (by kernel_rfl) ?_
    refine TS.seqP (by kernel_rfl) ?_
    have hX := of_guard hF
    clear hF
    obtain ⟨hg20, hF⟩ := hX
    have hX := of_do hF
    clear hF
    obtain ⟨o21, h22, hF⟩ := hX
    replace h22 := Option.some.inj h22
    have hX := of_guard hF
    clear hF
    obtain ⟨hg23, hF⟩ := hX
    have hX := of_do hF
    clear hF
    obtain ⟨o24, h25, hF⟩ := hX
    replace h25 := Option.some.inj h25
    refine TS.drawP [] (fun e he => by cases he) mixed (by kernel_rfl) 8 (by kernel_rfl) [0, 1, 5, 25] [0, 1] (a2 := (st 26 [(0, .slice (some ⟨0, 0, none⟩) (List.length p0) ANY), (1, .slice (some ⟨1, 0, none⟩) (List.length p1) ANY), (5, iv v10), (25, .bool (!((o21.1 == o24.1) && ((o21.2 == o24.2) && true))))])) (h2 := (H48_0 p0 p1)) ?_ ?_
    · refine QJ.run (s1 := (qs (st 26 [(0, .slice (some ⟨0, 0, none⟩) (List.length p0) ANY), (1, .slice (some ⟨1, 0, none⟩) (List.length p1) ANY), (5, iv v10), (14, .bool (decide (v10 < (List.length p0 : Int)))), (17, .slice (some ⟨0, 0, none⟩) (List.length p0) ANY), (18, iv v10)]) (H48_0 p0 p1) [] [])) 2 (by kernel_rfl) (by kernel_rfl) ?_
      refine QJ.op (q := { val := .pointer (some ⟨0, 0 + (Int.toNat v10) * 2, none⟩) }) (by decide) (q_ixS 0 0 ((Int.toNat v10) * 2) (by kernel_rfl) hg20) ?_
      refine QJ.op (q := { val := ag [iv o21.1, iv o21.2] }) (by decide) (q_eqv (q_ldA (P := Try.prog) (hp := (H48_0 p0 p1)) (t := 27) (b := 0) (off := 0 + (Int.toNat v10) * 2) (l := p0) (enc := e27) (s := 2) (T := 27) (i := Int.toNat v10) (by kernel_rfl) (accB_at (h := (H48_0 p0 p1)) (n := List.length p0) (i := Int.toNat v10) (by kernel_rfl) (by first | omega | (simp only [List.length_set, List.length_replicate, List.length_cons, List.length_nil, List.length_append]; omega))) (by kernel_rfl) (by kernel_rfl) (fun _ => rfl) (by omega) (by first | omega | (simp only [List.length_set, List.length_replicate, List.length_cons, List.length_nil, List.length_append]; omega)) (0, 0)) (congrArg (fun (z : (Int × Int)) => ({ val := ag [iv z.1, iv z.2] } : QRes)) h22)) ?_
      refine QJ.run (s1 := (qs (st 26 [(0, .slice (some ⟨0, 0, none⟩) (List.length p0) ANY), (1, .slice (some ⟨1, 0, none⟩) (List.length p1) ANY), (5, iv v10), (14, .bool (decide (v10 < (List.length p0 : Int)))), (17, .slice (some ⟨0, 0, none⟩) (List.length p0) ANY), (18, iv v10), (19, .pointer (some ⟨0, 0 + (Int.toNat v10) * 2, none⟩)), (20, ag [iv o21.1, iv o21.2]), (21, .slice (some ⟨1, 0, none⟩) (List.length p1) ANY), (22, iv v10)]) (H48_0 p0 p1) [] [])) 2 (by kernel_rfl) (by kernel_rfl) ?_
      refine QJ.op (q := { val := .pointer (some ⟨1, 0 + (Int.toNat v10) * 2, none⟩) }) (by decide) (q_ixS 1 0 ((Int.toNat v10) * 2) (by kernel_rfl) hg23) ?_
      refine QJ.op (q := { val := ag [iv o24.1, iv o24.2] }) (by decide) (q_eqv (q_ldA (P := Try.prog) (hp := (H48_0 p0 p1)) (t := 27) (b := 1) (off := 0 + (Int.toNat v10) * 2) (l := p1) (enc := e27) (s := 2) (T := 27) (i := Int.toNat v10) (by kernel_rfl) (accB_at (h := (H48_0 p0 p1)) (n := List.length p1) (i := Int.toNat v10) (by kernel_rfl) (by first | omega | (simp only [List.length_set, List.length_replicate, List.length_cons, List.length_nil, List.length_append]; omega))) (by kernel_rfl) (by kernel_rfl) (fun _ => rfl) (by omega) (by first | omega | (simp only [List.length_set, List.length_replicate, List.length_cons, List.length_nil, List.length_append]; omega)) (0, 0)) (congrArg (fun (z : (Int × Int)) => ({ val := ag [iv z.1, iv z.2] } : QRes)) h25)) ?_
      refine QJ.done (by kernel_rfl) ⟨rfl, ?_⟩
      refine SJ.last (by kernel_rfl)
    refine TS.condP (o := (.tmp 25)) (b := !((o21.1 == o24.1) && ((o21.2 == o24.2) && true))) (by kernel_rfl) (by kernel_rfl) (fun hc26 => ?_) (fun hc26 => ?_)
    · replace hF := of_pos hF hc26
      refine TS.seqP (by kernel_rfl) ?_
      refine TS.regionP (by kernel_rfl) ?_
      refine TI.runA 1 [4] (a2 := (st 26 [(4, .bool false)])) (by kernel_rfl) ?_
      refine TI.done (by kernel_rfl) ?_
      refine NX.sq ?_
      refine TS.ret' (by kernel_rfl) ?_
      refine NX.bkR ?_
      refine NX.sqR ?_
      have hF := Option.some.inj hF
      subst hF
      exact Rd.out (e := .ret) (by intro h; cases h) (And.intro rfl (Wk.anew (base := 2) (L := 2) (f := []) (by decide) (by decide) (Nat.le_of_ble_eq_true rfl) rfl (.cons (At.acc (by kernel_rfl) rfl (fun _ => rfl)) (.cons (At.acc (by kernel_rfl) rfl (fun _ => rfl)) (.nil _))) (LRn.stx [4] [.bool false] [.bool false] (.cons (.flat (by kernel_rfl)) .nil) (by kernel_rfl) (by kernel_rfl) rfl) rfl rfl))
    · replace hF := of_neg hF hc26
      refine TS.skip' (by kernel_rfl) ?_
      refine NX.bk ?_
      refine NX.sq ?_
      refine TS.regionP (by kernel_rfl) ?_
      refine TI.runA 3 [0, 1, 5] (a2 := (st 26 [(0, .slice (some ⟨0, 0, none⟩) (List.length p0) ANY), (1, .slice (some ⟨1, 0, none⟩) (List.length p1) ANY), (5, iv (w64 (v10 + 1)))])) (by kernel_rfl) ?_
      refine TI.done (by kernel_rfl) ?_
      exact Rd.again (a2 := (st 26 [(0, .slice (some ⟨0, 0, none⟩) (List.length p0) ANY), (1, .slice (some ⟨1, 0, none⟩) (List.length p1) ANY), (5, iv (w64 (v10 + 1)))])) (h2 := (H48_0 p0 p1)) (Wk.anew (base := 2) (L := 2) (f := []) (by decide) (by decide) (Nat.le_of_ble_eq_true rfl) rfl (.cons (At.acc (by kernel_rfl) rfl (fun _ => rfl)) (.cons (At.acc (by kernel_rfl) rfl (fun _ => rfl)) (.nil _))) (LRn.stx [0, 1, 5] [.slice (some ⟨0, 0, none⟩) (List.length p0) ANY, .slice (some ⟨1, 0, none⟩) (List.length p1) ANY, iv (w64 (v10 + 1))] [.slice (some ⟨0, 0, none⟩) (List.length p0) ANY, .slice (some ⟨1, 0, none⟩) (List.length p1) ANY, iv (w64 (v10 + 1))] (.cons (Rn.slice0 _ _ _ _ (Nat.le_of_ble_eq_true rfl) rfl) (.cons (Rn.slice0 _ _ _ _ (Nat.le_of_ble_eq_true rfl) rfl) (.cons (.flat (by kernel_rfl)) .nil))) (by kernel_rfl) (by kernel_rfl) rfl) rfl rfl) (ih (w64 (v10 + 1)) _ hF)
  · replace hF := of_neg hF hc19
    refine TS.exit' (id := 0) (by kernel_rfl) ?_
    refine NX.sqX ?_
    have hF := Option.some.inj hF
    subst hF
    exact Rd.out (e := .exit 0) (by intro h; cases h) (And.intro rfl (Wk.anew (base := 2) (L := 2) (f := []) (by decide) (by decide) (Nat.le_of_ble_eq_true rfl) rfl (.cons (At.acc (by kernel_rfl) rfl (fun _ => rfl)) (.cons (At.acc (by kernel_rfl) rfl (fun _ => rfl)) (.nil _))) (LRn.stx [] [] [] .nil (by kernel_rfl) (by kernel_rfl) rfl) rfl rfl))
theorem B48 (p0 : (List (Int × Int))) (p1 : (List (Int × Int))) (r : Bool) (hF : F48 p0 p1 = some r) : TS Try.prog 2 2 c48 (st 26 [(0, .slice (some ⟨0, 0, none⟩) (List.length p0) ANY), (1, .slice (some ⟨1, 0, none⟩) (List.length p1) ANY)]) (H48_0 p0 p1) (NX Try.prog 2 2 [] (FinP Try.prog Try.f48 2 (V48 2 r) (N48 2 r))) := by
  unfold F48 at hF
  refine TS.seqP (by kernel_rfl) ?_
  refine TS.regionP (by kernel_rfl) ?_
  refine TI.runA 1 [0, 1] (a2 := (st 26 [(0, .slice (some ⟨0, 0, none⟩) (List.length p0) ANY), (1, .slice (some ⟨1, 0, none⟩) (List.length p1) ANY)])) (by kernel_rfl) ?_
  refine TI.done (by kernel_rfl) ?_
  refine NX.sq ?_
  refine TS.seqP (by kernel_rfl) ?_
  refine TS.seqP (by kernel_rfl) ?_
  refine TS.regionP (by kernel_rfl) ?_
  refine TI.runA 5 [0, 1, 10] (a2 := (st 26 [(0, .slice (some ⟨0, 0, none⟩) (List.length p0) ANY), (1, .slice (some ⟨1, 0, none⟩) (List.length p1) ANY), (10, .bool ((List.length p0 : Int) != (List.length p1 : Int)))])) (by kernel_rfl) ?_
  refine TI.done (by kernel_rfl) ?_
  refine NX.sq ?_
  refine TS.condP (o := (.tmp 10)) (b := (List.length p0 : Int) != (List.length p1 : Int)) (by kernel_rfl) (by kernel_rfl) (fun hc1 => ?_) (fun hc1 => ?_)
  · replace hF := of_pos hF hc1
    refine TS.seqP (by kernel_rfl) ?_
    refine TS.regionP (by kernel_rfl) ?_
    refine TI.runA 1 [4] (a2 := (st 26 [(4, .bool false)])) (by kernel_rfl) ?_
    refine TI.done (by kernel_rfl) ?_
    refine NX.sq ?_
    refine TS.ret' (by kernel_rfl) ?_
    refine NX.sqR ?_
    have hF := Option.some.inj hF
    subst hF
    exact ⟨.inr rfl, rfl, .bool false, by kernel_rfl, WkV.flat0 (by kernel_rfl) (Nat.le_of_ble_eq_true rfl)⟩
  · replace hF := of_neg hF hc1
    refine TS.skip' (by kernel_rfl) ?_
    refine NX.sq ?_
    refine TS.seqP (by kernel_rfl) ?_
    refine TS.seqP (by kernel_rfl) ?_
    refine TS.regionP (by kernel_rfl) ?_
    refine TI.runA 1 [0, 1, 5] (a2 := (st 26 [(0, .slice (some ⟨0, 0, none⟩) (List.length p0) ANY), (1, .slice (some ⟨1, 0, none⟩) (List.length p1) ANY), (5, iv 0)])) (by kernel_rfl) ?_
    refine TI.done (by kernel_rfl) ?_
    refine NX.sq ?_
    refine TS.blockP (id := 0) (by kernel_rfl) ?_
    have hX := of_do hF
    clear hF
    obtain ⟨r27, h28, hF⟩ := hX
    refine TS.loopP (by kernel_rfl) (TL.weak (a2 := (st 26 [(0, .slice (some ⟨0, 0, none⟩) (List.length p0) ANY), (1, .slice (some ⟨1, 0, none⟩) (List.length p1) ANY), (5, iv 0)])) (h2 := (H48_0 p0 p1)) (Wk.anew (base := 2) (L := 2) (f := []) (by decide) (by decide) (Nat.le_of_ble_eq_true rfl) rfl (.cons (At.acc (by kernel_rfl) rfl (fun _ => rfl)) (.cons (At.acc (by kernel_rfl) rfl (fun _ => rfl)) (.nil _))) (LRn.stx [0, 1, 5] [.slice (some ⟨0, 0, none⟩) (List.length p0) ANY, .slice (some ⟨1, 0, none⟩) (List.length p1) ANY, iv 0] [.slice (some ⟨0, 0, none⟩) (List.length p0) ANY, .slice (some ⟨1, 0, none⟩) (List.length p1) ANY, iv 0] (.cons (Rn.slice0 _ _ _ _ (Nat.le_of_ble_eq_true rfl) rfl) (.cons (Rn.slice0 _ _ _ _ (Nat.le_of_ble_eq_true rfl) rfl) (.cons (.flat (by kernel_rfl)) .nil))) (by kernel_rfl) (by kernel_rfl) rfl) rfl rfl) (TL.post (L48l0 p0 p1 0 r27 h28) ?_))
    rintro e a1 h1 hp
    rcases r27 with o29 | o30
    · skip
      obtain ⟨rfl, hw⟩ := hp
      refine ⟨(st 26 [(4, .bool false)]), (H48_0 p0 p1), ?_, hw⟩
      refine NX.bkR ?_
      refine NX.sqR ?_
      have hF := Option.some.inj hF
      subst hF
      exact ⟨.inr rfl, rfl, .bool false, by kernel_rfl, WkV.flat0 (by kernel_rfl) (Nat.le_of_ble_eq_true rfl)⟩
    · skip
      obtain ⟨rfl, hw⟩ := hp
      refine ⟨(st 26 []), (H48_0 p0 p1), ?_, hw⟩
      refine NX.bkX ?_
      refine NX.sq ?_
      refine TS.seqP (by kernel_rfl) ?_
      refine TS.regionP (by kernel_rfl) ?_
      refine TI.runA 1 [4] (a2 := (st 26 [(4, .bool true)])) (by kernel_rfl) ?_
      refine TI.done (by kernel_rfl) ?_
      refine NX.sq ?_
      refine TS.ret' (by kernel_rfl) ?_
      have hF := Option.some.inj hF
      subst hF
      exact ⟨.inr rfl, rfl, .bool true, by kernel_rfl, WkV.flat0 (by kernel_rfl) (Nat.le_of_ble_eq_true rfl)⟩
theorem C48 (p0 : (List (Int × Int))) (p1 : (List (Int × Int))) (r : Bool) (hF : F48 p0 p1 = some r) : PureSim Try.prog 48 [.slice (some ⟨0, 0, none⟩) (List.length p0) ANY, .slice (some ⟨1, 0, none⟩) (List.length p1) ANY] (H48_0 p0 p1) (V48 2 r) (N48 2 r) :=
  PureSim.of_Fin Try.func48 (c := c48) (by kernel_rfl) (by kernel_rfl) 2 rfl [0, 1] [0, 1] (by kernel_rfl) (B48 p0 p1 r hF)

-- agonic/agoniclaw06.MagnetMoved
noncomputable def c10 : Code := Try.f10.code
def S10_0 (r3 : ((List (Int × Int)) × Int)) (r15 : ((List (Int × Int)) × Int)) (r23 : ((List (Int × Int)) × Int)) (r31 : ((List (Int × Int)) × Int)) (r35 : ((List (Int × Int)) × Int)) (r43 : ((Int × Int) × (Int × Int) × Int)) : CAct := (st 233 [(7, accV 4 (List.length r3.1)), (8, iv r15.2), (10, pt 6 0), (11, iv r23.2), (12, .func (.func 46) ⟨[]⟩ ⟨[]⟩), (14, pt 7 0), (15, accV 8 (List.length r15.1)), (16, accV 9 (List.length r23.1)), (17, accV 10 (List.length r31.1)), (18, iv r31.2), (19, accV 11 (List.length r35.1)), (20, iv r35.2), (22, pt 13 0), (23, iv r43.2.2), (129, iv r15.2), (130, .bool false), (131, .bool false), (132, iv r23.2), (133, .bool false), (134, .bool false), (135, .bool false), (136, iv r31.2), (137, .bool false), (138, .bool false), (139, .bool false), (140, iv r35.2), (141, .bool false), (142, .bool false), (143, .bool false), (144, iv r43.2.2), (145, .bool false), (146, .bool false), (147, .bool false), (148, accV 8 (List.length r15.1)), (149, iv (List.length r15.1 : Int)), (150, accV 4 (List.length r3.1)), (151, iv (List.length r3.1 : Int)), (152, .bool false), (153, .bool false), (154, .bool false), (155, accV 11 (List.length r35.1)), (156, iv (List.length r35.1 : Int)), (157, accV 4 (List.length r3.1)), (158, iv (List.length r3.1 : Int)), (159, .bool false), (160, .bool false), (161, .bool false), (162, accV 9 (List.length r23.1)), (163, accV 4 (List.length r3.1)), (164, .bool true), (165, .bool false), (166, .bool false), (167, .bool false), (168, accV 10 (List.length r31.1)), (169, accV 4 (List.length r3.1))])
def S10_1 (r3 : ((List (Int × Int)) × Int)) (r15 : ((List (Int × Int)) × Int)) (r23 : ((List (Int × Int)) × Int)) (r31 : ((List (Int × Int)) × Int)) (r35 : ((List (Int × Int)) × Int)) (r43 : ((Int × Int) × (Int × Int) × Int)) : CAct := (st 233 [(7, accV 4 (List.length r3.1)), (8, iv r15.2), (10, pt 6 0), (11, iv r23.2), (12, .func (.func 46) ⟨[]⟩ ⟨[]⟩), (14, pt 7 0), (15, accV 8 (List.length r15.1)), (16, accV 9 (List.length r23.1)), (17, accV 10 (List.length r31.1)), (18, iv r31.2), (19, accV 11 (List.length r35.1)), (20, iv r35.2), (22, pt 13 0), (23, iv r43.2.2), (129, iv r15.2), (130, .bool false), (131, .bool false), (132, iv r23.2), (133, .bool false), (134, .bool false), (135, .bool false), (136, iv r31.2), (137, .bool false), (138, .bool false), (139, .bool false), (140, iv r35.2), (141, .bool false), (142, .bool false), (143, .bool false), (144, iv r43.2.2), (145, .bool false), (146, .bool false), (147, .bool false), (148, accV 8 (List.length r15.1)), (149, iv (List.length r15.1 : Int)), (150, accV 4 (List.length r3.1)), (151, iv (List.length r3.1 : Int)), (152, .bool false), (153, .bool false), (154, .bool false), (155, accV 11 (List.length r35.1)), (156, iv (List.length r35.1 : Int)), (157, accV 4 (List.length r3.1)), (158, iv (List.length r3.1 : Int)), (159, .bool false), (160, .bool false), (161, .bool false), (162, accV 9 (List.length r23.1)), (163, accV 4 (List.length r3.1))])
def S10_2 (r3 : ((List (Int × Int)) × Int)) (r15 : ((List (Int × Int)) × Int)) (r23 : ((List (Int × Int)) × Int)) (r31 : ((List (Int × Int)) × Int)) (r35 : ((List (Int × Int)) × Int)) (r43 : ((Int × Int) × (Int × Int) × Int)) (r1 : (((Int × Int) × (Int × Int)) × (Int × Int))) (r37 : (Int × Int)) (r39 : (Int × Int)) (r41 : (Int × Int)) : CAct := (st 233 [(5, pt 2 0), (6, pt 3 0), (7, accV 4 (List.length r3.1)), (8, iv r15.2), (10, pt 6 0), (11, iv r23.2), (12, .func (.func 46) ⟨[]⟩ ⟨[]⟩), (14, pt 7 0), (15, accV 8 (List.length r15.1)), (16, accV 9 (List.length r23.1)), (17, accV 10 (List.length r31.1)), (18, iv r31.2), (19, accV 11 (List.length r35.1)), (20, iv r35.2), (21, pt 12 0), (22, pt 13 0), (23, iv r43.2.2), (112, .tuple ⟨[ag [iv r43.1.1, iv r43.1.2], ag [iv r43.2.1.1, iv r43.2.1.2], iv r43.2.2]⟩), (113, .func (.func 46) ⟨[]⟩ ⟨[]⟩), (114, pt 2 0), (115, ag [iv r1.1.1.1, iv r1.1.1.2]), (116, ag [iv r37.1, iv r37.2]), (117, .func (.func 46) ⟨[]⟩ ⟨[]⟩), (118, pt 2 2), (119, ag [iv r1.1.2.1, iv r1.1.2.2]), (120, ag [iv r39.1, iv r39.2]), (121, ag [iv r37.1, iv r37.2, iv r39.1, iv r39.2]), (122, .func (.func 46) ⟨[]⟩ ⟨[]⟩), (123, ag [iv r1.2.1, iv r1.2.2]), (124, ag [iv r41.1, iv r41.2]), (125, .tuple ⟨[ag [iv r43.1.1, iv r43.1.2], ag [iv r43.2.1.1, iv r43.2.1.2], iv r43.2.2]⟩), (126, ag [iv r43.1.1, iv r43.1.2]), (127, ag [iv r43.2.1.1, iv r43.2.1.2]), (128, iv r43.2.2)])
def S10_3 (r3 : ((List (Int × Int)) × Int)) (r15 : ((List (Int × Int)) × Int)) (r23 : ((List (Int × Int)) × Int)) (r31 : ((List (Int × Int)) × Int)) (r35 : ((List (Int × Int)) × Int)) (r43 : ((Int × Int) × (Int × Int) × Int)) : CAct := (st 233 [(7, accV 4 (List.length r3.1)), (8, iv r15.2), (10, pt 6 0), (11, iv r23.2), (12, .func (.func 46) ⟨[]⟩ ⟨[]⟩), (14, pt 7 0), (15, accV 8 (List.length r15.1)), (16, accV 9 (List.length r23.1)), (17, accV 10 (List.length r31.1)), (18, iv r31.2), (19, accV 11 (List.length r35.1)), (20, iv r35.2), (22, pt 13 0), (23, iv r43.2.2), (129, iv r15.2), (130, .bool false), (131, .bool false), (132, iv r23.2), (133, .bool false), (134, .bool false), (135, .bool false), (136, iv r31.2), (137, .bool false), (138, .bool false), (139, .bool false), (140, iv r35.2), (141, .bool false), (142, .bool false), (143, .bool false), (144, iv r43.2.2), (145, .bool false), (146, .bool false), (147, .bool false), (148, accV 8 (List.length r15.1)), (149, iv (List.length r15.1 : Int)), (150, accV 4 (List.length r3.1)), (151, iv (List.length r3.1 : Int)), (152, .bool false), (153, .bool false), (154, .bool false), (155, accV 11 (List.length r35.1)), (156, iv (List.length r35.1 : Int)), (157, accV 4 (List.length r3.1)), (158, iv (List.length r3.1 : Int))])
def S10_4 (r3 : ((List (Int × Int)) × Int)) (r15 : ((List (Int × Int)) × Int)) (r23 : ((List (Int × Int)) × Int)) (r31 : ((List (Int × Int)) × Int)) (r35 : ((List (Int × Int)) × Int)) (r43 : ((Int × Int) × (Int × Int) × Int)) (r1 : (((Int × Int) × (Int × Int)) × (Int × Int))) (r37 : (Int × Int)) (r39 : (Int × Int)) (r41 : (Int × Int)) : CAct := (st 233 [(5, pt 2 0), (6, pt 3 0), (7, accV 4 (List.length r3.1)), (8, iv r15.2), (10, pt 6 0), (11, iv r23.2), (12, .func (.func 46) ⟨[]⟩ ⟨[]⟩), (14, pt 7 0), (15, accV 8 (List.length r15.1)), (16, accV 9 (List.length r23.1)), (17, accV 10 (List.length r31.1)), (18, iv r31.2), (19, accV 11 (List.length r35.1)), (20, iv r35.2), (21, pt 12 0), (22, pt 13 0), (112, .tuple ⟨[ag [iv r43.1.1, iv r43.1.2], ag [iv r43.2.1.1, iv r43.2.1.2], iv r43.2.2]⟩), (113, .func (.func 46) ⟨[]⟩ ⟨[]⟩), (114, pt 2 0), (115, ag [iv r1.1.1.1, iv r1.1.1.2]), (116, ag [iv r37.1, iv r37.2]), (117, .func (.func 46) ⟨[]⟩ ⟨[]⟩), (118, pt 2 2), (119, ag [iv r1.1.2.1, iv r1.1.2.2]), (120, ag [iv r39.1, iv r39.2]), (121, ag [iv r37.1, iv r37.2, iv r39.1, iv r39.2]), (122, .func (.func 46) ⟨[]⟩ ⟨[]⟩), (123, ag [iv r1.2.1, iv r1.2.2]), (124, ag [iv r41.1, iv r41.2]), (125, .tuple ⟨[ag [iv r43.1.1, iv r43.1.2], ag [iv r43.2.1.1, iv r43.2.1.2], iv r43.2.2]⟩), (126, ag [iv r43.1.1, iv r43.1.2]), (127, ag [iv r43.2.1.1, iv r43.2.1.2]), (128, iv r43.2.2)])
def S10_5 (r3 : ((List (Int × Int)) × Int)) (r15 : ((List (Int × Int)) × Int)) (r23 : ((List (Int × Int)) × Int)) (r31 : ((List (Int × Int)) × Int)) (r35 : ((List (Int × Int)) × Int)) (r43 : ((Int × Int) × (Int × Int) × Int)) : CAct := (st 233 [(7, accV 4 (List.length r3.1)), (8, iv r15.2), (10, pt 6 0), (11, iv r23.2), (12, .func (.func 46) ⟨[]⟩ ⟨[]⟩), (14, pt 7 0), (15, accV 8 (List.length r15.1)), (16, accV 9 (List.length r23.1)), (17, accV 10 (List.length r31.1)), (18, iv r31.2), (19, accV 11 (List.length r35.1)), (20, iv r35.2), (22, pt 13 0), (23, iv r43.2.2), (129, iv r15.2), (130, .bool false), (131, .bool false), (132, iv r23.2), (133, .bool false), (134, .bool false), (135, .bool false), (136, iv r31.2), (137, .bool false), (138, .bool false), (139, .bool false), (140, iv r35.2), (141, .bool false), (142, .bool false), (143, .bool false), (144, iv r43.2.2), (145, .bool false), (146, .bool false), (147, .bool false), (148, accV 8 (List.length r15.1)), (149, iv (List.length r15.1 : Int)), (150, accV 4 (List.length r3.1)), (151, iv (List.length r3.1 : Int))])
def S10_6 (r3 : ((List (Int × Int)) × Int)) (r15 : ((List (Int × Int)) × Int)) (r35 : ((List (Int × Int)) × Int)) (v76 : Int) (o96 : (Int × Int)) (o99 : (Int × Int)) (r9 : (Int × Int)) : CAct := (st 233 [(7, accV 0 (List.length r3.1)), (14, pt 1 0), (15, accV 2 (List.length r15.1)), (19, accV 3 (List.length r35.1)), (24, iv v76), (181, iv (List.length r3.1 : Int)), (182, iv v76), (185, accV 2 (List.length r15.1)), (186, iv v76), (187, .pointer (some ⟨2, 0 + (Int.toNat v76) * 2, none⟩)), (188, ag [iv o96.1, iv o96.2]), (189, accV 0 (List.length r3.1)), (190, iv v76), (191, .pointer (some ⟨0, 0 + (Int.toNat v76) * 2, none⟩)), (192, .pointer (some ⟨0, 0 + (Int.toNat v76) * 2, none⟩)), (193, iv o99.1), (194, pt 1 0), (195, iv r9.1), (196, iv (w64 (o99.1 - r9.1))), (197, accV 0 (List.length r3.1)), (198, iv v76), (199, .pointer (some ⟨0, 0 + (Int.toNat v76) * 2, none⟩)), (200, .pointer (some ⟨0, 0 + (Int.toNat v76) * 2 + 1, none⟩)), (201, iv o99.2), (202, pt 1 1), (203, iv r9.2), (204, iv (w64 (o99.2 - r9.2)))])
def S10_7 (r3 : ((List (Int × Int)) × Int)) (r15 : ((List (Int × Int)) × Int)) (r23 : ((List (Int × Int)) × Int)) (r31 : ((List (Int × Int)) × Int)) (r35 : ((List (Int × Int)) × Int)) (r1 : (((Int × Int) × (Int × Int)) × (Int × Int))) (r37 : (Int × Int)) (r39 : (Int × Int)) (r41 : (Int × Int)) (r43 : ((Int × Int) × (Int × Int) × Int)) : CAct := (st 233 [(5, pt 2 0), (6, pt 3 0), (7, accV 4 (List.length r3.1)), (8, iv r15.2), (10, pt 6 0), (11, iv r23.2), (12, .func (.func 46) ⟨[]⟩ ⟨[]⟩), (14, pt 7 0), (15, accV 8 (List.length r15.1)), (16, accV 9 (List.length r23.1)), (17, accV 10 (List.length r31.1)), (18, iv r31.2), (19, accV 11 (List.length r35.1)), (20, iv r35.2), (113, .func (.func 46) ⟨[]⟩ ⟨[]⟩), (114, pt 2 0), (115, ag [iv r1.1.1.1, iv r1.1.1.2]), (116, ag [iv r37.1, iv r37.2]), (117, .func (.func 46) ⟨[]⟩ ⟨[]⟩), (118, pt 2 2), (119, ag [iv r1.1.2.1, iv r1.1.2.2]), (120, ag [iv r39.1, iv r39.2]), (121, ag [iv r37.1, iv r37.2, iv r39.1, iv r39.2]), (122, .func (.func 46) ⟨[]⟩ ⟨[]⟩), (123, ag [iv r1.2.1, iv r1.2.2]), (124, ag [iv r41.1, iv r41.2]), (125, .tuple ⟨[ag [iv r43.1.1, iv r43.1.2], ag [iv r43.2.1.1, iv r43.2.1.2], iv r43.2.2]⟩)])
def S10_8 (r3 : ((List (Int × Int)) × Int)) (r15 : ((List (Int × Int)) × Int)) (r35 : ((List (Int × Int)) × Int)) (v76 : Int) (o96 : (Int × Int)) (o99 : (Int × Int)) (r9 : (Int × Int)) : CAct := (st 233 [(7, accV 0 (List.length r3.1)), (14, pt 1 0), (15, accV 2 (List.length r15.1)), (19, accV 3 (List.length r35.1)), (24, iv v76), (181, iv (List.length r3.1 : Int)), (182, iv v76), (185, accV 2 (List.length r15.1)), (186, iv v76), (187, .pointer (some ⟨2, 0 + (Int.toNat v76) * 2, none⟩)), (188, ag [iv o96.1, iv o96.2]), (189, accV 0 (List.length r3.1)), (190, iv v76), (191, .pointer (some ⟨0, 0 + (Int.toNat v76) * 2, none⟩)), (192, .pointer (some ⟨0, 0 + (Int.toNat v76) * 2, none⟩)), (193, iv o99.1), (194, pt 1 0), (195, iv r9.1), (196, iv (w64 (o99.1 - r9.1))), (197, accV 0 (List.length r3.1)), (198, iv v76), (199, .pointer (some ⟨0, 0 + (Int.toNat v76) * 2, none⟩)), (200, .pointer (some ⟨0, 0 + (Int.toNat v76) * 2 + 1, none⟩))])
def S10_9 (r3 : ((List (Int × Int)) × Int)) (r15 : ((List (Int × Int)) × Int)) (r23 : ((List (Int × Int)) × Int)) (r31 : ((List (Int × Int)) × Int)) (r35 : ((List (Int × Int)) × Int)) (r1 : (((Int × Int) × (Int × Int)) × (Int × Int))) (r37 : (Int × Int)) (r39 : (Int × Int)) (r41 : (Int × Int)) : CAct := (st 233 [(5, pt 2 0), (6, pt 3 0), (7, accV 4 (List.length r3.1)), (8, iv r15.2), (10, pt 6 0), (11, iv r23.2), (12, .func (.func 46) ⟨[]⟩ ⟨[]⟩), (14, pt 7 0), (15, accV 8 (List.length r15.1)), (16, accV 9 (List.length r23.1)), (17, accV 10 (List.length r31.1)), (18, iv r31.2), (19, accV 11 (List.length r35.1)), (20, iv r35.2), (113, .func (.func 46) ⟨[]⟩ ⟨[]⟩), (114, pt 2 0), (115, ag [iv r1.1.1.1, iv r1.1.1.2]), (116, ag [iv r37.1, iv r37.2]), (117, .func (.func 46) ⟨[]⟩ ⟨[]⟩), (118, pt 2 2), (119, ag [iv r1.1.2.1, iv r1.1.2.2]), (120, ag [iv r39.1, iv r39.2]), (121, ag [iv r37.1, iv r37.2, iv r39.1, iv r39.2]), (122, .func (.func 46) ⟨[]⟩ ⟨[]⟩), (123, ag [iv r1.2.1, iv r1.2.2]), (124, ag [iv r41.1, iv r41.2])])
def S10_10 (r3 : ((List (Int × Int)) × Int)) (r15 : ((List (Int × Int)) × Int)) (r23 : ((List (Int × Int)) × Int)) (r31 : ((List (Int × Int)) × Int)) (r35 : ((List (Int × Int)) × Int)) (r1 : (((Int × Int) × (Int × Int)) × (Int × Int))) (r37 : (Int × Int)) (r39 : (Int × Int)) : CAct := (st 233 [(5, pt 2 0), (6, pt 3 0), (7, accV 4 (List.length r3.1)), (8, iv r15.2), (10, pt 6 0), (11, iv r23.2), (12, .func (.func 46) ⟨[]⟩ ⟨[]⟩), (14, pt 7 0), (15, accV 8 (List.length r15.1)), (16, accV 9 (List.length r23.1)), (17, accV 10 (List.length r31.1)), (18, iv r31.2), (19, accV 11 (List.length r35.1)), (20, iv r35.2), (113, .func (.func 46) ⟨[]⟩ ⟨[]⟩), (114, pt 2 0), (115, ag [iv r1.1.1.1, iv r1.1.1.2]), (116, ag [iv r37.1, iv r37.2]), (117, .func (.func 46) ⟨[]⟩ ⟨[]⟩), (118, pt 2 2), (119, ag [iv r1.1.2.1, iv r1.1.2.2]), (120, ag [iv r39.1, iv r39.2]), (121, ag [iv r37.1, iv r37.2, iv r39.1, iv r39.2]), (122, .func (.func 46) ⟨[]⟩ ⟨[]⟩), (123, ag [iv r1.2.1, iv r1.2.2])])
def S10_11 (r3 : ((List (Int × Int)) × Int)) (r15 : ((List (Int × Int)) × Int)) (r23 : ((List (Int × Int)) × Int)) (r31 : ((List (Int × Int)) × Int)) (r35 : ((List (Int × Int)) × Int)) (r43 : ((Int × Int) × (Int × Int) × Int)) : CAct := (st 233 [(7, accV 4 (List.length r3.1)), (8, iv r15.2), (10, pt 6 0), (11, iv r23.2), (12, .func (.func 46) ⟨[]⟩ ⟨[]⟩), (14, pt 7 0), (15, accV 8 (List.length r15.1)), (16, accV 9 (List.length r23.1)), (17, accV 10 (List.length r31.1)), (18, iv r31.2), (19, accV 11 (List.length r35.1)), (20, iv r35.2), (22, pt 13 0), (23, iv r43.2.2), (129, iv r15.2), (130, .bool false), (131, .bool false), (132, iv r23.2), (133, .bool false), (134, .bool false), (135, .bool false), (136, iv r31.2), (137, .bool false), (138, .bool false), (139, .bool false), (140, iv r35.2), (141, .bool false), (142, .bool false), (143, .bool false), (144, iv r43.2.2)])
def S10_12 (r3 : ((List (Int × Int)) × Int)) (r15 : ((List (Int × Int)) × Int)) (r35 : ((List (Int × Int)) × Int)) (v76 : Int) (o96 : (Int × Int)) (o99 : (Int × Int)) (r9 : (Int × Int)) : CAct := (st 233 [(7, accV 0 (List.length r3.1)), (14, pt 1 0), (15, accV 2 (List.length r15.1)), (19, accV 3 (List.length r35.1)), (24, iv v76), (181, iv (List.length r3.1 : Int)), (182, iv v76), (185, accV 2 (List.length r15.1)), (186, iv v76), (187, .pointer (some ⟨2, 0 + (Int.toNat v76) * 2, none⟩)), (188, ag [iv o96.1, iv o96.2]), (189, accV 0 (List.length r3.1)), (190, iv v76), (191, .pointer (some ⟨0, 0 + (Int.toNat v76) * 2, none⟩)), (192, .pointer (some ⟨0, 0 + (Int.toNat v76) * 2, none⟩)), (193, iv o99.1), (194, pt 1 0), (195, iv r9.1), (196, iv (w64 (o99.1 - r9.1))), (197, accV 0 (List.length r3.1)), (198, iv v76)])
def S10_13 (r3 : ((List (Int × Int)) × Int)) (r15 : ((List (Int × Int)) × Int)) (r23 : ((List (Int × Int)) × Int)) (r31 : ((List (Int × Int)) × Int)) (r35 : ((List (Int × Int)) × Int)) (r1 : (((Int × Int) × (Int × Int)) × (Int × Int))) (r37 : (Int × Int)) (r39 : (Int × Int)) : CAct := (st 233 [(5, pt 2 0), (6, pt 3 0), (7, accV 4 (List.length r3.1)), (8, iv r15.2), (10, pt 6 0), (11, iv r23.2), (12, .func (.func 46) ⟨[]⟩ ⟨[]⟩), (14, pt 7 0), (15, accV 8 (List.length r15.1)), (16, accV 9 (List.length r23.1)), (17, accV 10 (List.length r31.1)), (18, iv r31.2), (19, accV 11 (List.length r35.1)), (20, iv r35.2), (113, .func (.func 46) ⟨[]⟩ ⟨[]⟩), (114, pt 2 0), (115, ag [iv r1.1.1.1, iv r1.1.1.2]), (116, ag [iv r37.1, iv r37.2]), (117, .func (.func 46) ⟨[]⟩ ⟨[]⟩), (118, pt 2 2), (119, ag [iv r1.1.2.1, iv r1.1.2.2]), (120, ag [iv r39.1, iv r39.2])])
def S10_14 (r3 : ((List (Int × Int)) × Int)) (r15 : ((List (Int × Int)) × Int)) (r23 : ((List (Int × Int)) × Int)) (r31 : ((List (Int × Int)) × Int)) (r35 : ((List (Int × Int)) × Int)) (r43 : ((Int × Int) × (Int × Int) × Int)) : CAct := (st 233 [(7, accV 4 (List.length r3.1)), (8, iv r15.2), (10, pt 6 0), (11, iv r23.2), (12, .func (.func 46) ⟨[]⟩ ⟨[]⟩), (14, pt 7 0), (15, accV 8 (List.length r15.1)), (16, accV 9 (List.length r23.1)), (17, accV 10 (List.length r31.1)), (18, iv r31.2), (19, accV 11 (List.length r35.1)), (20, iv r35.2), (22, pt 13 0), (23, iv r43.2.2), (129, iv r15.2), (130, .bool false), (131, .bool false), (132, iv r23.2), (133, .bool false), (134, .bool false), (135, .bool false), (136, iv r31.2), (137, .bool false), (138, .bool false), (139, .bool false), (140, iv r35.2)])
def S10_15 (r3 : ((List (Int × Int)) × Int)) (r15 : ((List (Int × Int)) × Int)) (r23 : ((List (Int × Int)) × Int)) (r31 : ((List (Int × Int)) × Int)) (r35 : ((List (Int × Int)) × Int)) (r1 : (((Int × Int) × (Int × Int)) × (Int × Int))) (r37 : (Int × Int)) : CAct := (st 233 [(5, pt 2 0), (6, pt 3 0), (7, accV 4 (List.length r3.1)), (8, iv r15.2), (10, pt 6 0), (11, iv r23.2), (12, .func (.func 46) ⟨[]⟩ ⟨[]⟩), (14, pt 7 0), (15, accV 8 (List.length r15.1)), (16, accV 9 (List.length r23.1)), (17, accV 10 (List.length r31.1)), (18, iv r31.2), (19, accV 11 (List.length r35.1)), (20, iv r35.2), (113, .func (.func 46) ⟨[]⟩ ⟨[]⟩), (114, pt 2 0), (115, ag [iv r1.1.1.1, iv r1.1.1.2]), (116, ag [iv r37.1, iv r37.2]), (117, .func (.func 46) ⟨[]⟩ ⟨[]⟩), (118, pt 2 2), (119, ag [iv r1.1.2.1, iv r1.1.2.2])])
def H10_16 (r1 : (((Int × Int) × (Int × Int)) × (Int × Int))) (r3 : ((List (Int × Int)) × Int)) (r5 : ((Int × Int) × (Int × Int) × Int)) (r9 : (Int × Int)) (r15 : ((List (Int × Int)) × Int)) (r23 : ((List (Int × Int)) × Int)) (r31 : ((List (Int × Int)) × Int)) (r35 : ((List (Int × Int)) × Int)) (r43 : ((Int × Int) × (Int × Int) × Int)) : List Blk := [.dead, .dead, cl 25 [iv r1.1.1.1, iv r1.1.1.2, iv r1.1.2.1, iv r1.1.2.2], cl 23 [iv r1.2.1, iv r1.2.2], accB 27 (List.length r3.1) (List.flatMap e27 r3.1), .dead, cl 23 [iv r5.2.1.1, iv r5.2.1.2], cl 27 [iv r9.1, iv r9.2], accB 27 (List.length r15.1) (List.flatMap e27 r15.1), accB 27 (List.length r23.1) (List.flatMap e27 r23.1), accB 27 (List.length r31.1) (List.flatMap e27 r31.1), accB 27 (List.length r35.1) (List.flatMap e27 r35.1), cl 27 [iv r43.1.1, iv r43.1.2], cl 23 [iv r43.2.1.1, iv r43.2.1.2]]
def S10_17 (r3 : ((List (Int × Int)) × Int)) (r15 : ((List (Int × Int)) × Int)) (r35 : ((List (Int × Int)) × Int)) (v76 : Int) (o96 : (Int × Int)) : CAct := (st 233 [(7, accV 0 (List.length r3.1)), (14, pt 1 0), (15, accV 2 (List.length r15.1)), (19, accV 3 (List.length r35.1)), (24, iv v76), (181, iv (List.length r3.1 : Int)), (182, iv v76), (185, accV 2 (List.length r15.1)), (186, iv v76), (187, .pointer (some ⟨2, 0 + (Int.toNat v76) * 2, none⟩)), (188, ag [iv o96.1, iv o96.2]), (189, accV 0 (List.length r3.1)), (190, iv v76), (191, .pointer (some ⟨0, 0 + (Int.toNat v76) * 2, none⟩)), (192, .pointer (some ⟨0, 0 + (Int.toNat v76) * 2, none⟩))])
def S10_18 (r3 : ((List (Int × Int)) × Int)) (r15 : ((List (Int × Int)) × Int)) (r23 : ((List (Int × Int)) × Int)) (r31 : ((List (Int × Int)) × Int)) (r35 : ((List (Int × Int)) × Int)) (r43 : ((Int × Int) × (Int × Int) × Int)) : CAct := (st 233 [(7, accV 4 (List.length r3.1)), (8, iv r15.2), (10, pt 6 0), (11, iv r23.2), (12, .func (.func 46) ⟨[]⟩ ⟨[]⟩), (14, pt 7 0), (15, accV 8 (List.length r15.1)), (16, accV 9 (List.length r23.1)), (17, accV 10 (List.length r31.1)), (18, iv r31.2), (19, accV 11 (List.length r35.1)), (20, iv r35.2), (22, pt 13 0), (23, iv r43.2.2), (129, iv r15.2), (130, .bool false), (131, .bool false), (132, iv r23.2), (133, .bool false), (134, .bool false), (135, .bool false), (136, iv r31.2)])
def S10_19 (r3 : ((List (Int × Int)) × Int)) (r15 : ((List (Int × Int)) × Int)) (r23 : ((List (Int × Int)) × Int)) (r31 : ((List (Int × Int)) × Int)) (r35 : ((List (Int × Int)) × Int)) (r1 : (((Int × Int) × (Int × Int)) × (Int × Int))) (r37 : (Int × Int)) : CAct := (st 233 [(5, pt 2 0), (6, pt 3 0), (7, accV 4 (List.length r3.1)), (8, iv r15.2), (10, pt 6 0), (11, iv r23.2), (12, .func (.func 46) ⟨[]⟩ ⟨[]⟩), (14, pt 7 0), (15, accV 8 (List.length r15.1)), (16, accV 9 (List.length r23.1)), (17, accV 10 (List.length r31.1)), (18, iv r31.2), (19, accV 11 (List.length r35.1)), (20, iv r35.2), (113, .func (.func 46) ⟨[]⟩ ⟨[]⟩), (114, pt 2 0), (115, ag [iv r1.1.1.1, iv r1.1.1.2]), (116, ag [iv r37.1, iv r37.2])])
def H10_20 (r1 : (((Int × Int) × (Int × Int)) × (Int × Int))) (r3 : ((List (Int × Int)) × Int)) (r5 : ((Int × Int) × (Int × Int) × Int)) (r9 : (Int × Int)) (r15 : ((List (Int × Int)) × Int)) (r23 : ((List (Int × Int)) × Int)) (r31 : ((List (Int × Int)) × Int)) (r35 : ((List (Int × Int)) × Int)) : List Blk := [.dead, .dead, cl 25 [iv r1.1.1.1, iv r1.1.1.2, iv r1.1.2.1, iv r1.1.2.2], cl 23 [iv r1.2.1, iv r1.2.2], accB 27 (List.length r3.1) (List.flatMap e27 r3.1), .dead, cl 23 [iv r5.2.1.1, iv r5.2.1.2], cl 27 [iv r9.1, iv r9.2], accB 27 (List.length r15.1) (List.flatMap e27 r15.1), accB 27 (List.length r23.1) (List.flatMap e27 r23.1), accB 27 (List.length r31.1) (List.flatMap e27 r31.1), accB 27 (List.length r35.1) (List.flatMap e27 r35.1)]
def S10_21 (r3 : ((List (Int × Int)) × Int)) (r15 : ((List (Int × Int)) × Int)) (r23 : ((List (Int × Int)) × Int)) (r31 : ((List (Int × Int)) × Int)) (r35 : ((List (Int × Int)) × Int)) (r1 : (((Int × Int) × (Int × Int)) × (Int × Int))) : CAct := (st 233 [(5, pt 2 0), (6, pt 3 0), (7, accV 4 (List.length r3.1)), (8, iv r15.2), (10, pt 6 0), (11, iv r23.2), (12, .func (.func 46) ⟨[]⟩ ⟨[]⟩), (14, pt 7 0), (15, accV 8 (List.length r15.1)), (16, accV 9 (List.length r23.1)), (17, accV 10 (List.length r31.1)), (18, iv r31.2), (19, accV 11 (List.length r35.1)), (20, iv r35.2), (113, .func (.func 46) ⟨[]⟩ ⟨[]⟩), (114, pt 2 0), (115, ag [iv r1.1.1.1, iv r1.1.1.2])])
def S10_22 (r3 : ((List (Int × Int)) × Int)) (r15 : ((List (Int × Int)) × Int)) (r23 : ((List (Int × Int)) × Int)) (r31 : ((List (Int × Int)) × Int)) (r35 : ((List (Int × Int)) × Int)) (r43 : ((Int × Int) × (Int × Int) × Int)) : CAct := (st 233 [(7, accV 4 (List.length r3.1)), (8, iv r15.2), (10, pt 6 0), (11, iv r23.2), (12, .func (.func 46) ⟨[]⟩ ⟨[]⟩), (14, pt 7 0), (15, accV 8 (List.length r15.1)), (16, accV 9 (List.length r23.1)), (17, accV 10 (List.length r31.1)), (18, iv r31.2), (19, accV 11 (List.length r35.1)), (20, iv r35.2), (22, pt 13 0), (23, iv r43.2.2), (129, iv r15.2), (130, .bool false), (131, .bool false), (132, iv r23.2)])
def H10_23 (r3 : ((List (Int × Int)) × Int)) (r5 : ((Int × Int) × (Int × Int) × Int)) (r9 : (Int × Int)) (r15 : ((List (Int × Int)) × Int)) (r23 : ((List (Int × Int)) × Int)) (r31 : ((List (Int × Int)) × Int)) (r35 : ((List (Int × Int)) × Int)) (r43 : ((Int × Int) × (Int × Int) × Int)) : List Blk := [.dead, .dead, .dead, .dead, accB 27 (List.length r3.1) (List.flatMap e27 r3.1), .dead, cl 23 [iv r5.2.1.1, iv r5.2.1.2], cl 27 [iv r9.1, iv r9.2], accB 27 (List.length r15.1) (List.flatMap e27 r15.1), accB 27 (List.length r23.1) (List.flatMap e27 r23.1), accB 27 (List.length r31.1) (List.flatMap e27 r31.1), accB 27 (List.length r35.1) (List.flatMap e27 r35.1), .dead, cl 23 [iv r43.2.1.1, iv r43.2.1.2]]
def H10_24 (r1 : (((Int × Int) × (Int × Int)) × (Int × Int))) (r3 : ((List (Int × Int)) × Int)) (r5 : ((Int × Int) × (Int × Int) × Int)) (r9 : (Int × Int)) (r15 : ((List (Int × Int)) × Int)) (r23 : ((List (Int × Int)) × Int)) (r31 : ((List (Int × Int)) × Int)) : List Blk := [.dead, .dead, cl 25 [iv r1.1.1.1, iv r1.1.1.2, iv r1.1.2.1, iv r1.1.2.2], cl 23 [iv r1.2.1, iv r1.2.2], accB 27 (List.length r3.1) (List.flatMap e27 r3.1), .dead, cl 23 [iv r5.2.1.1, iv r5.2.1.2], cl 27 [iv r9.1, iv r9.2], accB 27 (List.length r15.1) (List.flatMap e27 r15.1), accB 27 (List.length r23.1) (List.flatMap e27 r23.1), accB 27 (List.length r31.1) (List.flatMap e27 r31.1)]
def S10_25 (r3 : ((List (Int × Int)) × Int)) (r15 : ((List (Int × Int)) × Int)) (r35 : ((List (Int × Int)) × Int)) (v76 : Int) (o96 : (Int × Int)) : CAct := (st 233 [(7, accV 0 (List.length r3.1)), (14, pt 1 0), (15, accV 2 (List.length r15.1)), (19, accV 3 (List.length r35.1)), (24, iv v76), (181, iv (List.length r3.1 : Int)), (182, iv v76), (185, accV 2 (List.length r15.1)), (186, iv v76), (187, .pointer (some ⟨2, 0 + (Int.toNat v76) * 2, none⟩)), (188, ag [iv o96.1, iv o96.2]), (189, accV 0 (List.length r3.1)), (190, iv v76)])
def S10_26 (r3 : ((List (Int × Int)) × Int)) (r15 : ((List (Int × Int)) × Int)) (r23 : ((List (Int × Int)) × Int)) (r31 : ((List (Int × Int)) × Int)) (r35 : ((List (Int × Int)) × Int)) (r43 : ((Int × Int) × (Int × Int) × Int)) : CAct := (st 233 [(7, accV 4 (List.length r3.1)), (8, iv r15.2), (10, pt 6 0), (11, iv r23.2), (12, .func (.func 46) ⟨[]⟩ ⟨[]⟩), (14, pt 7 0), (15, accV 8 (List.length r15.1)), (16, accV 9 (List.length r23.1)), (17, accV 10 (List.length r31.1)), (18, iv r31.2), (19, accV 11 (List.length r35.1)), (20, iv r35.2), (22, pt 13 0), (23, iv r43.2.2), (129, iv r15.2)])
def H10_27 (r1 : (((Int × Int) × (Int × Int)) × (Int × Int))) (r3 : ((List (Int × Int)) × Int)) (r5 : ((Int × Int) × (Int × Int) × Int)) (r9 : (Int × Int)) (r15 : ((List (Int × Int)) × Int)) (r23 : ((List (Int × Int)) × Int)) : List Blk := [.dead, .dead, cl 25 [iv r1.1.1.1, iv r1.1.1.2, iv r1.1.2.1, iv r1.1.2.2], cl 23 [iv r1.2.1, iv r1.2.2], accB 27 (List.length r3.1) (List.flatMap e27 r3.1), .dead, cl 23 [iv r5.2.1.1, iv r5.2.1.2], cl 27 [iv r9.1, iv r9.2], accB 27 (List.length r15.1) (List.flatMap e27 r15.1), accB 27 (List.length r23.1) (List.flatMap e27 r23.1)]
def H10_28 (r1 : (((Int × Int) × (Int × Int)) × (Int × Int))) (r3 : ((List (Int × Int)) × Int)) (r5 : ((Int × Int) × (Int × Int) × Int)) (r9 : (Int × Int)) (r15 : ((List (Int × Int)) × Int)) : List Blk := [.dead, .dead, cl 25 [iv r1.1.1.1, iv r1.1.1.2, iv r1.1.2.1, iv r1.1.2.2], cl 23 [iv r1.2.1, iv r1.2.2], accB 27 (List.length r3.1) (List.flatMap e27 r3.1), .dead, cl 23 [iv r5.2.1.1, iv r5.2.1.2], cl 27 [iv r9.1, iv r9.2], accB 27 (List.length r15.1) (List.flatMap e27 r15.1)]
def H10_29 (r3 : ((List (Int × Int)) × Int)) (r9 : (Int × Int)) (r15 : ((List (Int × Int)) × Int)) (r35 : ((List (Int × Int)) × Int)) : List Blk := [.dead, .dead, .dead, .dead, accB 27 (List.length r3.1) (List.flatMap e27 r3.1), .dead, .dead, cl 27 [iv r9.1, iv r9.2], accB 27 (List.length r15.1) (List.flatMap e27 r15.1), .dead, .dead, accB 27 (List.length r35.1) (List.flatMap e27 r35.1), .dead, .dead]
def S10_30 (r3 : ((List (Int × Int)) × Int)) (r15 : ((List (Int × Int)) × Int)) (r35 : ((List (Int × Int)) × Int)) (v76 : Int) : CAct := (st 233 [(7, accV 0 (List.length r3.1)), (14, pt 1 0), (15, accV 2 (List.length r15.1)), (19, accV 3 (List.length r35.1)), (24, iv v76), (181, iv (List.length r3.1 : Int)), (182, iv v76), (185, accV 2 (List.length r15.1)), (186, iv v76)])
def H10_31 (p6 : Int) (p7 : Int) (r1 : (((Int × Int) × (Int × Int)) × (Int × Int))) (r3 : ((List (Int × Int)) × Int)) (r5 : ((Int × Int) × (Int × Int) × Int)) : List Blk := [.dead, cl 90 [.int .i8 p6, .int .i8 p7], cl 25 [iv r1.1.1.1, iv r1.1.1.2, iv r1.1.2.1, iv r1.1.2.2], cl 23 [iv r1.2.1, iv r1.2.2], accB 27 (List.length r3.1) (List.flatMap e27 r3.1), .dead, cl 23 [iv r5.2.1.1, iv r5.2.1.2]]
def H10_32 (r1 : (((Int × Int) × (Int × Int)) × (Int × Int))) (r3 : ((List (Int × Int)) × Int)) (r5 : ((Int × Int) × (Int × Int) × Int)) (r9 : (Int × Int)) : List Blk := [.dead, .dead, cl 25 [iv r1.1.1.1, iv r1.1.1.2, iv r1.1.2.1, iv r1.1.2.2], cl 23 [iv r1.2.1, iv r1.2.2], accB 27 (List.length r3.1) (List.flatMap e27 r3.1), .dead, cl 23 [iv r5.2.1.1, iv r5.2.1.2], cl 27 [iv r9.1, iv r9.2]]
def H10_33 (r3 : ((List (Int × Int)) × Int)) (r9 : (Int × Int)) (r15 : ((List (Int × Int)) × Int)) (r35 : ((List (Int × Int)) × Int)) : List Blk := [accB 27 (List.length r3.1) (List.flatMap e27 r3.1), cl 27 [iv r9.1, iv r9.2], accB 27 (List.length r15.1) (List.flatMap e27 r15.1), accB 27 (List.length r35.1) (List.flatMap e27 r35.1)]
def S10_34 (r3 : ((List (Int × Int)) × Int)) (r15 : ((List (Int × Int)) × Int)) (r35 : ((List (Int × Int)) × Int)) : CAct := (st 233 [(7, accV 4 (List.length r3.1)), (14, pt 7 0), (15, accV 8 (List.length r15.1)), (19, accV 11 (List.length r35.1)), (179, .bool true)])
def H10_35 (r23 : ((List (Int × Int)) × Int)) (r3 : ((List (Int × Int)) × Int)) : List Blk := [accB 27 (List.length r23.1) (List.flatMap e27 r23.1), accB 27 (List.length r3.1) (List.flatMap e27 r3.1)]
def F10l0 (r3 : ((List (Int × Int)) × Int)) (r9 : (Int × Int)) (r15 : ((List (Int × Int)) × Int)) (r35 : ((List (Int × Int)) × Int)) (v76 : Int) : Option (Unit ⊕ Unit) :=
    if decide (v76 < (List.length r3.1 : Int)) then
      if (0 : Int) ≤ v76 ∧ v76 < (List.length r15.1 : Int) then
        some (List.getD r15.1 (Int.toNat v76) (0, 0)) >>= fun o96 =>
        if (0 : Int) ≤ v76 ∧ v76 < (List.length r3.1 : Int) then
          some (List.getD r3.1 (Int.toNat v76) (0, 0)) >>= fun o99 =>
          F44 (w64 (o99.1 - r9.1)) (w64 (o99.2 - r9.2)) >>= fun r101 =>
          (
            if !((o96.1 == r101.1) && ((o96.2 == r101.2) && true)) then
              some (true)
            else
              if (0 : Int) ≤ w64 ((w64 ((List.length r35.1 : Int) - 1)) - v76) ∧ w64 ((w64 ((List.length r35.1 : Int) - 1)) - v76) < (List.length r35.1 : Int) then
                some (List.getD r35.1 (Int.toNat (w64 ((w64 ((List.length r35.1 : Int) - 1)) - v76))) (0, 0)) >>= fun o105 =>
                F44 (w64 (0 - o99.1)) (w64 (0 - o99.2)) >>= fun r107 =>
                some (!((o105.1 == r107.1) && ((o105.2 == r107.2) && true)))
              else none
          : Option Bool) >>= fun m109 =>
          if m109 then
            some (.inl ())
          else
            F10l0 r3 r9 r15 r35 (w64 (v76 + 1))
        else none
      else none
    else
      some (.inr ())
  partial_fixpoint
def F10 (p0 : Int) (p1 : Int) (p2 : Int) (p3 : Int) (p4 : Int) (p5 : Int) (p6 : Int) (p7 : Int) : Option Bool :=
  F36 p0 p1 p2 p3 p4 p5 >>= fun r1 =>
  F30 r1.1.1.1 r1.1.1.2 r1.1.2.1 r1.1.2.2 r1.2.1 r1.2.2 >>= fun r3 =>
  F28 r1.1.1.1 r1.1.1.2 r1.1.2.1 r1.1.2.2 r1.2.1 r1.2.2 >>= fun r5 =>
  (
    if r3.2 != 0 then
      some (true)
    else
      some (r5.2.2 != 0)
  : Option Bool) >>= fun m8 =>
  if m8 then
    some false
  else
    F44 (Int.tmod (w64 p6) 20) (Int.tmod (w64 p7) 20) >>= fun r9 =>
    F40 r1.1.1.1 r1.1.1.2 r1.1.2.1 r1.1.2.2 r9.1 r9.2 >>= fun r11 =>
    F39 r1.2.1 r1.2.2 r11.1 r11.2 >>= fun r13 =>
    F30 r1.1.1.1 r1.1.1.2 r1.1.2.1 r1.1.2.2 r13.1 r13.2 >>= fun r15 =>
    F46 r1.1.1.1 r1.1.1.2 >>= fun r17 =>
    F46 r1.1.2.1 r1.1.2.2 >>= fun r19 =>
    F46 r1.2.1 r1.2.2 >>= fun r21 =>
    F30 r17.1 r17.2 r19.1 r19.2 r21.1 r21.2 >>= fun r23 =>
    F47 r1.1.1.1 r1.1.1.2 >>= fun r25 =>
    F47 r1.1.2.1 r1.1.2.2 >>= fun r27 =>
    F47 r1.2.1 r1.2.2 >>= fun r29 =>
    F30 r25.1 r25.2 r27.1 r27.2 r29.1 r29.2 >>= fun r31 =>
    F43 (w64 (0 - r1.2.1)) (w64 (0 - r1.2.2)) >>= fun r33 =>
    F30 r1.1.1.1 r1.1.1.2 r1.1.2.1 r1.1.2.2 r33.1 r33.2 >>= fun r35 =>
    F46 r1.1.1.1 r1.1.1.2 >>= fun r37 =>
    F46 r1.1.2.1 r1.1.2.2 >>= fun r39 =>
    F46 r1.2.1 r1.2.2 >>= fun r41 =>
    F28 r37.1 r37.2 r39.1 r39.2 r41.1 r41.2 >>= fun r43 =>
    (
      if r15.2 != 0 then
        some (true)
      else
        if r23.2 != 0 then
          some (true)
        else
          if r31.2 != 0 then
            some (true)
          else
            if r35.2 != 0 then
              some (true)
            else
              if r43.2.2 != 0 then
                some (true)
              else
                if (List.length r15.1 : Int) != (List.length r3.1 : Int) then
                  some (true)
                else
                  if (List.length r35.1 : Int) != (List.length r3.1 : Int) then
                    some (true)
                  else
                    F48 r23.1 r3.1 >>= fun r52 =>
                    if r52 then
                      F48 r31.1 r3.1 >>= fun r54 =>
                      if r54 then
                        F46 r5.2.1.1 r5.2.1.2 >>= fun r56 =>
                        some (!((r43.2.1.1 == r56.1) && ((r43.2.1.2 == r56.2) && true)))
                      else
                        some (true)
                    else
                      some (true)
    : Option Bool) >>= fun m58 =>
    if m58 then
      some false
    else
      F10l0 r3 r9 r15 r35 0 >>= fun r111 =>
      match r111 with
      | .inl o113 =>
        some false
      | .inr o114 =>
        F22 >>= fun r115 =>
        some r115
def V10 (b : Nat) (r : Bool) : Value := .bool r
def N10 (b : Nat) (r : Bool) : List Blk := []
def P10l0 (r3 : ((List (Int × Int)) × Int)) (r9 : (Int × Int)) (r15 : ((List (Int × Int)) × Int)) (r35 : ((List (Int × Int)) × Int)) (r : (Unit ⊕ Unit)) : Post := fun e a h => (match r with | .inl q0 => e = .ret ∧ Wk Try.prog 0 0 a h (st 233 [(4, .bool false)]) [] | .inr q0 => e = .exit 0 ∧ Wk Try.prog 0 0 a h (st 233 []) [])
theorem L10l0 (r3 : ((List (Int × Int)) × Int)) (r9 : (Int × Int)) (r15 : ((List (Int × Int)) × Int)) (r35 : ((List (Int × Int)) × Int)) (v76 : Int) (r : (Unit ⊕ Unit)) (hF : F10l0 r3 r9 r15 r35 v76 = some r) : TL Try.prog 0 0 c10.s2.s2.s2.s2.s2.s2.s2.s2.s2.s2.s2.s2.s2.s2.s1.s2.bd.bd (st 233 [(7, accV 0 (List.length r3.1)), (14, pt 1 0), (15, accV 2 (List.length r15.1)), (19, accV 3 (List.length r35.1)), (181, iv (List.length r3.1 : Int)), (182, iv v76)]) (H10_33 r3 r9 r15 r35) (P10l0 r3 r9 r15 r35 r) := by
  refine F10l0.partial_correctness r3 r9 r15 r35 (motive := fun v76 r => TL Try.prog 0 0 c10.s2.s2.s2.s2.s2.s2.s2.s2.s2.s2.s2.s2.s2.s2.s1.s2.bd.bd (st 233 [(7, accV 0 (List.length r3.1)), (14, pt 1 0), (15, accV 2 (List.length r15.1)), (19, accV 3 (List.length r35.1)), (181, iv (List.length r3.1 : Int)), (182, iv v76)]) (H10_33 r3 r9 r15 r35) (P10l0 r3 r9 r15 r35 r)) ?_ v76 r hF
  clear hF r v76
  intro again ih v76 r hF
  refine TL.round ?_
  refine TS.seqP (by kernel_rfl) ?_
  refine TS.regionP (by kernel_rfl) ?_
  refine TI.runA 1 [7, 14, 15, 19, 181, 182, 183] (a2 := (st 233 [(7, accV 0 (List.length r3.1)), (14, pt 1 0), (15, accV 2 (List.length r15.1)), (19, accV 3 (List.length r35.1)), (181, iv (List.length r3.1 : Int)), (182, iv v76), (183, .bool (decide (v76 < (List.length r3.1 : Int))))])) (by kernel_rfl) ?_
  refine TI.done (by kernel_rfl) ?_
  refine NX.sq ?_
  refine TS.seqP (by kernel_rfl) ?_
  refine TS.condP (o := (.tmp 183)) (b := decide (v76 < (List.length r3.1 : Int))) (by kernel_rfl) (by kernel_rfl) (fun hc94 => ?_) (fun hc94 => ?_)
  · replace hF := of_pos hF hc94
    refine TS.skip' (by kernel_rfl) ?_
    refine NX.sq ?_
    refine TS.seqP (by kernel_rfl) ?_
    refine TS.blockP (id := 1) (by kernel_rfl) ?_
    refine TS.seqP (by kernel_rfl) ?_
    refine TS.regionP (by kernel_rfl) ?_
    refine TI.runA 2 [7, 14, 15, 19, 24, 181, 182] (a2 := (st 233 [(7, accV 0 (List.length r3.1)), (14, pt 1 0), (15, accV 2 (List.length r15.1)), (19, accV 3 (List.length r35.1)), (24, iv v76), (181, iv (List.length r3.1 : Int)), (182, iv v76)])) (by kernel_rfl) ?_
    refine TI.done (by kernel_rfl) ?_
    refine NX.sq ?_
    refine TS.seqP (by kernel_rfl) ?_
    have hX := of_guard hF
    clear hF
    obtain ⟨hg95, hF⟩ := hX
    have hX := of_do hF
    clear hF
    obtain ⟨o96, h97, hF⟩ := hX
    replace h97 := Option.some.inj h97
    have hX := of_guard hF
    clear hF
    obtain ⟨hg98, hF⟩ := hX
    have hX := of_do hF
    clear hF
    obtain ⟨o99, h100, hF⟩ := hX
    replace h100 := Option.some.inj h100
    have hX := of_do hF
    clear hF
    obtain ⟨r101, h102, hF⟩ := hX
    have hX := of_do hF
    clear hF
    obtain ⟨m109, hm110, hF⟩ := hX
    have hK : NX Try.prog 0 0 [.sq c10.s2.s2.s2.s2.s2.s2.s2.s2.s2.s2.s2.s2.s2.s2.s1.s2.bd.bd.s2.s2.s1.bd.s2.s2, .bk 1, .sq c10.s2.s2.s2.s2.s2.s2.s2.s2.s2.s2.s2.s2.s2.s2.s1.s2.bd.bd.s2.s2.s2] (Rd Try.prog 0 0 c10.s2.s2.s2.s2.s2.s2.s2.s2.s2.s2.s2.s2.s2.s2.s1.s2.bd.bd (P10l0 r3 r9 r15 r35 r)) .normal (st 233 [(7, accV 0 (List.length r3.1)), (14, pt 1 0), (15, accV 2 (List.length r15.1)), (19, accV 3 (List.length r35.1)), (181, iv (List.length r3.1 : Int)), (182, iv v76), (230, .bool m109)]) (H10_33 r3 r9 r15 r35) := by
      refine NX.sq ?_
      cases m109 with
      | true =>
        replace hF := of_pos hF rfl
        refine TS.condTP (o := (.tmp 230)) (by kernel_rfl) (by kernel_rfl) ?_
        refine TS.seqP (by kernel_rfl) ?_
        refine TS.regionP (by kernel_rfl) ?_
        refine TI.run 1 [4] [] (a2 := (st 233 [(4, .bool false)])) (h2 := [.dead, .dead, .dead, .dead]) (by kernel_rfl) ?_
        refine TI.done (by kernel_rfl) ?_
        refine NX.sq ?_
        refine TS.ret' (by kernel_rfl) ?_
        refine NX.bkR ?_
        refine NX.sqR ?_
        have hF := Option.some.inj hF
        subst hF
        exact Rd.out (e := .ret) (by intro h; cases h) (And.intro rfl (Wk.anew (base := 0) (L := 0) (f := []) (by decide) (by decide) (Nat.le_of_ble_eq_true rfl) rfl (.nil _) (LRn.stx [4] [.bool false] [.bool false] (.cons (.flat (by kernel_rfl)) .nil) (by kernel_rfl) (by kernel_rfl) rfl) rfl rfl))
      | false =>
        replace hF := of_neg hF rfl
        refine TS.condFP (o := (.tmp 230)) (by kernel_rfl) (by kernel_rfl) ?_
        refine TS.skip' (by kernel_rfl) ?_
        refine NX.bk ?_
        refine NX.sq ?_
        refine TS.regionP (by kernel_rfl) ?_
        refine TI.runA 2 [7, 14, 15, 19, 181, 182] (a2 := (st 233 [(7, accV 0 (List.length r3.1)), (14, pt 1 0), (15, accV 2 (List.length r15.1)), (19, accV 3 (List.length r35.1)), (181, iv (List.length r3.1 : Int)), (182, iv (w64 (v76 + 1)))])) (by kernel_rfl) ?_
        refine TI.done (by kernel_rfl) ?_
        exact Rd.again (a2 := (st 233 [(7, accV 0 (List.length r3.1)), (14, pt 1 0), (15, accV 2 (List.length r15.1)), (19, accV 3 (List.length r35.1)), (181, iv (List.length r3.1 : Int)), (182, iv (w64 (v76 + 1)))])) (h2 := (H10_33 r3 r9 r15 r35)) (Wk.anew (base := 0) (L := 0) (f := [0, 1, 2, 3]) (by decide) (by decide) (Nat.le_of_ble_eq_true rfl) rfl (.cons (At.acc (by kernel_rfl) rfl (fun _ => rfl)) (.cons (At.blk (by kernel_rfl) (RnB.lit (.cons (.flat (by kernel_rfl)) (.cons (.flat (by kernel_rfl)) .nil)))) (.cons (At.acc (by kernel_rfl) rfl (fun _ => rfl)) (.cons (At.acc (by kernel_rfl) rfl (fun _ => rfl)) (.nil _))))) (LRn.stx [7, 14, 15, 19, 181, 182] [accV 0 (List.length r3.1), pt 1 0, accV 2 (List.length r15.1), accV 3 (List.length r35.1), iv (List.length r3.1 : Int), iv (w64 (v76 + 1))] [accV 0 (List.length r3.1), pt 1 0, accV 2 (List.length r15.1), accV 3 (List.length r35.1), iv (List.length r3.1 : Int), iv (w64 (v76 + 1))] (.cons (Rn.acc (Nat.le_of_ble_eq_true rfl) rfl) (.cons (Rn.ptr _ _ _ (Nat.le_of_ble_eq_true rfl) rfl) (.cons (Rn.acc (Nat.le_of_ble_eq_true rfl) rfl) (.cons (Rn.acc (Nat.le_of_ble_eq_true rfl) rfl) (.cons (.flat (by kernel_rfl)) (.cons (.flat (by kernel_rfl)) .nil)))))) (by kernel_rfl) (by kernel_rfl) rfl) rfl rfl) (ih (w64 (v76 + 1)) _ hF)
    rcases Bool.eq_false_or_eq_true (!((o96.1 == r101.1) && ((o96.2 == r101.2) && true))) with hc103 | hc103
    · replace hm110 := of_pos hm110 hc103
      have hm110 := Option.some.inj hm110
      subst hm110
      have hT : ∀ e ∈ ([⟨44, [iv (w64 (o99.1 - r9.1)), iv (w64 (o99.2 - r9.2))], (H10_33 r3 r9 r15 r35), ag [iv r101.1, iv r101.2], []⟩] : List Entry), PureSim Try.prog e.g e.args e.h e.v e.new := by
        intro e he
        simp only [List.mem_cons, List.not_mem_nil, or_false] at he
        rcases he with rfl
        · exact PureSim.anyK (C44 _ _ _ h102) (by kernel_rfl)
      refine TS.drawP [⟨44, [iv (w64 (o99.1 - r9.1)), iv (w64 (o99.2 - r9.2))], (H10_33 r3 r9 r15 r35), ag [iv r101.1, iv r101.2], []⟩] hT mixed (by kernel_rfl) 44 (by kernel_rfl) [7, 14, 15, 19, 181, 182, 230] [0, 1, 2, 3] (a2 := (st 233 [(7, accV 0 (List.length r3.1)), (14, pt 1 0), (15, accV 2 (List.length r15.1)), (19, accV 3 (List.length r35.1)), (181, iv (List.length r3.1 : Int)), (182, iv v76), (230, .bool true)])) (h2 := (H10_33 r3 r9 r15 r35)) ?_ ?_
      · refine QJ.run (s1 := (qs (S10_30 r3 r15 r35 v76) (H10_33 r3 r9 r15 r35) [] [])) 2 (by kernel_rfl) (by kernel_rfl) ?_
        refine QJ.op (q := { val := .pointer (some ⟨2, 0 + (Int.toNat v76) * 2, none⟩) }) (by decide) (q_ixAcc (P := Try.prog) (t := 60) (s := 2) (e := 27) 2 (List.length r15.1) (by kernel_rfl) hg95 (by kernel_rfl) (by kernel_rfl)) ?_
        refine QJ.op (q := { val := ag [iv o96.1, iv o96.2] }) (by decide) (q_eqv (q_ldA (P := Try.prog) (hp := (H10_33 r3 r9 r15 r35)) (t := 27) (b := 2) (off := 0 + (Int.toNat v76) * 2) (l := r15.1) (enc := e27) (s := 2) (T := 27) (i := Int.toNat v76) (by kernel_rfl) (accB_at (h := (H10_33 r3 r9 r15 r35)) (n := List.length r15.1) (i := Int.toNat v76) (by kernel_rfl) (by first | omega | (simp only [List.length_set, List.length_replicate, List.length_cons, List.length_nil, List.length_append]; omega))) (by kernel_rfl) (by kernel_rfl) (fun _ => rfl) (by omega) (by first | omega | (simp only [List.length_set, List.length_replicate, List.length_cons, List.length_nil, List.length_append]; omega)) (0, 0)) (congrArg (fun (z : (Int × Int)) => ({ val := ag [iv z.1, iv z.2] } : QRes)) h97)) ?_
        refine QJ.run (s1 := (qs (S10_25 r3 r15 r35 v76 o96) (H10_33 r3 r9 r15 r35) [] [])) 2 (by kernel_rfl) (by kernel_rfl) ?_
        refine QJ.op (q := { val := .pointer (some ⟨0, 0 + (Int.toNat v76) * 2, none⟩) }) (by decide) (q_ixAcc (P := Try.prog) (t := 60) (s := 2) (e := 27) 0 (List.length r3.1) (by kernel_rfl) hg98 (by kernel_rfl) (by kernel_rfl)) ?_
        refine QJ.run (s1 := (qs (S10_17 r3 r15 r35 v76 o96) (H10_33 r3 r9 r15 r35) [] [])) 1 (by kernel_rfl) (by kernel_rfl) ?_
        refine QJ.op (q := { val := iv o99.1 }) (by decide) (q_eqv (q_ld1 (P := Try.prog) (hp := (H10_33 r3 r9 r15 r35)) (t := 3) (b := 0) (off := 0 + (Int.toNat v76) * 2) (l := r3.1) (enc := e27) (s := 2) (T := 27) (i := Int.toNat v76) (k := 0) (by kernel_rfl) (accB_at (h := (H10_33 r3 r9 r15 r35)) (n := List.length r3.1) (i := Int.toNat v76) (by kernel_rfl) (by first | omega | (simp only [List.length_set, List.length_replicate, List.length_cons, List.length_nil, List.length_append]; omega))) (by kernel_rfl) (fun _ => rfl) (by omega) (by decide) (by first | omega | (simp only [List.length_set, List.length_replicate, List.length_cons, List.length_nil, List.length_append]; omega)) (0, 0)) (congrArg (fun (z : (Int × Int)) => ({ val := iv z.1 } : QRes)) h100)) ?_
        refine QJ.run (s1 := (qs (S10_12 r3 r15 r35 v76 o96 o99 r9) (H10_33 r3 r9 r15 r35) [] [])) 5 (by kernel_rfl) (by kernel_rfl) ?_
        refine QJ.op (q := { val := .pointer (some ⟨0, 0 + (Int.toNat v76) * 2, none⟩) }) (by decide) (q_ixAcc (P := Try.prog) (t := 60) (s := 2) (e := 27) 0 (List.length r3.1) (by kernel_rfl) hg98 (by kernel_rfl) (by kernel_rfl)) ?_
        refine QJ.run (s1 := (qs (S10_8 r3 r15 r35 v76 o96 o99 r9) (H10_33 r3 r9 r15 r35) [] [])) 1 (by kernel_rfl) (by kernel_rfl) ?_
        refine QJ.op (q := { val := iv o99.2 }) (by decide) (q_eqv (q_ld1 (P := Try.prog) (hp := (H10_33 r3 r9 r15 r35)) (t := 3) (b := 0) (off := 0 + (Int.toNat v76) * 2 + 1) (l := r3.1) (enc := e27) (s := 2) (T := 27) (i := Int.toNat v76) (k := 1) (by kernel_rfl) (accB_at (h := (H10_33 r3 r9 r15 r35)) (n := List.length r3.1) (i := Int.toNat v76) (by kernel_rfl) (by first | omega | (simp only [List.length_set, List.length_replicate, List.length_cons, List.length_nil, List.length_append]; omega))) (by kernel_rfl) (fun _ => rfl) (by omega) (by decide) (by first | omega | (simp only [List.length_set, List.length_replicate, List.length_cons, List.length_nil, List.length_append]; omega)) (0, 0)) (congrArg (fun (z : (Int × Int)) => ({ val := iv z.2 } : QRes)) h100)) ?_
        refine QJ.run (s1 := (qs (S10_6 r3 r15 r35 v76 o96 o99 r9) (H10_33 r3 r9 r15 r35) [] [])) 3 (by kernel_rfl) (by kernel_rfl) ?_
        refine QJ.op (q := { val := ag [iv r101.1, iv r101.2], new := [] }) (by decide) (qOf_call (g := 44) (args := [iv (w64 (o99.1 - r9.1)), iv (w64 (o99.2 - r9.2))]) (by kernel_rfl) lookC_hit) ?_
        refine QJ.op (q := { val := .bool true }) (by decide) (q_conv (e := !((o96.1 == r101.1) && ((o96.2 == r101.2) && true))) (b := true) (by kernel_rfl) hc103) ?_
        refine QJ.run (s1 := (qs (st 233 [(7, accV 0 (List.length r3.1)), (14, pt 1 0), (15, accV 2 (List.length r15.1)), (19, accV 3 (List.length r35.1)), (24, iv v76), (181, iv (List.length r3.1 : Int)), (182, iv v76), (185, accV 2 (List.length r15.1)), (186, iv v76), (187, .pointer (some ⟨2, 0 + (Int.toNat v76) * 2, none⟩)), (188, ag [iv o96.1, iv o96.2]), (189, accV 0 (List.length r3.1)), (190, iv v76), (191, .pointer (some ⟨0, 0 + (Int.toNat v76) * 2, none⟩)), (192, .pointer (some ⟨0, 0 + (Int.toNat v76) * 2, none⟩)), (193, iv o99.1), (194, pt 1 0), (195, iv r9.1), (196, iv (w64 (o99.1 - r9.1))), (197, accV 0 (List.length r3.1)), (198, iv v76), (199, .pointer (some ⟨0, 0 + (Int.toNat v76) * 2, none⟩)), (200, .pointer (some ⟨0, 0 + (Int.toNat v76) * 2 + 1, none⟩)), (201, iv o99.2), (202, pt 1 1), (203, iv r9.2), (204, iv (w64 (o99.2 - r9.2))), (205, ag [iv r101.1, iv r101.2]), (206, .bool true), (207, .bool true), (208, undef), (209, undef), (210, undef), (211, undef), (212, undef), (213, undef), (214, undef), (215, undef), (216, undef), (217, undef), (218, undef), (219, undef), (220, undef), (221, undef), (222, undef), (223, undef), (224, undef), (225, undef), (226, undef), (227, undef), (228, undef)]) (H10_33 r3 r9 r15 r35) [] [])) 22 (by kernel_rfl) (by kernel_rfl) ?_
        refine QJ.done (by kernel_rfl) ⟨rfl, ?_⟩
        refine SJ.last (by kernel_rfl)
      exact hK
    · replace hm110 := of_neg hm110 hc103
      have hX := of_guard hm110
      clear hm110
      obtain ⟨hg104, hm110⟩ := hX
      have hX := of_do hm110
      clear hm110
      obtain ⟨o105, h106, hm110⟩ := hX
      replace h106 := Option.some.inj h106
      have hX := of_do hm110
      clear hm110
      obtain ⟨r107, h108, hm110⟩ := hX
      have hm110 := Option.some.inj hm110
      subst hm110
      have hT : ∀ e ∈ ([⟨44, [iv (w64 (o99.1 - r9.1)), iv (w64 (o99.2 - r9.2))], (H10_33 r3 r9 r15 r35), ag [iv r101.1, iv r101.2], []⟩, ⟨44, [iv (w64 (0 - o99.1)), iv (w64 (0 - o99.2))], (H10_33 r3 r9 r15 r35), ag [iv r107.1, iv r107.2], []⟩] : List Entry), PureSim Try.prog e.g e.args e.h e.v e.new := by
        intro e he
        simp only [List.mem_cons, List.not_mem_nil, or_false] at he
        rcases he with rfl | rfl
        · exact PureSim.anyK (C44 _ _ _ h102) (by kernel_rfl)
        · exact PureSim.anyK (C44 _ _ _ h108) (by kernel_rfl)
      refine TS.drawP [⟨44, [iv (w64 (o99.1 - r9.1)), iv (w64 (o99.2 - r9.2))], (H10_33 r3 r9 r15 r35), ag [iv r101.1, iv r101.2], []⟩, ⟨44, [iv (w64 (0 - o99.1)), iv (w64 (0 - o99.2))], (H10_33 r3 r9 r15 r35), ag [iv r107.1, iv r107.2], []⟩] hT mixed (by kernel_rfl) 44 (by kernel_rfl) [7, 14, 15, 19, 181, 182, 230] [0, 1, 2, 3] (a2 := (st 233 [(7, accV 0 (List.length r3.1)), (14, pt 1 0), (15, accV 2 (List.length r15.1)), (19, accV 3 (List.length r35.1)), (181, iv (List.length r3.1 : Int)), (182, iv v76), (230, .bool (!((o105.1 == r107.1) && ((o105.2 == r107.2) && true))))])) (h2 := (H10_33 r3 r9 r15 r35)) ?_ ?_
      · refine QJ.run (s1 := (qs (S10_30 r3 r15 r35 v76) (H10_33 r3 r9 r15 r35) [] [])) 2 (by kernel_rfl) (by kernel_rfl) ?_
        refine QJ.op (q := { val := .pointer (some ⟨2, 0 + (Int.toNat v76) * 2, none⟩) }) (by decide) (q_ixAcc (P := Try.prog) (t := 60) (s := 2) (e := 27) 2 (List.length r15.1) (by kernel_rfl) hg95 (by kernel_rfl) (by kernel_rfl)) ?_
        refine QJ.op (q := { val := ag [iv o96.1, iv o96.2] }) (by decide) (q_eqv (q_ldA (P := Try.prog) (hp := (H10_33 r3 r9 r15 r35)) (t := 27) (b := 2) (off := 0 + (Int.toNat v76) * 2) (l := r15.1) (enc := e27) (s := 2) (T := 27) (i := Int.toNat v76) (by kernel_rfl) (accB_at (h := (H10_33 r3 r9 r15 r35)) (n := List.length r15.1) (i := Int.toNat v76) (by kernel_rfl) (by first | omega | (simp only [List.length_set, List.length_replicate, List.length_cons, List.length_nil, List.length_append]; omega))) (by kernel_rfl) (by kernel_rfl) (fun _ => rfl) (by omega) (by first | omega | (simp only [List.length_set, List.length_replicate, List.length_cons, List.length_nil, List.length_append]; omega)) (0, 0)) (congrArg (fun (z : (Int × Int)) => ({ val := ag [iv z.1, iv z.2] } : QRes)) h97)) ?_
        refine QJ.run (s1 := (qs (S10_25 r3 r15 r35 v76 o96) (H10_33 r3 r9 r15 r35) [] [])) 2 (by kernel_rfl) (by kernel_rfl) ?_
        refine QJ.op (q := { val := .pointer (some ⟨0, 0 + (Int.toNat v76) * 2, none⟩) }) (by decide) (q_ixAcc (P := Try.prog) (t := 60) (s := 2) (e := 27) 0 (List.length r3.1) (by kernel_rfl) hg98 (by kernel_rfl) (by kernel_rfl)) ?_
        refine QJ.run (s1 := (qs (S10_17 r3 r15 r35 v76 o96) (H10_33 r3 r9 r15 r35) [] [])) 1 (by kernel_rfl) (by kernel_rfl) ?_
        refine QJ.op (q := { val := iv o99.1 }) (by decide) (q_eqv (q_ld1 (P := Try.prog) (hp := (H10_33 r3 r9 r15 r35)) (t := 3) (b := 0) (off := 0 + (Int.toNat v76) * 2) (l := r3.1) (enc := e27) (s := 2) (T := 27) (i := Int.toNat v76) (k := 0) (by kernel_rfl) (accB_at (h := (H10_33 r3 r9 r15 r35)) (n := List.length r3.1) (i := Int.toNat v76) (by kernel_rfl) (by first | omega | (simp only [List.length_set, List.length_replicate, List.length_cons, List.length_nil, List.length_append]; omega))) (by kernel_rfl) (fun _ => rfl) (by omega) (by decide) (by first | omega | (simp only [List.length_set, List.length_replicate, List.length_cons, List.length_nil, List.length_append]; omega)) (0, 0)) (congrArg (fun (z : (Int × Int)) => ({ val := iv z.1 } : QRes)) h100)) ?_
        refine QJ.run (s1 := (qs (S10_12 r3 r15 r35 v76 o96 o99 r9) (H10_33 r3 r9 r15 r35) [] [])) 5 (by kernel_rfl) (by kernel_rfl) ?_
        refine QJ.op (q := { val := .pointer (some ⟨0, 0 + (Int.toNat v76) * 2, none⟩) }) (by decide) (q_ixAcc (P := Try.prog) (t := 60) (s := 2) (e := 27) 0 (List.length r3.1) (by kernel_rfl) hg98 (by kernel_rfl) (by kernel_rfl)) ?_
        refine QJ.run (s1 := (qs (S10_8 r3 r15 r35 v76 o96 o99 r9) (H10_33 r3 r9 r15 r35) [] [])) 1 (by kernel_rfl) (by kernel_rfl) ?_
        refine QJ.op (q := { val := iv o99.2 }) (by decide) (q_eqv (q_ld1 (P := Try.prog) (hp := (H10_33 r3 r9 r15 r35)) (t := 3) (b := 0) (off := 0 + (Int.toNat v76) * 2 + 1) (l := r3.1) (enc := e27) (s := 2) (T := 27) (i := Int.toNat v76) (k := 1) (by kernel_rfl) (accB_at (h := (H10_33 r3 r9 r15 r35)) (n := List.length r3.1) (i := Int.toNat v76) (by kernel_rfl) (by first | omega | (simp only [List.length_set, List.length_replicate, List.length_cons, List.length_nil, List.length_append]; omega))) (by kernel_rfl) (fun _ => rfl) (by omega) (by decide) (by first | omega | (simp only [List.length_set, List.length_replicate, List.length_cons, List.length_nil, List.length_append]; omega)) (0, 0)) (congrArg (fun (z : (Int × Int)) => ({ val := iv z.2 } : QRes)) h100)) ?_
        refine QJ.run (s1 := (qs (S10_6 r3 r15 r35 v76 o96 o99 r9) (H10_33 r3 r9 r15 r35) [] [])) 3 (by kernel_rfl) (by kernel_rfl) ?_
        refine QJ.op (q := { val := ag [iv r101.1, iv r101.2], new := [] }) (by decide) (qOf_call (g := 44) (args := [iv (w64 (o99.1 - r9.1)), iv (w64 (o99.2 - r9.2))]) (by kernel_rfl) lookC_hit) ?_
        refine QJ.op (q := { val := .bool false }) (by decide) (q_conv (e := !((o96.1 == r101.1) && ((o96.2 == r101.2) && true))) (b := false) (by kernel_rfl) hc103) ?_
        refine QJ.run (s1 := (qs (st 233 [(7, accV 0 (List.length r3.1)), (14, pt 1 0), (15, accV 2 (List.length r15.1)), (19, accV 3 (List.length r35.1)), (24, iv v76), (181, iv (List.length r3.1 : Int)), (182, iv v76), (185, accV 2 (List.length r15.1)), (186, iv v76), (187, .pointer (some ⟨2, 0 + (Int.toNat v76) * 2, none⟩)), (188, ag [iv o96.1, iv o96.2]), (189, accV 0 (List.length r3.1)), (190, iv v76), (191, .pointer (some ⟨0, 0 + (Int.toNat v76) * 2, none⟩)), (192, .pointer (some ⟨0, 0 + (Int.toNat v76) * 2, none⟩)), (193, iv o99.1), (194, pt 1 0), (195, iv r9.1), (196, iv (w64 (o99.1 - r9.1))), (197, accV 0 (List.length r3.1)), (198, iv v76), (199, .pointer (some ⟨0, 0 + (Int.toNat v76) * 2, none⟩)), (200, .pointer (some ⟨0, 0 + (Int.toNat v76) * 2 + 1, none⟩)), (201, iv o99.2), (202, pt 1 1), (203, iv r9.2), (204, iv (w64 (o99.2 - r9.2))), (205, ag [iv r101.1, iv r101.2]), (206, .bool false), (207, .bool false), (208, accV 3 (List.length r35.1)), (209, accV 3 (List.length r35.1)), (210, iv (List.length r35.1 : Int)), (211, iv (w64 ((List.length r35.1 : Int) - 1))), (212, iv v76), (213, iv (w64 ((w64 ((List.length r35.1 : Int) - 1)) - v76)))]) (H10_33 r3 r9 r15 r35) [] [])) 7 (by kernel_rfl) (by kernel_rfl) ?_
        refine QJ.op (q := { val := .pointer (some ⟨3, 0 + (Int.toNat (w64 ((w64 ((List.length r35.1 : Int) - 1)) - v76))) * 2, none⟩) }) (by decide) (q_ixAcc (P := Try.prog) (t := 60) (s := 2) (e := 27) 3 (List.length r35.1) (by kernel_rfl) hg104 (by kernel_rfl) (by kernel_rfl)) ?_
        refine QJ.op (q := { val := ag [iv o105.1, iv o105.2] }) (by decide) (q_eqv (q_ldA (P := Try.prog) (hp := (H10_33 r3 r9 r15 r35)) (t := 27) (b := 3) (off := 0 + (Int.toNat (w64 ((w64 ((List.length r35.1 : Int) - 1)) - v76))) * 2) (l := r35.1) (enc := e27) (s := 2) (T := 27) (i := Int.toNat (w64 ((w64 ((List.length r35.1 : Int) - 1)) - v76))) (by kernel_rfl) (accB_at (h := (H10_33 r3 r9 r15 r35)) (n := List.length r35.1) (i := Int.toNat (w64 ((w64 ((List.length r35.1 : Int) - 1)) - v76))) (by kernel_rfl) (by first | omega | (simp only [List.length_set, List.length_replicate, List.length_cons, List.length_nil, List.length_append]; omega))) (by kernel_rfl) (by kernel_rfl) (fun _ => rfl) (by omega) (by first | omega | (simp only [List.length_set, List.length_replicate, List.length_cons, List.length_nil, List.length_append]; omega)) (0, 0)) (congrArg (fun (z : (Int × Int)) => ({ val := ag [iv z.1, iv z.2] } : QRes)) h106)) ?_
        refine QJ.run (s1 := (qs (st 233 [(7, accV 0 (List.length r3.1)), (14, pt 1 0), (15, accV 2 (List.length r15.1)), (19, accV 3 (List.length r35.1)), (24, iv v76), (181, iv (List.length r3.1 : Int)), (182, iv v76), (185, accV 2 (List.length r15.1)), (186, iv v76), (187, .pointer (some ⟨2, 0 + (Int.toNat v76) * 2, none⟩)), (188, ag [iv o96.1, iv o96.2]), (189, accV 0 (List.length r3.1)), (190, iv v76), (191, .pointer (some ⟨0, 0 + (Int.toNat v76) * 2, none⟩)), (192, .pointer (some ⟨0, 0 + (Int.toNat v76) * 2, none⟩)), (193, iv o99.1), (194, pt 1 0), (195, iv r9.1), (196, iv (w64 (o99.1 - r9.1))), (197, accV 0 (List.length r3.1)), (198, iv v76), (199, .pointer (some ⟨0, 0 + (Int.toNat v76) * 2, none⟩)), (200, .pointer (some ⟨0, 0 + (Int.toNat v76) * 2 + 1, none⟩)), (201, iv o99.2), (202, pt 1 1), (203, iv r9.2), (204, iv (w64 (o99.2 - r9.2))), (205, ag [iv r101.1, iv r101.2]), (206, .bool false), (207, .bool false), (208, accV 3 (List.length r35.1)), (209, accV 3 (List.length r35.1)), (210, iv (List.length r35.1 : Int)), (211, iv (w64 ((List.length r35.1 : Int) - 1))), (212, iv v76), (213, iv (w64 ((w64 ((List.length r35.1 : Int) - 1)) - v76))), (214, .pointer (some ⟨3, 0 + (Int.toNat (w64 ((w64 ((List.length r35.1 : Int) - 1)) - v76))) * 2, none⟩)), (215, ag [iv o105.1, iv o105.2]), (216, accV 0 (List.length r3.1)), (217, iv v76)]) (H10_33 r3 r9 r15 r35) [] [])) 2 (by kernel_rfl) (by kernel_rfl) ?_
        refine QJ.op (q := { val := .pointer (some ⟨0, 0 + (Int.toNat v76) * 2, none⟩) }) (by decide) (q_ixAcc (P := Try.prog) (t := 60) (s := 2) (e := 27) 0 (List.length r3.1) (by kernel_rfl) hg98 (by kernel_rfl) (by kernel_rfl)) ?_
        refine QJ.run (s1 := (qs (st 233 [(7, accV 0 (List.length r3.1)), (14, pt 1 0), (15, accV 2 (List.length r15.1)), (19, accV 3 (List.length r35.1)), (24, iv v76), (181, iv (List.length r3.1 : Int)), (182, iv v76), (185, accV 2 (List.length r15.1)), (186, iv v76), (187, .pointer (some ⟨2, 0 + (Int.toNat v76) * 2, none⟩)), (188, ag [iv o96.1, iv o96.2]), (189, accV 0 (List.length r3.1)), (190, iv v76), (191, .pointer (some ⟨0, 0 + (Int.toNat v76) * 2, none⟩)), (192, .pointer (some ⟨0, 0 + (Int.toNat v76) * 2, none⟩)), (193, iv o99.1), (194, pt 1 0), (195, iv r9.1), (196, iv (w64 (o99.1 - r9.1))), (197, accV 0 (List.length r3.1)), (198, iv v76), (199, .pointer (some ⟨0, 0 + (Int.toNat v76) * 2, none⟩)), (200, .pointer (some ⟨0, 0 + (Int.toNat v76) * 2 + 1, none⟩)), (201, iv o99.2), (202, pt 1 1), (203, iv r9.2), (204, iv (w64 (o99.2 - r9.2))), (205, ag [iv r101.1, iv r101.2]), (206, .bool false), (207, .bool false), (208, accV 3 (List.length r35.1)), (209, accV 3 (List.length r35.1)), (210, iv (List.length r35.1 : Int)), (211, iv (w64 ((List.length r35.1 : Int) - 1))), (212, iv v76), (213, iv (w64 ((w64 ((List.length r35.1 : Int) - 1)) - v76))), (214, .pointer (some ⟨3, 0 + (Int.toNat (w64 ((w64 ((List.length r35.1 : Int) - 1)) - v76))) * 2, none⟩)), (215, ag [iv o105.1, iv o105.2]), (216, accV 0 (List.length r3.1)), (217, iv v76), (218, .pointer (some ⟨0, 0 + (Int.toNat v76) * 2, none⟩)), (219, .pointer (some ⟨0, 0 + (Int.toNat v76) * 2, none⟩))]) (H10_33 r3 r9 r15 r35) [] [])) 1 (by kernel_rfl) (by kernel_rfl) ?_
        refine QJ.op (q := { val := iv o99.1 }) (by decide) (q_eqv (q_ld1 (P := Try.prog) (hp := (H10_33 r3 r9 r15 r35)) (t := 3) (b := 0) (off := 0 + (Int.toNat v76) * 2) (l := r3.1) (enc := e27) (s := 2) (T := 27) (i := Int.toNat v76) (k := 0) (by kernel_rfl) (accB_at (h := (H10_33 r3 r9 r15 r35)) (n := List.length r3.1) (i := Int.toNat v76) (by kernel_rfl) (by first | omega | (simp only [List.length_set, List.length_replicate, List.length_cons, List.length_nil, List.length_append]; omega))) (by kernel_rfl) (fun _ => rfl) (by omega) (by decide) (by first | omega | (simp only [List.length_set, List.length_replicate, List.length_cons, List.length_nil, List.length_append]; omega)) (0, 0)) (congrArg (fun (z : (Int × Int)) => ({ val := iv z.1 } : QRes)) h100)) ?_
        refine QJ.run (s1 := (qs (st 233 [(7, accV 0 (List.length r3.1)), (14, pt 1 0), (15, accV 2 (List.length r15.1)), (19, accV 3 (List.length r35.1)), (24, iv v76), (181, iv (List.length r3.1 : Int)), (182, iv v76), (185, accV 2 (List.length r15.1)), (186, iv v76), (187, .pointer (some ⟨2, 0 + (Int.toNat v76) * 2, none⟩)), (188, ag [iv o96.1, iv o96.2]), (189, accV 0 (List.length r3.1)), (190, iv v76), (191, .pointer (some ⟨0, 0 + (Int.toNat v76) * 2, none⟩)), (192, .pointer (some ⟨0, 0 + (Int.toNat v76) * 2, none⟩)), (193, iv o99.1), (194, pt 1 0), (195, iv r9.1), (196, iv (w64 (o99.1 - r9.1))), (197, accV 0 (List.length r3.1)), (198, iv v76), (199, .pointer (some ⟨0, 0 + (Int.toNat v76) * 2, none⟩)), (200, .pointer (some ⟨0, 0 + (Int.toNat v76) * 2 + 1, none⟩)), (201, iv o99.2), (202, pt 1 1), (203, iv r9.2), (204, iv (w64 (o99.2 - r9.2))), (205, ag [iv r101.1, iv r101.2]), (206, .bool false), (207, .bool false), (208, accV 3 (List.length r35.1)), (209, accV 3 (List.length r35.1)), (210, iv (List.length r35.1 : Int)), (211, iv (w64 ((List.length r35.1 : Int) - 1))), (212, iv v76), (213, iv (w64 ((w64 ((List.length r35.1 : Int) - 1)) - v76))), (214, .pointer (some ⟨3, 0 + (Int.toNat (w64 ((w64 ((List.length r35.1 : Int) - 1)) - v76))) * 2, none⟩)), (215, ag [iv o105.1, iv o105.2]), (216, accV 0 (List.length r3.1)), (217, iv v76), (218, .pointer (some ⟨0, 0 + (Int.toNat v76) * 2, none⟩)), (219, .pointer (some ⟨0, 0 + (Int.toNat v76) * 2, none⟩)), (220, iv o99.1), (221, iv (w64 (0 - o99.1))), (222, accV 0 (List.length r3.1)), (223, iv v76)]) (H10_33 r3 r9 r15 r35) [] [])) 3 (by kernel_rfl) (by kernel_rfl) ?_
        refine QJ.op (q := { val := .pointer (some ⟨0, 0 + (Int.toNat v76) * 2, none⟩) }) (by decide) (q_ixAcc (P := Try.prog) (t := 60) (s := 2) (e := 27) 0 (List.length r3.1) (by kernel_rfl) hg98 (by kernel_rfl) (by kernel_rfl)) ?_
        refine QJ.run (s1 := (qs (st 233 [(7, accV 0 (List.length r3.1)), (14, pt 1 0), (15, accV 2 (List.length r15.1)), (19, accV 3 (List.length r35.1)), (24, iv v76), (181, iv (List.length r3.1 : Int)), (182, iv v76), (185, accV 2 (List.length r15.1)), (186, iv v76), (187, .pointer (some ⟨2, 0 + (Int.toNat v76) * 2, none⟩)), (188, ag [iv o96.1, iv o96.2]), (189, accV 0 (List.length r3.1)), (190, iv v76), (191, .pointer (some ⟨0, 0 + (Int.toNat v76) * 2, none⟩)), (192, .pointer (some ⟨0, 0 + (Int.toNat v76) * 2, none⟩)), (193, iv o99.1), (194, pt 1 0), (195, iv r9.1), (196, iv (w64 (o99.1 - r9.1))), (197, accV 0 (List.length r3.1)), (198, iv v76), (199, .pointer (some ⟨0, 0 + (Int.toNat v76) * 2, none⟩)), (200, .pointer (some ⟨0, 0 + (Int.toNat v76) * 2 + 1, none⟩)), (201, iv o99.2), (202, pt 1 1), (203, iv r9.2), (204, iv (w64 (o99.2 - r9.2))), (205, ag [iv r101.1, iv r101.2]), (206, .bool false), (207, .bool false), (208, accV 3 (List.length r35.1)), (209, accV 3 (List.length r35.1)), (210, iv (List.length r35.1 : Int)), (211, iv (w64 ((List.length r35.1 : Int) - 1))), (212, iv v76), (213, iv (w64 ((w64 ((List.length r35.1 : Int) - 1)) - v76))), (214, .pointer (some ⟨3, 0 + (Int.toNat (w64 ((w64 ((List.length r35.1 : Int) - 1)) - v76))) * 2, none⟩)), (215, ag [iv o105.1, iv o105.2]), (216, accV 0 (List.length r3.1)), (217, iv v76), (218, .pointer (some ⟨0, 0 + (Int.toNat v76) * 2, none⟩)), (219, .pointer (some ⟨0, 0 + (Int.toNat v76) * 2, none⟩)), (220, iv o99.1), (221, iv (w64 (0 - o99.1))), (222, accV 0 (List.length r3.1)), (223, iv v76), (224, .pointer (some ⟨0, 0 + (Int.toNat v76) * 2, none⟩)), (225, .pointer (some ⟨0, 0 + (Int.toNat v76) * 2 + 1, none⟩))]) (H10_33 r3 r9 r15 r35) [] [])) 1 (by kernel_rfl) (by kernel_rfl) ?_
        refine QJ.op (q := { val := iv o99.2 }) (by decide) (q_eqv (q_ld1 (P := Try.prog) (hp := (H10_33 r3 r9 r15 r35)) (t := 3) (b := 0) (off := 0 + (Int.toNat v76) * 2 + 1) (l := r3.1) (enc := e27) (s := 2) (T := 27) (i := Int.toNat v76) (k := 1) (by kernel_rfl) (accB_at (h := (H10_33 r3 r9 r15 r35)) (n := List.length r3.1) (i := Int.toNat v76) (by kernel_rfl) (by first | omega | (simp only [List.length_set, List.length_replicate, List.length_cons, List.length_nil, List.length_append]; omega))) (by kernel_rfl) (fun _ => rfl) (by omega) (by decide) (by first | omega | (simp only [List.length_set, List.length_replicate, List.length_cons, List.length_nil, List.length_append]; omega)) (0, 0)) (congrArg (fun (z : (Int × Int)) => ({ val := iv z.2 } : QRes)) h100)) ?_
        refine QJ.run (s1 := (qs (st 233 [(7, accV 0 (List.length r3.1)), (14, pt 1 0), (15, accV 2 (List.length r15.1)), (19, accV 3 (List.length r35.1)), (24, iv v76), (181, iv (List.length r3.1 : Int)), (182, iv v76), (185, accV 2 (List.length r15.1)), (186, iv v76), (187, .pointer (some ⟨2, 0 + (Int.toNat v76) * 2, none⟩)), (188, ag [iv o96.1, iv o96.2]), (189, accV 0 (List.length r3.1)), (190, iv v76), (191, .pointer (some ⟨0, 0 + (Int.toNat v76) * 2, none⟩)), (192, .pointer (some ⟨0, 0 + (Int.toNat v76) * 2, none⟩)), (193, iv o99.1), (194, pt 1 0), (195, iv r9.1), (196, iv (w64 (o99.1 - r9.1))), (197, accV 0 (List.length r3.1)), (198, iv v76), (199, .pointer (some ⟨0, 0 + (Int.toNat v76) * 2, none⟩)), (200, .pointer (some ⟨0, 0 + (Int.toNat v76) * 2 + 1, none⟩)), (201, iv o99.2), (202, pt 1 1), (203, iv r9.2), (204, iv (w64 (o99.2 - r9.2))), (205, ag [iv r101.1, iv r101.2]), (206, .bool false), (207, .bool false), (208, accV 3 (List.length r35.1)), (209, accV 3 (List.length r35.1)), (210, iv (List.length r35.1 : Int)), (211, iv (w64 ((List.length r35.1 : Int) - 1))), (212, iv v76), (213, iv (w64 ((w64 ((List.length r35.1 : Int) - 1)) - v76))), (214, .pointer (some ⟨3, 0 + (Int.toNat (w64 ((w64 ((List.length r35.1 : Int) - 1)) - v76))) * 2, none⟩)), (215, ag [iv o105.1, iv o105.2]), (216, accV 0 (List.length r3.1)), (217, iv v76), (218, .pointer (some ⟨0, 0 + (Int.toNat v76) * 2, none⟩)), (219, .pointer (some ⟨0, 0 + (Int.toNat v76) * 2, none⟩)), (220, iv o99.1), (221, iv (w64 (0 - o99.1))), (222, accV 0 (List.length r3.1)), (223, iv v76), (224, .pointer (some ⟨0, 0 + (Int.toNat v76) * 2, none⟩)), (225, .pointer (some ⟨0, 0 + (Int.toNat v76) * 2 + 1, none⟩)), (226, iv o99.2), (227, iv (w64 (0 - o99.2)))]) (H10_33 r3 r9 r15 r35) [] [])) 1 (by kernel_rfl) (by kernel_rfl) ?_
        refine QJ.op (q := { val := ag [iv r107.1, iv r107.2], new := [] }) (by decide) (qOf_call (g := 44) (args := [iv (w64 (0 - o99.1)), iv (w64 (0 - o99.2))]) (by kernel_rfl) (lookC_skip (by intro _ ha _; have hr := Option.some.inj (h102.symm.trans (Eq.trans (congr (congrArg F44 (show (w64 (o99.1 - r9.1)) = (w64 (0 - o99.1)) from congrArg (leafI 0) ha)) (show (w64 (o99.2 - r9.2)) = (w64 (0 - o99.2)) from congrArg (leafI 1) ha)) h108)); first | (subst hr; rfl) | (cases hr; done) | (cases hr; rfl)) lookC_hit)) ?_
        refine QJ.done (by kernel_rfl) ⟨rfl, ?_⟩
        refine SJ.last (by kernel_rfl)
      exact hK
  · replace hF := of_neg hF hc94
    refine TS.exit' (id := 0) (by kernel_rfl) ?_
    refine NX.sqX ?_
    have hF := Option.some.inj hF
    subst hF
    exact Rd.out (e := .exit 0) (by intro h; cases h) (And.intro rfl (Wk.anew (base := 0) (L := 0) (f := []) (by decide) (by decide) (Nat.le_of_ble_eq_true rfl) rfl (.nil _) (LRn.stx [] [] [] .nil (by kernel_rfl) (by kernel_rfl) rfl) rfl rfl))
theorem B10 (p0 : Int) (p1 : Int) (p2 : Int) (p3 : Int) (p4 : Int) (p5 : Int) (p6 : Int) (p7 : Int) (r : Bool) (hF : F10 p0 p1 p2 p3 p4 p5 p6 p7 = some r) : TS Try.prog 0 0 c10 (st 233 [(0, ag [.int .i8 p0, .int .i8 p1, .int .i8 p2, .int .i8 p3, .int .i16 p4, .int .i16 p5]), (1, ag [.int .i8 p6, .int .i8 p7])]) [] (NX Try.prog 0 0 [] (FinP Try.prog Try.f10 0 (V10 0 r) (N10 0 r))) := by
  unfold F10 at hF
  refine TS.seqP (by kernel_rfl) ?_
  refine TS.regionP (by kernel_rfl) ?_
  refine TI.run 3 [2, 3] [0, 1] (a2 := (st 233 [(2, pt 0 0), (3, pt 1 0)])) (h2 := [cl 77 [.int .i8 p0, .int .i8 p1, .int .i8 p2, .int .i8 p3, .int .i16 p4, .int .i16 p5], cl 90 [.int .i8 p6, .int .i8 p7]]) (by kernel_rfl) ?_
  refine TI.done (by kernel_rfl) ?_
  refine NX.sq ?_
  refine TS.seqP (by kernel_rfl) ?_
  have hX := of_do hF
  clear hF
  obtain ⟨r1, h2, hF⟩ := hX
  refine TS.regionP (by kernel_rfl) ?_
  refine TI.run 1 [3, 26] [1] (a2 := (st 233 [(3, pt 1 0), (26, ag [.int .i8 p0, .int .i8 p1, .int .i8 p2, .int .i8 p3, .int .i16 p4, .int .i16 p5])])) (h2 := [.dead, cl 90 [.int .i8 p6, .int .i8 p7]]) (by kernel_rfl) ?_
  refine TI.callF (C36 _ _ _ _ _ _ _ h2) (by kernel_rfl) (by kernel_rfl) ?_
  refine TI.run 7 [3, 5, 6] [1, 2, 3] (a2 := (st 233 [(3, pt 1 0), (5, pt 2 0), (6, pt 3 0)])) (h2 := [.dead, cl 90 [.int .i8 p6, .int .i8 p7], cl 25 [iv r1.1.1.1, iv r1.1.1.2, iv r1.1.2.1, iv r1.1.2.2], cl 23 [iv r1.2.1, iv r1.2.2]]) (by kernel_rfl) ?_
  refine TI.done (by kernel_rfl) ?_
  refine NX.sq ?_
  refine TS.seqP (by kernel_rfl) ?_
  have hX := of_do hF
  clear hF
  obtain ⟨r3, h4, hF⟩ := hX
  refine TS.regionP (by kernel_rfl) ?_
  refine TI.runA 2 [3, 5, 6, 31, 32] (a2 := (st 233 [(3, pt 1 0), (5, pt 2 0), (6, pt 3 0), (31, ag [iv r1.1.1.1, iv r1.1.1.2, iv r1.1.2.1, iv r1.1.2.2]), (32, ag [iv r1.2.1, iv r1.2.2])])) (by kernel_rfl) ?_
  refine TI.callP (g := 30) (args := [ag [iv r1.1.1.1, iv r1.1.1.2, iv r1.1.2.1, iv r1.1.2.2], ag [iv r1.2.1, iv r1.2.2]]) (v := .tuple ⟨[accV 4 (List.length r3.1), iv r3.2]⟩) (new := [accB 27 (List.length r3.1) (List.flatMap e27 r3.1)]) (PureSim.ren (hc := []) (fun i => List.getD [] i (0, 0)) (C30 _ _ _ _ _ _ _ h4) (.nil _) (.cons (.flat (by kernel_rfl)) (.cons (.flat (by kernel_rfl)) .nil)) (Rn.tuple' (.cons (Rn.acc (i' := 4) (Nat.le_of_ble_eq_true rfl) rfl) (.cons (.flat (by kernel_rfl)) .nil))) (newflat_cons (accB_flat (fun _ => rfl)) newflat_nil)) (by kernel_rfl) ?_
  refine TI.run 5 [3, 5, 6, 7, 8] [1, 2, 3, 4] (a2 := (st 233 [(3, pt 1 0), (5, pt 2 0), (6, pt 3 0), (7, accV 4 (List.length r3.1)), (8, iv r3.2)])) (h2 := [.dead, cl 90 [.int .i8 p6, .int .i8 p7], cl 25 [iv r1.1.1.1, iv r1.1.1.2, iv r1.1.2.1, iv r1.1.2.2], cl 23 [iv r1.2.1, iv r1.2.2], accB 27 (List.length r3.1) (List.flatMap e27 r3.1)]) (by kernel_rfl) ?_
  refine TI.done (by kernel_rfl) ?_
  refine NX.sq ?_
  refine TS.seqP (by kernel_rfl) ?_
  have hX := of_do hF
  clear hF
  obtain ⟨r5, h6, hF⟩ := hX
  refine TS.regionP (by kernel_rfl) ?_
  refine TI.runA 2 [3, 5, 6, 7, 8, 37, 38] (a2 := (st 233 [(3, pt 1 0), (5, pt 2 0), (6, pt 3 0), (7, accV 4 (List.length r3.1)), (8, iv r3.2), (37, ag [iv r1.1.1.1, iv r1.1.1.2, iv r1.1.2.1, iv r1.1.2.2]), (38, ag [iv r1.2.1, iv r1.2.2])])) (by kernel_rfl) ?_
  refine TI.callF (C28 _ _ _ _ _ _ _ h6) (by kernel_rfl) (by kernel_rfl) ?_
  refine TI.run 9 [3, 5, 6, 7, 8, 10, 11] [1, 2, 3, 4, 6] (a2 := (st 233 [(3, pt 1 0), (5, pt 2 0), (6, pt 3 0), (7, accV 4 (List.length r3.1)), (8, iv r3.2), (10, pt 6 0), (11, iv r5.2.2)])) (h2 := (H10_31 p6 p7 r1 r3 r5)) (by kernel_rfl) ?_
  refine TI.done (by kernel_rfl) ?_
  refine NX.sq ?_
  refine TS.seqP (by kernel_rfl) ?_
  refine TS.seqP (by kernel_rfl) ?_
  have hX := of_do hF
  clear hF
  obtain ⟨m8, hm118, hF⟩ := hX
  have hK : NX Try.prog 0 0 [.sq c10.s2.s2.s2.s2.s1.s2, .sq c10.s2.s2.s2.s2.s2] (FinP Try.prog Try.f10 0 (V10 0 r) (N10 0 r)) .normal (st 233 [(3, pt 1 0), (5, pt 2 0), (6, pt 3 0), (7, accV 4 (List.length r3.1)), (10, pt 6 0), (48, .bool m8)]) (H10_31 p6 p7 r1 r3 r5) := by
    refine NX.sq ?_
    cases m8 with
    | true =>
      replace hF := of_pos hF rfl
      refine TS.condTP (o := (.tmp 48)) (by kernel_rfl) (by kernel_rfl) ?_
      refine TS.seqP (by kernel_rfl) ?_
      refine TS.regionP (by kernel_rfl) ?_
      refine TI.run 1 [4] [] (a2 := (st 233 [(4, .bool false)])) (h2 := [.dead, .dead, .dead, .dead, .dead, .dead, .dead]) (by kernel_rfl) ?_
      refine TI.done (by kernel_rfl) ?_
      refine NX.sq ?_
      refine TS.ret' (by kernel_rfl) ?_
      refine NX.sqR ?_
      have hF := Option.some.inj hF
      subst hF
      exact ⟨.inr rfl, rfl, .bool false, by kernel_rfl, WkV.flat0 (by kernel_rfl) (Nat.le_of_ble_eq_true rfl)⟩
    | false =>
      replace hF := of_neg hF rfl
      refine TS.condFP (o := (.tmp 48)) (by kernel_rfl) (by kernel_rfl) ?_
      refine TS.skip' (by kernel_rfl) ?_
      refine NX.sq ?_
      refine TS.seqP (by kernel_rfl) ?_
      refine TS.regionP (by kernel_rfl) ?_
      refine TI.runA 1 [3, 5, 6, 7, 10, 12] (a2 := (st 233 [(3, pt 1 0), (5, pt 2 0), (6, pt 3 0), (7, accV 4 (List.length r3.1)), (10, pt 6 0), (12, .func (.func 46) ⟨[]⟩ ⟨[]⟩)])) (by kernel_rfl) ?_
      refine TI.done (by kernel_rfl) ?_
      refine NX.sq ?_
      refine TS.seqP (by kernel_rfl) ?_
      refine TS.regionP (by kernel_rfl) ?_
      refine TI.runA 1 [3, 5, 6, 7, 10, 12, 13] (a2 := (st 233 [(3, pt 1 0), (5, pt 2 0), (6, pt 3 0), (7, accV 4 (List.length r3.1)), (10, pt 6 0), (12, .func (.func 46) ⟨[]⟩ ⟨[]⟩), (13, .func (.func 47) ⟨[]⟩ ⟨[]⟩)])) (by kernel_rfl) ?_
      refine TI.done (by kernel_rfl) ?_
      refine NX.sq ?_
      refine TS.seqP (by kernel_rfl) ?_
      have hX := of_do hF
      clear hF
      obtain ⟨r9, h10, hF⟩ := hX
      refine TS.regionP (by kernel_rfl) ?_
      refine TI.run 8 [5, 6, 7, 10, 12, 13, 52, 56] [2, 3, 4, 6] (a2 := (st 233 [(5, pt 2 0), (6, pt 3 0), (7, accV 4 (List.length r3.1)), (10, pt 6 0), (12, .func (.func 46) ⟨[]⟩ ⟨[]⟩), (13, .func (.func 47) ⟨[]⟩ ⟨[]⟩), (52, iv (Int.tmod (w64 p6) 20)), (56, iv (Int.tmod (w64 p7) 20))])) (h2 := [.dead, .dead, cl 25 [iv r1.1.1.1, iv r1.1.1.2, iv r1.1.2.1, iv r1.1.2.2], cl 23 [iv r1.2.1, iv r1.2.2], accB 27 (List.length r3.1) (List.flatMap e27 r3.1), .dead, cl 23 [iv r5.2.1.1, iv r5.2.1.2]]) (by kernel_rfl) ?_
      refine TI.callF (C44 _ _ _ h10) (by kernel_rfl) (by kernel_rfl) ?_
      refine TI.run 2 [5, 6, 7, 10, 12, 13, 14] [2, 3, 4, 6, 7] (a2 := (st 233 [(5, pt 2 0), (6, pt 3 0), (7, accV 4 (List.length r3.1)), (10, pt 6 0), (12, .func (.func 46) ⟨[]⟩ ⟨[]⟩), (13, .func (.func 47) ⟨[]⟩ ⟨[]⟩), (14, pt 7 0)])) (h2 := (H10_32 r1 r3 r5 r9)) (by kernel_rfl) ?_
      refine TI.done (by kernel_rfl) ?_
      refine NX.sq ?_
      refine TS.seqP (by kernel_rfl) ?_
      have hX := of_do hF
      clear hF
      obtain ⟨r11, h12, hF⟩ := hX
      have hX := of_do hF
      clear hF
      obtain ⟨r13, h14, hF⟩ := hX
      have hX := of_do hF
      clear hF
      obtain ⟨r15, h16, hF⟩ := hX
      have hT : ∀ e ∈ ([⟨40, [ag [iv r1.1.1.1, iv r1.1.1.2, iv r1.1.2.1, iv r1.1.2.2], ag [iv r9.1, iv r9.2]], (H10_32 r1 r3 r5 r9), ag [iv r11.1, iv r11.2], []⟩, ⟨39, [ag [iv r1.2.1, iv r1.2.2], ag [iv r11.1, iv r11.2]], (H10_32 r1 r3 r5 r9), ag [iv r13.1, iv r13.2], []⟩, ⟨30, [ag [iv r1.1.1.1, iv r1.1.1.2, iv r1.1.2.1, iv r1.1.2.2], ag [iv r13.1, iv r13.2]], (H10_32 r1 r3 r5 r9), .tuple ⟨[accV 8 (List.length r15.1), iv r15.2]⟩, [accB 27 (List.length r15.1) (List.flatMap e27 r15.1)]⟩] : List Entry), PureSim Try.prog e.g e.args e.h e.v e.new := by
        intro e he
        simp only [List.mem_cons, List.not_mem_nil, or_false] at he
        rcases he with rfl | rfl | rfl
        · exact PureSim.anyK (C40 _ _ _ _ _ _ _ h12) (by kernel_rfl)
        · exact PureSim.anyK (C39 _ _ _ _ _ h14) (by kernel_rfl)
        · exact (PureSim.ren (hc := []) (fun i => List.getD [] i (0, 0)) (C30 _ _ _ _ _ _ _ h16) (.nil _) (.cons (.flat (by kernel_rfl)) (.cons (.flat (by kernel_rfl)) .nil)) (Rn.tuple' (.cons (Rn.acc (i' := 8) (Nat.le_of_ble_eq_true rfl) rfl) (.cons (.flat (by kernel_rfl)) .nil))) (newflat_cons (accB_flat (fun _ => rfl)) newflat_nil))
      refine TS.drawP [⟨40, [ag [iv r1.1.1.1, iv r1.1.1.2, iv r1.1.2.1, iv r1.1.2.2], ag [iv r9.1, iv r9.2]], (H10_32 r1 r3 r5 r9), ag [iv r11.1, iv r11.2], []⟩, ⟨39, [ag [iv r1.2.1, iv r1.2.2], ag [iv r11.1, iv r11.2]], (H10_32 r1 r3 r5 r9), ag [iv r13.1, iv r13.2], []⟩, ⟨30, [ag [iv r1.1.1.1, iv r1.1.1.2, iv r1.1.2.1, iv r1.1.2.2], ag [iv r13.1, iv r13.2]], (H10_32 r1 r3 r5 r9), .tuple ⟨[accV 8 (List.length r15.1), iv r15.2]⟩, [accB 27 (List.length r15.1) (List.flatMap e27 r15.1)]⟩] hT mixed (by kernel_rfl) 11 (by kernel_rfl) [5, 6, 7, 8, 10, 12, 13, 14, 15] [2, 3, 4, 6, 7, 8] (a2 := (st 233 [(5, pt 2 0), (6, pt 3 0), (7, accV 4 (List.length r3.1)), (8, iv r15.2), (10, pt 6 0), (12, .func (.func 46) ⟨[]⟩ ⟨[]⟩), (13, .func (.func 47) ⟨[]⟩ ⟨[]⟩), (14, pt 7 0), (15, accV 8 (List.length r15.1))])) (h2 := (H10_28 r1 r3 r5 r9 r15)) ?_ ?_
      · refine QJ.run (s1 := (qs (st 233 [(5, pt 2 0), (6, pt 3 0), (7, accV 4 (List.length r3.1)), (10, pt 6 0), (12, .func (.func 46) ⟨[]⟩ ⟨[]⟩), (13, .func (.func 47) ⟨[]⟩ ⟨[]⟩), (14, pt 7 0), (59, ag [iv r1.1.1.1, iv r1.1.1.2, iv r1.1.2.1, iv r1.1.2.2]), (60, ag [iv r1.2.1, iv r1.2.2]), (61, ag [iv r1.1.1.1, iv r1.1.1.2, iv r1.1.2.1, iv r1.1.2.2]), (62, ag [iv r9.1, iv r9.2])]) (H10_32 r1 r3 r5 r9) [] [])) 4 (by kernel_rfl) (by kernel_rfl) ?_
        refine QJ.op (q := { val := ag [iv r11.1, iv r11.2], new := [] }) (by decide) (qOf_call (g := 40) (args := [ag [iv r1.1.1.1, iv r1.1.1.2, iv r1.1.2.1, iv r1.1.2.2], ag [iv r9.1, iv r9.2]]) (by kernel_rfl) lookC_hit) ?_
        refine QJ.op (q := { val := ag [iv r13.1, iv r13.2], new := [] }) (by decide) (qOf_call (g := 39) (args := [ag [iv r1.2.1, iv r1.2.2], ag [iv r11.1, iv r11.2]]) (by kernel_rfl) (lookC_skip (fun hg => absurd (show (40 : Nat) = 39 from hg) (by decide)) lookC_hit)) ?_
        refine QJ.op (q := { val := .tuple ⟨[accV 8 (List.length r15.1), iv r15.2]⟩, new := [accB 27 (List.length r15.1) (List.flatMap e27 r15.1)] }) (by decide) (qOf_call (g := 30) (args := [ag [iv r1.1.1.1, iv r1.1.1.2, iv r1.1.2.1, iv r1.1.2.2], ag [iv r13.1, iv r13.2]]) (by kernel_rfl) (lookC_skip (fun hg => absurd (show (40 : Nat) = 30 from hg) (by decide)) (lookC_skip (fun hg => absurd (show (39 : Nat) = 30 from hg) (by decide)) lookC_hit))) ?_
        refine QJ.run (s1 := (qs (st 233 [(5, pt 2 0), (6, pt 3 0), (7, accV 4 (List.length r3.1)), (10, pt 6 0), (12, .func (.func 46) ⟨[]⟩ ⟨[]⟩), (13, .func (.func 47) ⟨[]⟩ ⟨[]⟩), (14, pt 7 0), (15, accV 8 (List.length r15.1)), (58, .tuple ⟨[accV 8 (List.length r15.1), iv r15.2]⟩), (59, ag [iv r1.1.1.1, iv r1.1.1.2, iv r1.1.2.1, iv r1.1.2.2]), (60, ag [iv r1.2.1, iv r1.2.2]), (61, ag [iv r1.1.1.1, iv r1.1.1.2, iv r1.1.2.1, iv r1.1.2.2]), (62, ag [iv r9.1, iv r9.2]), (63, ag [iv r11.1, iv r11.2]), (64, ag [iv r13.1, iv r13.2]), (65, .tuple ⟨[accV 8 (List.length r15.1), iv r15.2]⟩), (66, accV 8 (List.length r15.1)), (67, iv r15.2)]) (H10_28 r1 r3 r5 r9 r15) [(6, 8, 9)] [])) 4 (by kernel_rfl) (by kernel_rfl) ?_
        refine QJ.done (by kernel_rfl) ⟨rfl, ?_⟩
        refine SJ.last (by kernel_rfl)
      refine TS.seqP (by kernel_rfl) ?_
      have hX := of_do hF
      clear hF
      obtain ⟨r17, h18, hF⟩ := hX
      have hX := of_do hF
      clear hF
      obtain ⟨r19, h20, hF⟩ := hX
      have hX := of_do hF
      clear hF
      obtain ⟨r21, h22, hF⟩ := hX
      have hX := of_do hF
      clear hF
      obtain ⟨r23, h24, hF⟩ := hX
      have hT : ∀ e ∈ ([⟨46, [ag [iv r1.1.1.1, iv r1.1.1.2]], (H10_28 r1 r3 r5 r9 r15), ag [iv r17.1, iv r17.2], []⟩, ⟨46, [ag [iv r1.1.2.1, iv r1.1.2.2]], (H10_28 r1 r3 r5 r9 r15), ag [iv r19.1, iv r19.2], []⟩, ⟨46, [ag [iv r1.2.1, iv r1.2.2]], (H10_28 r1 r3 r5 r9 r15), ag [iv r21.1, iv r21.2], []⟩, ⟨30, [ag [iv r17.1, iv r17.2, iv r19.1, iv r19.2], ag [iv r21.1, iv r21.2]], (H10_28 r1 r3 r5 r9 r15), .tuple ⟨[accV 9 (List.length r23.1), iv r23.2]⟩, [accB 27 (List.length r23.1) (List.flatMap e27 r23.1)]⟩] : List Entry), PureSim Try.prog e.g e.args e.h e.v e.new := by
        intro e he
        simp only [List.mem_cons, List.not_mem_nil, or_false] at he
        rcases he with rfl | rfl | rfl | rfl
        · exact PureSim.anyK (C46 _ _ _ h18) (by kernel_rfl)
        · exact PureSim.anyK (C46 _ _ _ h20) (by kernel_rfl)
        · exact PureSim.anyK (C46 _ _ _ h22) (by kernel_rfl)
        · exact (PureSim.ren (hc := []) (fun i => List.getD [] i (0, 0)) (C30 _ _ _ _ _ _ _ h24) (.nil _) (.cons (.flat (by kernel_rfl)) (.cons (.flat (by kernel_rfl)) .nil)) (Rn.tuple' (.cons (Rn.acc (i' := 9) (Nat.le_of_ble_eq_true rfl) rfl) (.cons (.flat (by kernel_rfl)) .nil))) (newflat_cons (accB_flat (fun _ => rfl)) newflat_nil))
      refine TS.drawP [⟨46, [ag [iv r1.1.1.1, iv r1.1.1.2]], (H10_28 r1 r3 r5 r9 r15), ag [iv r17.1, iv r17.2], []⟩, ⟨46, [ag [iv r1.1.2.1, iv r1.1.2.2]], (H10_28 r1 r3 r5 r9 r15), ag [iv r19.1, iv r19.2], []⟩, ⟨46, [ag [iv r1.2.1, iv r1.2.2]], (H10_28 r1 r3 r5 r9 r15), ag [iv r21.1, iv r21.2], []⟩, ⟨30, [ag [iv r17.1, iv r17.2, iv r19.1, iv r19.2], ag [iv r21.1, iv r21.2]], (H10_28 r1 r3 r5 r9 r15), .tuple ⟨[accV 9 (List.length r23.1), iv r23.2]⟩, [accB 27 (List.length r23.1) (List.flatMap e27 r23.1)]⟩] hT mixed (by kernel_rfl) 17 (by kernel_rfl) [5, 6, 7, 8, 10, 11, 12, 13, 14, 15, 16] [2, 3, 4, 6, 7, 8, 9] (a2 := (st 233 [(5, pt 2 0), (6, pt 3 0), (7, accV 4 (List.length r3.1)), (8, iv r15.2), (10, pt 6 0), (11, iv r23.2), (12, .func (.func 46) ⟨[]⟩ ⟨[]⟩), (13, .func (.func 47) ⟨[]⟩ ⟨[]⟩), (14, pt 7 0), (15, accV 8 (List.length r15.1)), (16, accV 9 (List.length r23.1))])) (h2 := (H10_27 r1 r3 r5 r9 r15 r23)) ?_ ?_
      · refine QJ.run (s1 := (qs (st 233 [(5, pt 2 0), (6, pt 3 0), (7, accV 4 (List.length r3.1)), (8, iv r15.2), (10, pt 6 0), (12, .func (.func 46) ⟨[]⟩ ⟨[]⟩), (13, .func (.func 47) ⟨[]⟩ ⟨[]⟩), (14, pt 7 0), (15, accV 8 (List.length r15.1)), (69, .func (.func 46) ⟨[]⟩ ⟨[]⟩), (70, pt 2 0), (71, ag [iv r1.1.1.1, iv r1.1.1.2])]) (H10_28 r1 r3 r5 r9 r15) [] [])) 3 (by kernel_rfl) (by kernel_rfl) ?_
        refine QJ.op (q := { val := ag [iv r17.1, iv r17.2], new := [] }) (by decide) (qOf_call (g := 46) (args := [ag [iv r1.1.1.1, iv r1.1.1.2]]) (by kernel_rfl) lookC_hit) ?_
        refine QJ.run (s1 := (qs (st 233 [(5, pt 2 0), (6, pt 3 0), (7, accV 4 (List.length r3.1)), (8, iv r15.2), (10, pt 6 0), (12, .func (.func 46) ⟨[]⟩ ⟨[]⟩), (13, .func (.func 47) ⟨[]⟩ ⟨[]⟩), (14, pt 7 0), (15, accV 8 (List.length r15.1)), (69, .func (.func 46) ⟨[]⟩ ⟨[]⟩), (70, pt 2 0), (71, ag [iv r1.1.1.1, iv r1.1.1.2]), (72, ag [iv r17.1, iv r17.2]), (73, .func (.func 46) ⟨[]⟩ ⟨[]⟩), (74, pt 2 2), (75, ag [iv r1.1.2.1, iv r1.1.2.2])]) (H10_28 r1 r3 r5 r9 r15) [] [])) 3 (by kernel_rfl) (by kernel_rfl) ?_
        refine QJ.op (q := { val := ag [iv r19.1, iv r19.2], new := [] }) (by decide) (qOf_call (g := 46) (args := [ag [iv r1.1.2.1, iv r1.1.2.2]]) (by kernel_rfl) (lookC_skip (by intro _ ha _; have hr := Option.some.inj (h18.symm.trans (Eq.trans (congr (congrArg F46 (show r1.1.1.1 = r1.1.2.1 from congrArg (leafI 0) ha)) (show r1.1.1.2 = r1.1.2.2 from congrArg (leafI 1) ha)) h20)); first | (subst hr; rfl) | (cases hr; done) | (cases hr; rfl)) lookC_hit)) ?_
        refine QJ.run (s1 := (qs (st 233 [(5, pt 2 0), (6, pt 3 0), (7, accV 4 (List.length r3.1)), (8, iv r15.2), (10, pt 6 0), (12, .func (.func 46) ⟨[]⟩ ⟨[]⟩), (13, .func (.func 47) ⟨[]⟩ ⟨[]⟩), (14, pt 7 0), (15, accV 8 (List.length r15.1)), (69, .func (.func 46) ⟨[]⟩ ⟨[]⟩), (70, pt 2 0), (71, ag [iv r1.1.1.1, iv r1.1.1.2]), (72, ag [iv r17.1, iv r17.2]), (73, .func (.func 46) ⟨[]⟩ ⟨[]⟩), (74, pt 2 2), (75, ag [iv r1.1.2.1, iv r1.1.2.2]), (76, ag [iv r19.1, iv r19.2]), (77, ag [iv r17.1, iv r17.2, iv r19.1, iv r19.2]), (78, .func (.func 46) ⟨[]⟩ ⟨[]⟩), (79, ag [iv r1.2.1, iv r1.2.2])]) (H10_28 r1 r3 r5 r9 r15) [] [])) 3 (by kernel_rfl) (by kernel_rfl) ?_
        refine QJ.op (q := { val := ag [iv r21.1, iv r21.2], new := [] }) (by decide) (qOf_call (g := 46) (args := [ag [iv r1.2.1, iv r1.2.2]]) (by kernel_rfl) (lookC_skip (by intro _ ha _; have hr := Option.some.inj (h18.symm.trans (Eq.trans (congr (congrArg F46 (show r1.1.1.1 = r1.2.1 from congrArg (leafI 0) ha)) (show r1.1.1.2 = r1.2.2 from congrArg (leafI 1) ha)) h22)); first | (subst hr; rfl) | (cases hr; done) | (cases hr; rfl)) (lookC_skip (by intro _ ha _; have hr := Option.some.inj (h20.symm.trans (Eq.trans (congr (congrArg F46 (show r1.1.2.1 = r1.2.1 from congrArg (leafI 0) ha)) (show r1.1.2.2 = r1.2.2 from congrArg (leafI 1) ha)) h22)); first | (subst hr; rfl) | (cases hr; done) | (cases hr; rfl)) lookC_hit))) ?_
        refine QJ.op (q := { val := .tuple ⟨[accV 9 (List.length r23.1), iv r23.2]⟩, new := [accB 27 (List.length r23.1) (List.flatMap e27 r23.1)] }) (by decide) (qOf_call (g := 30) (args := [ag [iv r17.1, iv r17.2, iv r19.1, iv r19.2], ag [iv r21.1, iv r21.2]]) (by kernel_rfl) (lookC_skip (fun hg => absurd (show (46 : Nat) = 30 from hg) (by decide)) (lookC_skip (fun hg => absurd (show (46 : Nat) = 30 from hg) (by decide)) (lookC_skip (fun hg => absurd (show (46 : Nat) = 30 from hg) (by decide)) lookC_hit)))) ?_
        refine QJ.run (s1 := (qs (st 233 [(5, pt 2 0), (6, pt 3 0), (7, accV 4 (List.length r3.1)), (8, iv r15.2), (10, pt 6 0), (12, .func (.func 46) ⟨[]⟩ ⟨[]⟩), (13, .func (.func 47) ⟨[]⟩ ⟨[]⟩), (14, pt 7 0), (15, accV 8 (List.length r15.1)), (16, accV 9 (List.length r23.1)), (68, .tuple ⟨[accV 9 (List.length r23.1), iv r23.2]⟩), (69, .func (.func 46) ⟨[]⟩ ⟨[]⟩), (70, pt 2 0), (71, ag [iv r1.1.1.1, iv r1.1.1.2]), (72, ag [iv r17.1, iv r17.2]), (73, .func (.func 46) ⟨[]⟩ ⟨[]⟩), (74, pt 2 2), (75, ag [iv r1.1.2.1, iv r1.1.2.2]), (76, ag [iv r19.1, iv r19.2]), (77, ag [iv r17.1, iv r17.2, iv r19.1, iv r19.2]), (78, .func (.func 46) ⟨[]⟩ ⟨[]⟩), (79, ag [iv r1.2.1, iv r1.2.2]), (80, ag [iv r21.1, iv r21.2]), (81, .tuple ⟨[accV 9 (List.length r23.1), iv r23.2]⟩), (82, accV 9 (List.length r23.1)), (83, iv r23.2)]) (H10_27 r1 r3 r5 r9 r15 r23) [(12, 9, 10)] [])) 4 (by kernel_rfl) (by kernel_rfl) ?_
        refine QJ.done (by kernel_rfl) ⟨rfl, ?_⟩
        refine SJ.last (by kernel_rfl)
      refine TS.seqP (by kernel_rfl) ?_
      have hX := of_do hF
      clear hF
      obtain ⟨r25, h26, hF⟩ := hX
      have hX := of_do hF
      clear hF
      obtain ⟨r27, h28, hF⟩ := hX
      have hX := of_do hF
      clear hF
      obtain ⟨r29, h30, hF⟩ := hX
      have hX := of_do hF
      clear hF
      obtain ⟨r31, h32, hF⟩ := hX
      have hT : ∀ e ∈ ([⟨47, [ag [iv r1.1.1.1, iv r1.1.1.2]], (H10_27 r1 r3 r5 r9 r15 r23), ag [iv r25.1, iv r25.2], []⟩, ⟨47, [ag [iv r1.1.2.1, iv r1.1.2.2]], (H10_27 r1 r3 r5 r9 r15 r23), ag [iv r27.1, iv r27.2], []⟩, ⟨47, [ag [iv r1.2.1, iv r1.2.2]], (H10_27 r1 r3 r5 r9 r15 r23), ag [iv r29.1, iv r29.2], []⟩, ⟨30, [ag [iv r25.1, iv r25.2, iv r27.1, iv r27.2], ag [iv r29.1, iv r29.2]], (H10_27 r1 r3 r5 r9 r15 r23), .tuple ⟨[accV 10 (List.length r31.1), iv r31.2]⟩, [accB 27 (List.length r31.1) (List.flatMap e27 r31.1)]⟩] : List Entry), PureSim Try.prog e.g e.args e.h e.v e.new := by
        intro e he
        simp only [List.mem_cons, List.not_mem_nil, or_false] at he
        rcases he with rfl | rfl | rfl | rfl
        · exact PureSim.anyK (C47 _ _ _ h26) (by kernel_rfl)
        · exact PureSim.anyK (C47 _ _ _ h28) (by kernel_rfl)
        · exact PureSim.anyK (C47 _ _ _ h30) (by kernel_rfl)
        · exact (PureSim.ren (hc := []) (fun i => List.getD [] i (0, 0)) (C30 _ _ _ _ _ _ _ h32) (.nil _) (.cons (.flat (by kernel_rfl)) (.cons (.flat (by kernel_rfl)) .nil)) (Rn.tuple' (.cons (Rn.acc (i' := 10) (Nat.le_of_ble_eq_true rfl) rfl) (.cons (.flat (by kernel_rfl)) .nil))) (newflat_cons (accB_flat (fun _ => rfl)) newflat_nil))
      refine TS.drawP [⟨47, [ag [iv r1.1.1.1, iv r1.1.1.2]], (H10_27 r1 r3 r5 r9 r15 r23), ag [iv r25.1, iv r25.2], []⟩, ⟨47, [ag [iv r1.1.2.1, iv r1.1.2.2]], (H10_27 r1 r3 r5 r9 r15 r23), ag [iv r27.1, iv r27.2], []⟩, ⟨47, [ag [iv r1.2.1, iv r1.2.2]], (H10_27 r1 r3 r5 r9 r15 r23), ag [iv r29.1, iv r29.2], []⟩, ⟨30, [ag [iv r25.1, iv r25.2, iv r27.1, iv r27.2], ag [iv r29.1, iv r29.2]], (H10_27 r1 r3 r5 r9 r15 r23), .tuple ⟨[accV 10 (List.length r31.1), iv r31.2]⟩, [accB 27 (List.length r31.1) (List.flatMap e27 r31.1)]⟩] hT mixed (by kernel_rfl) 17 (by kernel_rfl) [5, 6, 7, 8, 10, 11, 12, 14, 15, 16, 17, 18] [2, 3, 4, 6, 7, 8, 9, 10] (a2 := (st 233 [(5, pt 2 0), (6, pt 3 0), (7, accV 4 (List.length r3.1)), (8, iv r15.2), (10, pt 6 0), (11, iv r23.2), (12, .func (.func 46) ⟨[]⟩ ⟨[]⟩), (14, pt 7 0), (15, accV 8 (List.length r15.1)), (16, accV 9 (List.length r23.1)), (17, accV 10 (List.length r31.1)), (18, iv r31.2)])) (h2 := (H10_24 r1 r3 r5 r9 r15 r23 r31)) ?_ ?_
      · refine QJ.run (s1 := (qs (st 233 [(5, pt 2 0), (6, pt 3 0), (7, accV 4 (List.length r3.1)), (8, iv r15.2), (10, pt 6 0), (11, iv r23.2), (12, .func (.func 46) ⟨[]⟩ ⟨[]⟩), (13, .func (.func 47) ⟨[]⟩ ⟨[]⟩), (14, pt 7 0), (15, accV 8 (List.length r15.1)), (16, accV 9 (List.length r23.1)), (85, .func (.func 47) ⟨[]⟩ ⟨[]⟩), (86, pt 2 0), (87, ag [iv r1.1.1.1, iv r1.1.1.2])]) (H10_27 r1 r3 r5 r9 r15 r23) [] [])) 3 (by kernel_rfl) (by kernel_rfl) ?_
        refine QJ.op (q := { val := ag [iv r25.1, iv r25.2], new := [] }) (by decide) (qOf_call (g := 47) (args := [ag [iv r1.1.1.1, iv r1.1.1.2]]) (by kernel_rfl) lookC_hit) ?_
        refine QJ.run (s1 := (qs (st 233 [(5, pt 2 0), (6, pt 3 0), (7, accV 4 (List.length r3.1)), (8, iv r15.2), (10, pt 6 0), (11, iv r23.2), (12, .func (.func 46) ⟨[]⟩ ⟨[]⟩), (13, .func (.func 47) ⟨[]⟩ ⟨[]⟩), (14, pt 7 0), (15, accV 8 (List.length r15.1)), (16, accV 9 (List.length r23.1)), (85, .func (.func 47) ⟨[]⟩ ⟨[]⟩), (86, pt 2 0), (87, ag [iv r1.1.1.1, iv r1.1.1.2]), (88, ag [iv r25.1, iv r25.2]), (89, .func (.func 47) ⟨[]⟩ ⟨[]⟩), (90, pt 2 2), (91, ag [iv r1.1.2.1, iv r1.1.2.2])]) (H10_27 r1 r3 r5 r9 r15 r23) [] [])) 3 (by kernel_rfl) (by kernel_rfl) ?_
        refine QJ.op (q := { val := ag [iv r27.1, iv r27.2], new := [] }) (by decide) (qOf_call (g := 47) (args := [ag [iv r1.1.2.1, iv r1.1.2.2]]) (by kernel_rfl) (lookC_skip (by intro _ ha _; have hr := Option.some.inj (h26.symm.trans (Eq.trans (congr (congrArg F47 (show r1.1.1.1 = r1.1.2.1 from congrArg (leafI 0) ha)) (show r1.1.1.2 = r1.1.2.2 from congrArg (leafI 1) ha)) h28)); first | (subst hr; rfl) | (cases hr; done) | (cases hr; rfl)) lookC_hit)) ?_
        refine QJ.run (s1 := (qs (st 233 [(5, pt 2 0), (6, pt 3 0), (7, accV 4 (List.length r3.1)), (8, iv r15.2), (10, pt 6 0), (11, iv r23.2), (12, .func (.func 46) ⟨[]⟩ ⟨[]⟩), (13, .func (.func 47) ⟨[]⟩ ⟨[]⟩), (14, pt 7 0), (15, accV 8 (List.length r15.1)), (16, accV 9 (List.length r23.1)), (85, .func (.func 47) ⟨[]⟩ ⟨[]⟩), (86, pt 2 0), (87, ag [iv r1.1.1.1, iv r1.1.1.2]), (88, ag [iv r25.1, iv r25.2]), (89, .func (.func 47) ⟨[]⟩ ⟨[]⟩), (90, pt 2 2), (91, ag [iv r1.1.2.1, iv r1.1.2.2]), (92, ag [iv r27.1, iv r27.2]), (93, ag [iv r25.1, iv r25.2, iv r27.1, iv r27.2]), (94, .func (.func 47) ⟨[]⟩ ⟨[]⟩), (95, ag [iv r1.2.1, iv r1.2.2])]) (H10_27 r1 r3 r5 r9 r15 r23) [] [])) 3 (by kernel_rfl) (by kernel_rfl) ?_
        refine QJ.op (q := { val := ag [iv r29.1, iv r29.2], new := [] }) (by decide) (qOf_call (g := 47) (args := [ag [iv r1.2.1, iv r1.2.2]]) (by kernel_rfl) (lookC_skip (by intro _ ha _; have hr := Option.some.inj (h26.symm.trans (Eq.trans (congr (congrArg F47 (show r1.1.1.1 = r1.2.1 from congrArg (leafI 0) ha)) (show r1.1.1.2 = r1.2.2 from congrArg (leafI 1) ha)) h30)); first | (subst hr; rfl) | (cases hr; done) | (cases hr; rfl)) (lookC_skip (by intro _ ha _; have hr := Option.some.inj (h28.symm.trans (Eq.trans (congr (congrArg F47 (show r1.1.2.1 = r1.2.1 from congrArg (leafI 0) ha)) (show r1.1.2.2 = r1.2.2 from congrArg (leafI 1) ha)) h30)); first | (subst hr; rfl) | (cases hr; done) | (cases hr; rfl)) lookC_hit))) ?_
        refine QJ.op (q := { val := .tuple ⟨[accV 10 (List.length r31.1), iv r31.2]⟩, new := [accB 27 (List.length r31.1) (List.flatMap e27 r31.1)] }) (by decide) (qOf_call (g := 30) (args := [ag [iv r25.1, iv r25.2, iv r27.1, iv r27.2], ag [iv r29.1, iv r29.2]]) (by kernel_rfl) (lookC_skip (fun hg => absurd (show (47 : Nat) = 30 from hg) (by decide)) (lookC_skip (fun hg => absurd (show (47 : Nat) = 30 from hg) (by decide)) (lookC_skip (fun hg => absurd (show (47 : Nat) = 30 from hg) (by decide)) lookC_hit)))) ?_
        refine QJ.run (s1 := (qs (st 233 [(5, pt 2 0), (6, pt 3 0), (7, accV 4 (List.length r3.1)), (8, iv r15.2), (10, pt 6 0), (11, iv r23.2), (12, .func (.func 46) ⟨[]⟩ ⟨[]⟩), (13, .func (.func 47) ⟨[]⟩ ⟨[]⟩), (14, pt 7 0), (15, accV 8 (List.length r15.1)), (16, accV 9 (List.length r23.1)), (17, accV 10 (List.length r31.1)), (84, .tuple ⟨[accV 10 (List.length r31.1), iv r31.2]⟩), (85, .func (.func 47) ⟨[]⟩ ⟨[]⟩), (86, pt 2 0), (87, ag [iv r1.1.1.1, iv r1.1.1.2]), (88, ag [iv r25.1, iv r25.2]), (89, .func (.func 47) ⟨[]⟩ ⟨[]⟩), (90, pt 2 2), (91, ag [iv r1.1.2.1, iv r1.1.2.2]), (92, ag [iv r27.1, iv r27.2]), (93, ag [iv r25.1, iv r25.2, iv r27.1, iv r27.2]), (94, .func (.func 47) ⟨[]⟩ ⟨[]⟩), (95, ag [iv r1.2.1, iv r1.2.2]), (96, ag [iv r29.1, iv r29.2]), (97, .tuple ⟨[accV 10 (List.length r31.1), iv r31.2]⟩), (98, accV 10 (List.length r31.1)), (99, iv r31.2)]) (H10_24 r1 r3 r5 r9 r15 r23 r31) [(12, 10, 11)] [])) 4 (by kernel_rfl) (by kernel_rfl) ?_
        refine QJ.done (by kernel_rfl) ⟨rfl, ?_⟩
        refine SJ.last (by kernel_rfl)
      refine TS.seqP (by kernel_rfl) ?_
      have hX := of_do hF
      clear hF
      obtain ⟨r33, h34, hF⟩ := hX
      have hX := of_do hF
      clear hF
      obtain ⟨r35, h36, hF⟩ := hX
      have hT : ∀ e ∈ ([⟨43, [iv (w64 (0 - r1.2.1)), iv (w64 (0 - r1.2.2))], (H10_24 r1 r3 r5 r9 r15 r23 r31), ag [iv r33.1, iv r33.2], []⟩, ⟨30, [ag [iv r1.1.1.1, iv r1.1.1.2, iv r1.1.2.1, iv r1.1.2.2], ag [iv r33.1, iv r33.2]], (H10_24 r1 r3 r5 r9 r15 r23 r31), .tuple ⟨[accV 11 (List.length r35.1), iv r35.2]⟩, [accB 27 (List.length r35.1) (List.flatMap e27 r35.1)]⟩] : List Entry), PureSim Try.prog e.g e.args e.h e.v e.new := by
        intro e he
        simp only [List.mem_cons, List.not_mem_nil, or_false] at he
        rcases he with rfl | rfl
        · exact PureSim.anyK (C43 _ _ _ h34) (by kernel_rfl)
        · exact (PureSim.ren (hc := []) (fun i => List.getD [] i (0, 0)) (C30 _ _ _ _ _ _ _ h36) (.nil _) (.cons (.flat (by kernel_rfl)) (.cons (.flat (by kernel_rfl)) .nil)) (Rn.tuple' (.cons (Rn.acc (i' := 11) (Nat.le_of_ble_eq_true rfl) rfl) (.cons (.flat (by kernel_rfl)) .nil))) (newflat_cons (accB_flat (fun _ => rfl)) newflat_nil))
      refine TS.drawP [⟨43, [iv (w64 (0 - r1.2.1)), iv (w64 (0 - r1.2.2))], (H10_24 r1 r3 r5 r9 r15 r23 r31), ag [iv r33.1, iv r33.2], []⟩, ⟨30, [ag [iv r1.1.1.1, iv r1.1.1.2, iv r1.1.2.1, iv r1.1.2.2], ag [iv r33.1, iv r33.2]], (H10_24 r1 r3 r5 r9 r15 r23 r31), .tuple ⟨[accV 11 (List.length r35.1), iv r35.2]⟩, [accB 27 (List.length r35.1) (List.flatMap e27 r35.1)]⟩] hT mixed (by kernel_rfl) 13 (by kernel_rfl) [5, 6, 7, 8, 10, 11, 12, 14, 15, 16, 17, 18, 19, 20] [2, 3, 4, 6, 7, 8, 9, 10, 11] (a2 := (st 233 [(5, pt 2 0), (6, pt 3 0), (7, accV 4 (List.length r3.1)), (8, iv r15.2), (10, pt 6 0), (11, iv r23.2), (12, .func (.func 46) ⟨[]⟩ ⟨[]⟩), (14, pt 7 0), (15, accV 8 (List.length r15.1)), (16, accV 9 (List.length r23.1)), (17, accV 10 (List.length r31.1)), (18, iv r31.2), (19, accV 11 (List.length r35.1)), (20, iv r35.2)])) (h2 := (H10_20 r1 r3 r5 r9 r15 r23 r31 r35)) ?_ ?_
      · refine QJ.run (s1 := (qs (st 233 [(5, pt 2 0), (6, pt 3 0), (7, accV 4 (List.length r3.1)), (8, iv r15.2), (10, pt 6 0), (11, iv r23.2), (12, .func (.func 46) ⟨[]⟩ ⟨[]⟩), (14, pt 7 0), (15, accV 8 (List.length r15.1)), (16, accV 9 (List.length r23.1)), (17, accV 10 (List.length r31.1)), (18, iv r31.2), (101, ag [iv r1.1.1.1, iv r1.1.1.2, iv r1.1.2.1, iv r1.1.2.2]), (102, pt 3 0), (103, iv r1.2.1), (104, iv (w64 (0 - r1.2.1))), (105, pt 3 1), (106, iv r1.2.2), (107, iv (w64 (0 - r1.2.2)))]) (H10_24 r1 r3 r5 r9 r15 r23 r31) [] [])) 7 (by kernel_rfl) (by kernel_rfl) ?_
        refine QJ.op (q := { val := ag [iv r33.1, iv r33.2], new := [] }) (by decide) (qOf_call (g := 43) (args := [iv (w64 (0 - r1.2.1)), iv (w64 (0 - r1.2.2))]) (by kernel_rfl) lookC_hit) ?_
        refine QJ.op (q := { val := .tuple ⟨[accV 11 (List.length r35.1), iv r35.2]⟩, new := [accB 27 (List.length r35.1) (List.flatMap e27 r35.1)] }) (by decide) (qOf_call (g := 30) (args := [ag [iv r1.1.1.1, iv r1.1.1.2, iv r1.1.2.1, iv r1.1.2.2], ag [iv r33.1, iv r33.2]]) (by kernel_rfl) (lookC_skip (fun hg => absurd (show (43 : Nat) = 30 from hg) (by decide)) lookC_hit)) ?_
        refine QJ.run (s1 := (qs (st 233 [(5, pt 2 0), (6, pt 3 0), (7, accV 4 (List.length r3.1)), (8, iv r15.2), (10, pt 6 0), (11, iv r23.2), (12, .func (.func 46) ⟨[]⟩ ⟨[]⟩), (14, pt 7 0), (15, accV 8 (List.length r15.1)), (16, accV 9 (List.length r23.1)), (17, accV 10 (List.length r31.1)), (18, iv r31.2), (19, accV 11 (List.length r35.1)), (100, .tuple ⟨[accV 11 (List.length r35.1), iv r35.2]⟩), (101, ag [iv r1.1.1.1, iv r1.1.1.2, iv r1.1.2.1, iv r1.1.2.2]), (102, pt 3 0), (103, iv r1.2.1), (104, iv (w64 (0 - r1.2.1))), (105, pt 3 1), (106, iv r1.2.2), (107, iv (w64 (0 - r1.2.2))), (108, ag [iv r33.1, iv r33.2]), (109, .tuple ⟨[accV 11 (List.length r35.1), iv r35.2]⟩), (110, accV 11 (List.length r35.1)), (111, iv r35.2)]) (H10_20 r1 r3 r5 r9 r15 r23 r31 r35) [(8, 11, 12)] [])) 4 (by kernel_rfl) (by kernel_rfl) ?_
        refine QJ.done (by kernel_rfl) ⟨rfl, ?_⟩
        refine SJ.last (by kernel_rfl)
      refine TS.seqP (by kernel_rfl) ?_
      have hX := of_do hF
      clear hF
      obtain ⟨r37, h38, hF⟩ := hX
      have hX := of_do hF
      clear hF
      obtain ⟨r39, h40, hF⟩ := hX
      have hX := of_do hF
      clear hF
      obtain ⟨r41, h42, hF⟩ := hX
      have hX := of_do hF
      clear hF
      obtain ⟨r43, h44, hF⟩ := hX
      have hT : ∀ e ∈ ([⟨46, [ag [iv r1.1.1.1, iv r1.1.1.2]], (H10_20 r1 r3 r5 r9 r15 r23 r31 r35), ag [iv r37.1, iv r37.2], []⟩, ⟨46, [ag [iv r1.1.2.1, iv r1.1.2.2]], (H10_20 r1 r3 r5 r9 r15 r23 r31 r35), ag [iv r39.1, iv r39.2], []⟩, ⟨46, [ag [iv r1.2.1, iv r1.2.2]], (H10_20 r1 r3 r5 r9 r15 r23 r31 r35), ag [iv r41.1, iv r41.2], []⟩, ⟨28, [ag [iv r37.1, iv r37.2, iv r39.1, iv r39.2], ag [iv r41.1, iv r41.2]], (H10_20 r1 r3 r5 r9 r15 r23 r31 r35), .tuple ⟨[ag [iv r43.1.1, iv r43.1.2], ag [iv r43.2.1.1, iv r43.2.1.2], iv r43.2.2]⟩, []⟩] : List Entry), PureSim Try.prog e.g e.args e.h e.v e.new := by
        intro e he
        simp only [List.mem_cons, List.not_mem_nil, or_false] at he
        rcases he with rfl | rfl | rfl | rfl
        · exact PureSim.anyK (C46 _ _ _ h38) (by kernel_rfl)
        · exact PureSim.anyK (C46 _ _ _ h40) (by kernel_rfl)
        · exact PureSim.anyK (C46 _ _ _ h42) (by kernel_rfl)
        · exact PureSim.anyK (C28 _ _ _ _ _ _ _ h44) (by kernel_rfl)
      refine TS.draw' (id := 13) (b := true) (ops := c10.s2.s2.s2.s2.s2.s2.s2.s2.s2.s2.s2.s2.s1.rops) (fin := (qs (S10_4 r3 r15 r23 r31 r35 r43 r1 r37 r39 r41) (H10_16 r1 r3 r5 r9 r15 r23 r31 r35 r43) [(18, 13, 14), (17, 12, 13)] [(20, 13), (19, 12)])) (fin2 := (qs (S10_4 r3 r15 r23 r31 r35 r43 r1 r37 r39 r41) (H10_16 r1 r3 r5 r9 r15 r23 r31 r35 r43) [(18, 13, 14), (17, 12, 13)] [(20, 13), (19, 12)])) (a1 := (S10_2 r3 r15 r23 r31 r35 r43 r1 r37 r39 r41)) (h1 := (H10_16 r1 r3 r5 r9 r15 r23 r31 r35 r43)) (a2 := (st 233 [(7, accV 4 (List.length r3.1)), (8, iv r15.2), (10, pt 6 0), (11, iv r23.2), (12, .func (.func 46) ⟨[]⟩ ⟨[]⟩), (14, pt 7 0), (15, accV 8 (List.length r15.1)), (16, accV 9 (List.length r23.1)), (17, accV 10 (List.length r31.1)), (18, iv r31.2), (19, accV 11 (List.length r35.1)), (20, iv r35.2), (22, pt 13 0), (23, iv r43.2.2)])) (h2 := (H10_23 r3 r5 r9 r15 r23 r31 r35 r43)) [⟨46, [ag [iv r1.1.1.1, iv r1.1.1.2]], (H10_20 r1 r3 r5 r9 r15 r23 r31 r35), ag [iv r37.1, iv r37.2], []⟩, ⟨46, [ag [iv r1.1.2.1, iv r1.1.2.2]], (H10_20 r1 r3 r5 r9 r15 r23 r31 r35), ag [iv r39.1, iv r39.2], []⟩, ⟨46, [ag [iv r1.2.1, iv r1.2.2]], (H10_20 r1 r3 r5 r9 r15 r23 r31 r35), ag [iv r41.1, iv r41.2], []⟩, ⟨28, [ag [iv r37.1, iv r37.2, iv r39.1, iv r39.2], ag [iv r41.1, iv r41.2]], (H10_20 r1 r3 r5 r9 r15 r23 r31 r35), .tuple ⟨[ag [iv r43.1.1, iv r43.1.2], ag [iv r43.2.1.1, iv r43.2.1.2], iv r43.2.2]⟩, []⟩] hT mixed (by kernel_rfl) rfl 21 (by kernel_rfl) [(20, 13), (19, 12)] ?_ rfl (.inr ⟨?_, (by kernel_rfl)⟩) ?_ [7, 8, 10, 11, 12, 14, 15, 16, 17, 18, 19, 20, 22, 23] [4, 6, 7, 8, 9, 10, 11, 13] (by kernel_rfl) ?_
      · refine QI.run (s1 := (qs (S10_21 r3 r15 r23 r31 r35 r1) (H10_20 r1 r3 r5 r9 r15 r23 r31 r35) [] [])) 3 (by kernel_rfl) (by kernel_rfl) ?_
        refine QI.op (q := { val := ag [iv r37.1, iv r37.2], new := [] }) (s1 := (qs (S10_19 r3 r15 r23 r31 r35 r1 r37) (H10_20 r1 r3 r5 r9 r15 r23 r31 r35) [] [])) (by decide) (qOf_call (g := 46) (args := [ag [iv r1.1.1.1, iv r1.1.1.2]]) (by kernel_rfl) lookC_hit) (by kernel_rfl) ?_
        refine QI.run (s1 := (qs (S10_15 r3 r15 r23 r31 r35 r1 r37) (H10_20 r1 r3 r5 r9 r15 r23 r31 r35) [] [])) 3 (by kernel_rfl) (by kernel_rfl) ?_
        refine QI.op (q := { val := ag [iv r39.1, iv r39.2], new := [] }) (s1 := (qs (S10_13 r3 r15 r23 r31 r35 r1 r37 r39) (H10_20 r1 r3 r5 r9 r15 r23 r31 r35) [] [])) (by decide) (qOf_call (g := 46) (args := [ag [iv r1.1.2.1, iv r1.1.2.2]]) (by kernel_rfl) (lookC_skip (by intro _ ha _; have hr := Option.some.inj (h38.symm.trans (Eq.trans (congr (congrArg F46 (show r1.1.1.1 = r1.1.2.1 from congrArg (leafI 0) ha)) (show r1.1.1.2 = r1.1.2.2 from congrArg (leafI 1) ha)) h40)); first | (subst hr; rfl) | (cases hr; done) | (cases hr; rfl)) lookC_hit)) (by kernel_rfl) ?_
        refine QI.run (s1 := (qs (S10_10 r3 r15 r23 r31 r35 r1 r37 r39) (H10_20 r1 r3 r5 r9 r15 r23 r31 r35) [] [])) 3 (by kernel_rfl) (by kernel_rfl) ?_
        refine QI.op (q := { val := ag [iv r41.1, iv r41.2], new := [] }) (s1 := (qs (S10_9 r3 r15 r23 r31 r35 r1 r37 r39 r41) (H10_20 r1 r3 r5 r9 r15 r23 r31 r35) [] [])) (by decide) (qOf_call (g := 46) (args := [ag [iv r1.2.1, iv r1.2.2]]) (by kernel_rfl) (lookC_skip (by intro _ ha _; have hr := Option.some.inj (h38.symm.trans (Eq.trans (congr (congrArg F46 (show r1.1.1.1 = r1.2.1 from congrArg (leafI 0) ha)) (show r1.1.1.2 = r1.2.2 from congrArg (leafI 1) ha)) h42)); first | (subst hr; rfl) | (cases hr; done) | (cases hr; rfl)) (lookC_skip (by intro _ ha _; have hr := Option.some.inj (h40.symm.trans (Eq.trans (congr (congrArg F46 (show r1.1.2.1 = r1.2.1 from congrArg (leafI 0) ha)) (show r1.1.2.2 = r1.2.2 from congrArg (leafI 1) ha)) h42)); first | (subst hr; rfl) | (cases hr; done) | (cases hr; rfl)) lookC_hit))) (by kernel_rfl) ?_
        refine QI.op (q := { val := .tuple ⟨[ag [iv r43.1.1, iv r43.1.2], ag [iv r43.2.1.1, iv r43.2.1.2], iv r43.2.2]⟩, new := [] }) (s1 := (qs (S10_7 r3 r15 r23 r31 r35 r1 r37 r39 r41 r43) (H10_20 r1 r3 r5 r9 r15 r23 r31 r35) [] [])) (by decide) (qOf_call (g := 28) (args := [ag [iv r37.1, iv r37.2, iv r39.1, iv r39.2], ag [iv r41.1, iv r41.2]]) (by kernel_rfl) (lookC_skip (fun hg => absurd (show (46 : Nat) = 28 from hg) (by decide)) (lookC_skip (fun hg => absurd (show (46 : Nat) = 28 from hg) (by decide)) (lookC_skip (fun hg => absurd (show (46 : Nat) = 28 from hg) (by decide)) lookC_hit)))) (by kernel_rfl) ?_
        refine QI.run (s1 := (qs (S10_4 r3 r15 r23 r31 r35 r43 r1 r37 r39 r41) (H10_16 r1 r3 r5 r9 r15 r23 r31 r35 r43) [(18, 13, 14), (17, 12, 13)] [(20, 13), (19, 12)])) 8 (by kernel_rfl) (by kernel_rfl) ?_
        exact QI.done (by kernel_rfl)
      · refine QI.run (s1 := (qs (S10_21 r3 r15 r23 r31 r35 r1) (H10_20 r1 r3 r5 r9 r15 r23 r31 r35) [] [])) 3 (by kernel_rfl) (by kernel_rfl) ?_
        refine QI.op (q := { val := ag [iv r37.1, iv r37.2], new := [] }) (s1 := (qs (S10_19 r3 r15 r23 r31 r35 r1 r37) (H10_20 r1 r3 r5 r9 r15 r23 r31 r35) [] [])) (by decide) (qOf_call (g := 46) (args := [ag [iv r1.1.1.1, iv r1.1.1.2]]) (by kernel_rfl) lookC_hit) (by kernel_rfl) ?_
        refine QI.run (s1 := (qs (S10_15 r3 r15 r23 r31 r35 r1 r37) (H10_20 r1 r3 r5 r9 r15 r23 r31 r35) [] [])) 3 (by kernel_rfl) (by kernel_rfl) ?_
        refine QI.op (q := { val := ag [iv r39.1, iv r39.2], new := [] }) (s1 := (qs (S10_13 r3 r15 r23 r31 r35 r1 r37 r39) (H10_20 r1 r3 r5 r9 r15 r23 r31 r35) [] [])) (by decide) (qOf_call (g := 46) (args := [ag [iv r1.1.2.1, iv r1.1.2.2]]) (by kernel_rfl) (lookC_skip (by intro _ ha _; have hr := Option.some.inj (h38.symm.trans (Eq.trans (congr (congrArg F46 (show r1.1.1.1 = r1.1.2.1 from congrArg (leafI 0) ha)) (show r1.1.1.2 = r1.1.2.2 from congrArg (leafI 1) ha)) h40)); first | (subst hr; rfl) | (cases hr; done) | (cases hr; rfl)) lookC_hit)) (by kernel_rfl) ?_
        refine QI.run (s1 := (qs (S10_10 r3 r15 r23 r31 r35 r1 r37 r39) (H10_20 r1 r3 r5 r9 r15 r23 r31 r35) [] [])) 3 (by kernel_rfl) (by kernel_rfl) ?_
        refine QI.op (q := { val := ag [iv r41.1, iv r41.2], new := [] }) (s1 := (qs (S10_9 r3 r15 r23 r31 r35 r1 r37 r39 r41) (H10_20 r1 r3 r5 r9 r15 r23 r31 r35) [] [])) (by decide) (qOf_call (g := 46) (args := [ag [iv r1.2.1, iv r1.2.2]]) (by kernel_rfl) (lookC_skip (by intro _ ha _; have hr := Option.some.inj (h38.symm.trans (Eq.trans (congr (congrArg F46 (show r1.1.1.1 = r1.2.1 from congrArg (leafI 0) ha)) (show r1.1.1.2 = r1.2.2 from congrArg (leafI 1) ha)) h42)); first | (subst hr; rfl) | (cases hr; done) | (cases hr; rfl)) (lookC_skip (by intro _ ha _; have hr := Option.some.inj (h40.symm.trans (Eq.trans (congr (congrArg F46 (show r1.1.2.1 = r1.2.1 from congrArg (leafI 0) ha)) (show r1.1.2.2 = r1.2.2 from congrArg (leafI 1) ha)) h42)); first | (subst hr; rfl) | (cases hr; done) | (cases hr; rfl)) lookC_hit))) (by kernel_rfl) ?_
        refine QI.op (q := { val := .tuple ⟨[ag [iv r43.1.1, iv r43.1.2], ag [iv r43.2.1.1, iv r43.2.1.2], iv r43.2.2]⟩, new := [] }) (s1 := (qs (S10_7 r3 r15 r23 r31 r35 r1 r37 r39 r41 r43) (H10_20 r1 r3 r5 r9 r15 r23 r31 r35) [] [])) (by decide) (qOf_call (g := 28) (args := [ag [iv r37.1, iv r37.2, iv r39.1, iv r39.2], ag [iv r41.1, iv r41.2]]) (by kernel_rfl) (lookC_skip (fun hg => absurd (show (46 : Nat) = 28 from hg) (by decide)) (lookC_skip (fun hg => absurd (show (46 : Nat) = 28 from hg) (by decide)) (lookC_skip (fun hg => absurd (show (46 : Nat) = 28 from hg) (by decide)) lookC_hit)))) (by kernel_rfl) ?_
        refine QI.run (s1 := (qs (S10_4 r3 r15 r23 r31 r35 r43 r1 r37 r39 r41) (H10_16 r1 r3 r5 r9 r15 r23 r31 r35 r43) [(18, 13, 14), (17, 12, 13)] [(20, 13), (19, 12)])) 8 (by kernel_rfl) (by kernel_rfl) ?_
        exact QI.done (by kernel_rfl)
      · refine SI.run (a2 := (S10_2 r3 r15 r23 r31 r35 r43 r1 r37 r39 r41)) (h2 := (H10_16 r1 r3 r5 r9 r15 r23 r31 r35 r43)) 1 (by kernel_rfl) ?_
        exact SI.done (by kernel_rfl)
      refine TS.seqP (by kernel_rfl) ?_
      refine TS.seqP (by kernel_rfl) ?_
      have hX := of_do hF
      clear hF
      obtain ⟨m58, hm117, hF⟩ := hX
      have hK : NX Try.prog 0 0 [.sq c10.s2.s2.s2.s2.s2.s2.s2.s2.s2.s2.s2.s2.s2.s1.s2, .sq c10.s2.s2.s2.s2.s2.s2.s2.s2.s2.s2.s2.s2.s2.s2] (FinP Try.prog Try.f10 0 (V10 0 r) (N10 0 r)) .normal (st 233 [(7, accV 4 (List.length r3.1)), (14, pt 7 0), (15, accV 8 (List.length r15.1)), (19, accV 11 (List.length r35.1)), (179, .bool m58)]) (H10_29 r3 r9 r15 r35) := by
        refine NX.sq ?_
        cases m58 with
        | true =>
          replace hF := of_pos hF rfl
          refine TS.condTP (o := (.tmp 179)) (by kernel_rfl) (by kernel_rfl) ?_
          refine TS.seqP (by kernel_rfl) ?_
          refine TS.regionP (by kernel_rfl) ?_
          refine TI.run 1 [4] [] (a2 := (st 233 [(4, .bool false)])) (h2 := [.dead, .dead, .dead, .dead, .dead, .dead, .dead, .dead, .dead, .dead, .dead, .dead, .dead, .dead]) (by kernel_rfl) ?_
          refine TI.done (by kernel_rfl) ?_
          refine NX.sq ?_
          refine TS.ret' (by kernel_rfl) ?_
          refine NX.sqR ?_
          have hF := Option.some.inj hF
          subst hF
          exact ⟨.inr rfl, rfl, .bool false, by kernel_rfl, WkV.flat0 (by kernel_rfl) (Nat.le_of_ble_eq_true rfl)⟩
        | false =>
          replace hF := of_neg hF rfl
          refine TS.condFP (o := (.tmp 179)) (by kernel_rfl) (by kernel_rfl) ?_
          refine TS.skip' (by kernel_rfl) ?_
          refine NX.sq ?_
          refine TS.seqP (by kernel_rfl) ?_
          refine TS.seqP (by kernel_rfl) ?_
          refine TS.regionP (by kernel_rfl) ?_
          refine TI.runA 3 [7, 14, 15, 19, 181, 182] (a2 := (st 233 [(7, accV 4 (List.length r3.1)), (14, pt 7 0), (15, accV 8 (List.length r15.1)), (19, accV 11 (List.length r35.1)), (181, iv (List.length r3.1 : Int)), (182, iv 0)])) (by kernel_rfl) ?_
          refine TI.done (by kernel_rfl) ?_
          refine NX.sq ?_
          refine TS.blockP (id := 0) (by kernel_rfl) ?_
          have hX := of_do hF
          clear hF
          obtain ⟨r111, h112, hF⟩ := hX
          refine TS.loopP (by kernel_rfl) (TL.weak (a2 := (st 233 [(7, accV 0 (List.length r3.1)), (14, pt 1 0), (15, accV 2 (List.length r15.1)), (19, accV 3 (List.length r35.1)), (181, iv (List.length r3.1 : Int)), (182, iv 0)])) (h2 := (H10_33 r3 r9 r15 r35)) (Wk.anew (base := 0) (L := 0) (f := [4, 7, 8, 11]) (by decide) (by decide) (Nat.le_of_ble_eq_true rfl) rfl (.cons (At.acc (by kernel_rfl) rfl (fun _ => rfl)) (.cons (At.blk (by kernel_rfl) (RnB.lit (.cons (.flat (by kernel_rfl)) (.cons (.flat (by kernel_rfl)) .nil)))) (.cons (At.acc (by kernel_rfl) rfl (fun _ => rfl)) (.cons (At.acc (by kernel_rfl) rfl (fun _ => rfl)) (.nil _))))) (LRn.stx [7, 14, 15, 19, 181, 182] [accV 0 (List.length r3.1), pt 1 0, accV 2 (List.length r15.1), accV 3 (List.length r35.1), iv (List.length r3.1 : Int), iv 0] [accV 4 (List.length r3.1), pt 7 0, accV 8 (List.length r15.1), accV 11 (List.length r35.1), iv (List.length r3.1 : Int), iv 0] (.cons (Rn.acc (Nat.le_of_ble_eq_true rfl) rfl) (.cons (Rn.ptr _ _ _ (Nat.le_of_ble_eq_true rfl) rfl) (.cons (Rn.acc (Nat.le_of_ble_eq_true rfl) rfl) (.cons (Rn.acc (Nat.le_of_ble_eq_true rfl) rfl) (.cons (.flat (by kernel_rfl)) (.cons (.flat (by kernel_rfl)) .nil)))))) (by kernel_rfl) (by kernel_rfl) rfl) rfl rfl) (TL.post (L10l0 r3 r9 r15 r35 0 r111 h112) ?_))
          rintro e a1 h1 hp
          rcases r111 with o113 | o114
          · skip
            obtain ⟨rfl, hw⟩ := hp
            refine ⟨(st 233 [(4, .bool false)]), [], ?_, hw⟩
            refine NX.bkR ?_
            refine NX.sqR ?_
            have hF := Option.some.inj hF
            subst hF
            exact ⟨.inr rfl, rfl, .bool false, by kernel_rfl, WkV.flat0 (by kernel_rfl) (Nat.le_of_ble_eq_true rfl)⟩
          · skip
            obtain ⟨rfl, hw⟩ := hp
            refine ⟨(st 233 []), [], ?_, hw⟩
            refine NX.bkX ?_
            refine NX.sq ?_
            refine TS.seqP (by kernel_rfl) ?_
            have hX := of_do hF
            clear hF
            obtain ⟨r115, h116, hF⟩ := hX
            refine TS.regionP (by kernel_rfl) ?_
            refine TI.callF (C22 _ h116) (by kernel_rfl) (by kernel_rfl) ?_
            refine TI.runA 1 [4] (a2 := (st 233 [(4, .bool r115)])) (by kernel_rfl) ?_
            refine TI.done (by kernel_rfl) ?_
            refine NX.sq ?_
            refine TS.ret' (by kernel_rfl) ?_
            have hF := Option.some.inj hF
            subst hF
            exact ⟨.inr rfl, rfl, .bool r115, by kernel_rfl, WkV.flat0 (by kernel_rfl) (Nat.le_of_ble_eq_true rfl)⟩
      rcases Bool.eq_false_or_eq_true (r15.2 != 0) with hc45 | hc45
      · replace hm117 := of_pos hm117 hc45
        have hm117 := Option.some.inj hm117
        subst hm117
        refine TS.drawP [] (fun e he => by cases he) mixed (by kernel_rfl) 49 (by kernel_rfl) [7, 14, 15, 19, 179] [4, 7, 8, 11] (a2 := (S10_34 r3 r15 r35)) (h2 := (H10_29 r3 r9 r15 r35)) ?_ ?_
        · refine QJ.run (s1 := (qs (S10_26 r3 r15 r23 r31 r35 r43) (H10_23 r3 r5 r9 r15 r23 r31 r35 r43) [] [])) 1 (by kernel_rfl) (by kernel_rfl) ?_
          refine QJ.op (q := { val := .bool true }) (by decide) (q_conv (e := r15.2 != 0) (b := true) (by kernel_rfl) hc45) ?_
          refine QJ.run (s1 := (qs (st 233 [(7, accV 4 (List.length r3.1)), (8, iv r15.2), (10, pt 6 0), (11, iv r23.2), (12, .func (.func 46) ⟨[]⟩ ⟨[]⟩), (14, pt 7 0), (15, accV 8 (List.length r15.1)), (16, accV 9 (List.length r23.1)), (17, accV 10 (List.length r31.1)), (18, iv r31.2), (19, accV 11 (List.length r35.1)), (20, iv r35.2), (22, pt 13 0), (23, iv r43.2.2), (129, iv r15.2), (130, .bool true), (131, .bool true), (132, undef), (133, undef), (134, .bool true), (135, .bool true), (136, undef), (137, undef), (138, .bool true), (139, .bool true), (140, undef), (141, undef), (142, .bool true), (143, .bool true), (144, undef), (145, undef), (146, .bool true), (147, .bool true), (148, undef), (149, undef), (150, undef), (151, undef), (152, undef), (153, .bool true), (154, .bool true), (155, undef), (156, undef), (157, undef), (158, undef), (159, undef), (160, .bool true), (161, .bool true), (162, undef), (163, undef), (164, undef), (165, undef), (166, .bool true), (167, .bool true), (168, undef), (169, undef), (170, undef), (171, undef), (172, .bool true), (173, .bool true), (174, undef), (175, undef), (176, undef), (177, undef)]) (H10_23 r3 r5 r9 r15 r23 r31 r35 r43) [] [])) 47 (by kernel_rfl) (by kernel_rfl) ?_
          refine QJ.done (by kernel_rfl) ⟨rfl, ?_⟩
          refine SJ.last (by kernel_rfl)
        exact hK
      · replace hm117 := of_neg hm117 hc45
        rcases Bool.eq_false_or_eq_true (r23.2 != 0) with hc46 | hc46
        · replace hm117 := of_pos hm117 hc46
          have hm117 := Option.some.inj hm117
          subst hm117
          refine TS.drawP [] (fun e he => by cases he) mixed (by kernel_rfl) 49 (by kernel_rfl) [7, 14, 15, 19, 179] [4, 7, 8, 11] (a2 := (S10_34 r3 r15 r35)) (h2 := (H10_29 r3 r9 r15 r35)) ?_ ?_
          · refine QJ.run (s1 := (qs (S10_26 r3 r15 r23 r31 r35 r43) (H10_23 r3 r5 r9 r15 r23 r31 r35 r43) [] [])) 1 (by kernel_rfl) (by kernel_rfl) ?_
            refine QJ.op (q := { val := .bool false }) (by decide) (q_conv (e := r15.2 != 0) (b := false) (by kernel_rfl) hc45) ?_
            refine QJ.run (s1 := (qs (S10_22 r3 r15 r23 r31 r35 r43) (H10_23 r3 r5 r9 r15 r23 r31 r35 r43) [] [])) 2 (by kernel_rfl) (by kernel_rfl) ?_
            refine QJ.op (q := { val := .bool true }) (by decide) (q_conv (e := r23.2 != 0) (b := true) (by kernel_rfl) hc46) ?_
            refine QJ.run (s1 := (qs (st 233 [(7, accV 4 (List.length r3.1)), (8, iv r15.2), (10, pt 6 0), (11, iv r23.2), (12, .func (.func 46) ⟨[]⟩ ⟨[]⟩), (14, pt 7 0), (15, accV 8 (List.length r15.1)), (16, accV 9 (List.length r23.1)), (17, accV 10 (List.length r31.1)), (18, iv r31.2), (19, accV 11 (List.length r35.1)), (20, iv r35.2), (22, pt 13 0), (23, iv r43.2.2), (129, iv r15.2), (130, .bool false), (131, .bool false), (132, iv r23.2), (133, .bool true), (134, .bool true), (135, .bool true), (136, undef), (137, undef), (138, .bool true), (139, .bool true), (140, undef), (141, undef), (142, .bool true), (143, .bool true), (144, undef), (145, undef), (146, .bool true), (147, .bool true), (148, undef), (149, undef), (150, undef), (151, undef), (152, undef), (153, .bool true), (154, .bool true), (155, undef), (156, undef), (157, undef), (158, undef), (159, undef), (160, .bool true), (161, .bool true), (162, undef), (163, undef), (164, undef), (165, undef), (166, .bool true), (167, .bool true), (168, undef), (169, undef), (170, undef), (171, undef), (172, .bool true), (173, .bool true), (174, undef), (175, undef), (176, undef), (177, undef)]) (H10_23 r3 r5 r9 r15 r23 r31 r35 r43) [] [])) 44 (by kernel_rfl) (by kernel_rfl) ?_
            refine QJ.done (by kernel_rfl) ⟨rfl, ?_⟩
            refine SJ.last (by kernel_rfl)
          exact hK
        · replace hm117 := of_neg hm117 hc46
          rcases Bool.eq_false_or_eq_true (r31.2 != 0) with hc47 | hc47
          · replace hm117 := of_pos hm117 hc47
            have hm117 := Option.some.inj hm117
            subst hm117
            refine TS.drawP [] (fun e he => by cases he) mixed (by kernel_rfl) 49 (by kernel_rfl) [7, 14, 15, 19, 179] [4, 7, 8, 11] (a2 := (S10_34 r3 r15 r35)) (h2 := (H10_29 r3 r9 r15 r35)) ?_ ?_
            · refine QJ.run (s1 := (qs (S10_26 r3 r15 r23 r31 r35 r43) (H10_23 r3 r5 r9 r15 r23 r31 r35 r43) [] [])) 1 (by kernel_rfl) (by kernel_rfl) ?_
              refine QJ.op (q := { val := .bool false }) (by decide) (q_conv (e := r15.2 != 0) (b := false) (by kernel_rfl) hc45) ?_
              refine QJ.run (s1 := (qs (S10_22 r3 r15 r23 r31 r35 r43) (H10_23 r3 r5 r9 r15 r23 r31 r35 r43) [] [])) 2 (by kernel_rfl) (by kernel_rfl) ?_
              refine QJ.op (q := { val := .bool false }) (by decide) (q_conv (e := r23.2 != 0) (b := false) (by kernel_rfl) hc46) ?_
              refine QJ.run (s1 := (qs (S10_18 r3 r15 r23 r31 r35 r43) (H10_23 r3 r5 r9 r15 r23 r31 r35 r43) [] [])) 3 (by kernel_rfl) (by kernel_rfl) ?_
              refine QJ.op (q := { val := .bool true }) (by decide) (q_conv (e := r31.2 != 0) (b := true) (by kernel_rfl) hc47) ?_
              refine QJ.run (s1 := (qs (st 233 [(7, accV 4 (List.length r3.1)), (8, iv r15.2), (10, pt 6 0), (11, iv r23.2), (12, .func (.func 46) ⟨[]⟩ ⟨[]⟩), (14, pt 7 0), (15, accV 8 (List.length r15.1)), (16, accV 9 (List.length r23.1)), (17, accV 10 (List.length r31.1)), (18, iv r31.2), (19, accV 11 (List.length r35.1)), (20, iv r35.2), (22, pt 13 0), (23, iv r43.2.2), (129, iv r15.2), (130, .bool false), (131, .bool false), (132, iv r23.2), (133, .bool false), (134, .bool false), (135, .bool false), (136, iv r31.2), (137, .bool true), (138, .bool true), (139, .bool true), (140, undef), (141, undef), (142, .bool true), (143, .bool true), (144, undef), (145, undef), (146, .bool true), (147, .bool true), (148, undef), (149, undef), (150, undef), (151, undef), (152, undef), (153, .bool true), (154, .bool true), (155, undef), (156, undef), (157, undef), (158, undef), (159, undef), (160, .bool true), (161, .bool true), (162, undef), (163, undef), (164, undef), (165, undef), (166, .bool true), (167, .bool true), (168, undef), (169, undef), (170, undef), (171, undef), (172, .bool true), (173, .bool true), (174, undef), (175, undef), (176, undef), (177, undef)]) (H10_23 r3 r5 r9 r15 r23 r31 r35 r43) [] [])) 40 (by kernel_rfl) (by kernel_rfl) ?_
              refine QJ.done (by kernel_rfl) ⟨rfl, ?_⟩
              refine SJ.last (by kernel_rfl)
            exact hK
          · replace hm117 := of_neg hm117 hc47
            rcases Bool.eq_false_or_eq_true (r35.2 != 0) with hc48 | hc48
            · replace hm117 := of_pos hm117 hc48
              have hm117 := Option.some.inj hm117
              subst hm117
              refine TS.drawP [] (fun e he => by cases he) mixed (by kernel_rfl) 49 (by kernel_rfl) [7, 14, 15, 19, 179] [4, 7, 8, 11] (a2 := (S10_34 r3 r15 r35)) (h2 := (H10_29 r3 r9 r15 r35)) ?_ ?_
              · refine QJ.run (s1 := (qs (S10_26 r3 r15 r23 r31 r35 r43) (H10_23 r3 r5 r9 r15 r23 r31 r35 r43) [] [])) 1 (by kernel_rfl) (by kernel_rfl) ?_
                refine QJ.op (q := { val := .bool false }) (by decide) (q_conv (e := r15.2 != 0) (b := false) (by kernel_rfl) hc45) ?_
                refine QJ.run (s1 := (qs (S10_22 r3 r15 r23 r31 r35 r43) (H10_23 r3 r5 r9 r15 r23 r31 r35 r43) [] [])) 2 (by kernel_rfl) (by kernel_rfl) ?_
                refine QJ.op (q := { val := .bool false }) (by decide) (q_conv (e := r23.2 != 0) (b := false) (by kernel_rfl) hc46) ?_
                refine QJ.run (s1 := (qs (S10_18 r3 r15 r23 r31 r35 r43) (H10_23 r3 r5 r9 r15 r23 r31 r35 r43) [] [])) 3 (by kernel_rfl) (by kernel_rfl) ?_
                refine QJ.op (q := { val := .bool false }) (by decide) (q_conv (e := r31.2 != 0) (b := false) (by kernel_rfl) hc47) ?_
                refine QJ.run (s1 := (qs (S10_14 r3 r15 r23 r31 r35 r43) (H10_23 r3 r5 r9 r15 r23 r31 r35 r43) [] [])) 3 (by kernel_rfl) (by kernel_rfl) ?_
                refine QJ.op (q := { val := .bool true }) (by decide) (q_conv (e := r35.2 != 0) (b := true) (by kernel_rfl) hc48) ?_
                refine QJ.run (s1 := (qs (st 233 [(7, accV 4 (List.length r3.1)), (8, iv r15.2), (10, pt 6 0), (11, iv r23.2), (12, .func (.func 46) ⟨[]⟩ ⟨[]⟩), (14, pt 7 0), (15, accV 8 (List.length r15.1)), (16, accV 9 (List.length r23.1)), (17, accV 10 (List.length r31.1)), (18, iv r31.2), (19, accV 11 (List.length r35.1)), (20, iv r35.2), (22, pt 13 0), (23, iv r43.2.2), (129, iv r15.2), (130, .bool false), (131, .bool false), (132, iv r23.2), (133, .bool false), (134, .bool false), (135, .bool false), (136, iv r31.2), (137, .bool false), (138, .bool false), (139, .bool false), (140, iv r35.2), (141, .bool true), (142, .bool true), (143, .bool true), (144, undef), (145, undef), (146, .bool true), (147, .bool true), (148, undef), (149, undef), (150, undef), (151, undef), (152, undef), (153, .bool true), (154, .bool true), (155, undef), (156, undef), (157, undef), (158, undef), (159, undef), (160, .bool true), (161, .bool true), (162, undef), (163, undef), (164, undef), (165, undef), (166, .bool true), (167, .bool true), (168, undef), (169, undef), (170, undef), (171, undef), (172, .bool true), (173, .bool true), (174, undef), (175, undef), (176, undef), (177, undef)]) (H10_23 r3 r5 r9 r15 r23 r31 r35 r43) [] [])) 36 (by kernel_rfl) (by kernel_rfl) ?_
                refine QJ.done (by kernel_rfl) ⟨rfl, ?_⟩
                refine SJ.last (by kernel_rfl)
              exact hK
            · replace hm117 := of_neg hm117 hc48
              rcases Bool.eq_false_or_eq_true (r43.2.2 != 0) with hc49 | hc49
              · replace hm117 := of_pos hm117 hc49
                have hm117 := Option.some.inj hm117
                subst hm117
                refine TS.drawP [] (fun e he => by cases he) mixed (by kernel_rfl) 49 (by kernel_rfl) [7, 14, 15, 19, 179] [4, 7, 8, 11] (a2 := (S10_34 r3 r15 r35)) (h2 := (H10_29 r3 r9 r15 r35)) ?_ ?_
                · refine QJ.run (s1 := (qs (S10_26 r3 r15 r23 r31 r35 r43) (H10_23 r3 r5 r9 r15 r23 r31 r35 r43) [] [])) 1 (by kernel_rfl) (by kernel_rfl) ?_
                  refine QJ.op (q := { val := .bool false }) (by decide) (q_conv (e := r15.2 != 0) (b := false) (by kernel_rfl) hc45) ?_
                  refine QJ.run (s1 := (qs (S10_22 r3 r15 r23 r31 r35 r43) (H10_23 r3 r5 r9 r15 r23 r31 r35 r43) [] [])) 2 (by kernel_rfl) (by kernel_rfl) ?_
                  refine QJ.op (q := { val := .bool false }) (by decide) (q_conv (e := r23.2 != 0) (b := false) (by kernel_rfl) hc46) ?_
                  refine QJ.run (s1 := (qs (S10_18 r3 r15 r23 r31 r35 r43) (H10_23 r3 r5 r9 r15 r23 r31 r35 r43) [] [])) 3 (by kernel_rfl) (by kernel_rfl) ?_
                  refine QJ.op (q := { val := .bool false }) (by decide) (q_conv (e := r31.2 != 0) (b := false) (by kernel_rfl) hc47) ?_
                  refine QJ.run (s1 := (qs (S10_14 r3 r15 r23 r31 r35 r43) (H10_23 r3 r5 r9 r15 r23 r31 r35 r43) [] [])) 3 (by kernel_rfl) (by kernel_rfl) ?_
                  refine QJ.op (q := { val := .bool false }) (by decide) (q_conv (e := r35.2 != 0) (b := false) (by kernel_rfl) hc48) ?_
                  refine QJ.run (s1 := (qs (S10_11 r3 r15 r23 r31 r35 r43) (H10_23 r3 r5 r9 r15 r23 r31 r35 r43) [] [])) 3 (by kernel_rfl) (by kernel_rfl) ?_
                  refine QJ.op (q := { val := .bool true }) (by decide) (q_conv (e := r43.2.2 != 0) (b := true) (by kernel_rfl) hc49) ?_
                  refine QJ.run (s1 := (qs (st 233 [(7, accV 4 (List.length r3.1)), (8, iv r15.2), (10, pt 6 0), (11, iv r23.2), (12, .func (.func 46) ⟨[]⟩ ⟨[]⟩), (14, pt 7 0), (15, accV 8 (List.length r15.1)), (16, accV 9 (List.length r23.1)), (17, accV 10 (List.length r31.1)), (18, iv r31.2), (19, accV 11 (List.length r35.1)), (20, iv r35.2), (22, pt 13 0), (23, iv r43.2.2), (129, iv r15.2), (130, .bool false), (131, .bool false), (132, iv r23.2), (133, .bool false), (134, .bool false), (135, .bool false), (136, iv r31.2), (137, .bool false), (138, .bool false), (139, .bool false), (140, iv r35.2), (141, .bool false), (142, .bool false), (143, .bool false), (144, iv r43.2.2), (145, .bool true), (146, .bool true), (147, .bool true), (148, undef), (149, undef), (150, undef), (151, undef), (152, undef), (153, .bool true), (154, .bool true), (155, undef), (156, undef), (157, undef), (158, undef), (159, undef), (160, .bool true), (161, .bool true), (162, undef), (163, undef), (164, undef), (165, undef), (166, .bool true), (167, .bool true), (168, undef), (169, undef), (170, undef), (171, undef), (172, .bool true), (173, .bool true), (174, undef), (175, undef), (176, undef), (177, undef)]) (H10_23 r3 r5 r9 r15 r23 r31 r35 r43) [] [])) 32 (by kernel_rfl) (by kernel_rfl) ?_
                  refine QJ.done (by kernel_rfl) ⟨rfl, ?_⟩
                  refine SJ.last (by kernel_rfl)
                exact hK
              · replace hm117 := of_neg hm117 hc49
                rcases Bool.eq_false_or_eq_true ((List.length r15.1 : Int) != (List.length r3.1 : Int)) with hc50 | hc50
                · replace hm117 := of_pos hm117 hc50
                  have hm117 := Option.some.inj hm117
                  subst hm117
                  refine TS.drawP [] (fun e he => by cases he) mixed (by kernel_rfl) 49 (by kernel_rfl) [7, 14, 15, 19, 179] [4, 7, 8, 11] (a2 := (S10_34 r3 r15 r35)) (h2 := (H10_29 r3 r9 r15 r35)) ?_ ?_
                  · refine QJ.run (s1 := (qs (S10_26 r3 r15 r23 r31 r35 r43) (H10_23 r3 r5 r9 r15 r23 r31 r35 r43) [] [])) 1 (by kernel_rfl) (by kernel_rfl) ?_
                    refine QJ.op (q := { val := .bool false }) (by decide) (q_conv (e := r15.2 != 0) (b := false) (by kernel_rfl) hc45) ?_
                    refine QJ.run (s1 := (qs (S10_22 r3 r15 r23 r31 r35 r43) (H10_23 r3 r5 r9 r15 r23 r31 r35 r43) [] [])) 2 (by kernel_rfl) (by kernel_rfl) ?_
                    refine QJ.op (q := { val := .bool false }) (by decide) (q_conv (e := r23.2 != 0) (b := false) (by kernel_rfl) hc46) ?_
                    refine QJ.run (s1 := (qs (S10_18 r3 r15 r23 r31 r35 r43) (H10_23 r3 r5 r9 r15 r23 r31 r35 r43) [] [])) 3 (by kernel_rfl) (by kernel_rfl) ?_
                    refine QJ.op (q := { val := .bool false }) (by decide) (q_conv (e := r31.2 != 0) (b := false) (by kernel_rfl) hc47) ?_
                    refine QJ.run (s1 := (qs (S10_14 r3 r15 r23 r31 r35 r43) (H10_23 r3 r5 r9 r15 r23 r31 r35 r43) [] [])) 3 (by kernel_rfl) (by kernel_rfl) ?_
                    refine QJ.op (q := { val := .bool false }) (by decide) (q_conv (e := r35.2 != 0) (b := false) (by kernel_rfl) hc48) ?_
                    refine QJ.run (s1 := (qs (S10_11 r3 r15 r23 r31 r35 r43) (H10_23 r3 r5 r9 r15 r23 r31 r35 r43) [] [])) 3 (by kernel_rfl) (by kernel_rfl) ?_
                    refine QJ.op (q := { val := .bool false }) (by decide) (q_conv (e := r43.2.2 != 0) (b := false) (by kernel_rfl) hc49) ?_
                    refine QJ.run (s1 := (qs (S10_5 r3 r15 r23 r31 r35 r43) (H10_23 r3 r5 r9 r15 r23 r31 r35 r43) [] [])) 6 (by kernel_rfl) (by kernel_rfl) ?_
                    refine QJ.op (q := { val := .bool true }) (by decide) (q_conv (e := (List.length r15.1 : Int) != (List.length r3.1 : Int)) (b := true) (by kernel_rfl) hc50) ?_
                    refine QJ.run (s1 := (qs (st 233 [(7, accV 4 (List.length r3.1)), (8, iv r15.2), (10, pt 6 0), (11, iv r23.2), (12, .func (.func 46) ⟨[]⟩ ⟨[]⟩), (14, pt 7 0), (15, accV 8 (List.length r15.1)), (16, accV 9 (List.length r23.1)), (17, accV 10 (List.length r31.1)), (18, iv r31.2), (19, accV 11 (List.length r35.1)), (20, iv r35.2), (22, pt 13 0), (23, iv r43.2.2), (129, iv r15.2), (130, .bool false), (131, .bool false), (132, iv r23.2), (133, .bool false), (134, .bool false), (135, .bool false), (136, iv r31.2), (137, .bool false), (138, .bool false), (139, .bool false), (140, iv r35.2), (141, .bool false), (142, .bool false), (143, .bool false), (144, iv r43.2.2), (145, .bool false), (146, .bool false), (147, .bool false), (148, accV 8 (List.length r15.1)), (149, iv (List.length r15.1 : Int)), (150, accV 4 (List.length r3.1)), (151, iv (List.length r3.1 : Int)), (152, .bool true), (153, .bool true), (154, .bool true), (155, undef), (156, undef), (157, undef), (158, undef), (159, undef), (160, .bool true), (161, .bool true), (162, undef), (163, undef), (164, undef), (165, undef), (166, .bool true), (167, .bool true), (168, undef), (169, undef), (170, undef), (171, undef), (172, .bool true), (173, .bool true), (174, undef), (175, undef), (176, undef), (177, undef)]) (H10_23 r3 r5 r9 r15 r23 r31 r35 r43) [] [])) 25 (by kernel_rfl) (by kernel_rfl) ?_
                    refine QJ.done (by kernel_rfl) ⟨rfl, ?_⟩
                    refine SJ.last (by kernel_rfl)
                  exact hK
                · replace hm117 := of_neg hm117 hc50
                  rcases Bool.eq_false_or_eq_true ((List.length r35.1 : Int) != (List.length r3.1 : Int)) with hc51 | hc51
                  · replace hm117 := of_pos hm117 hc51
                    have hm117 := Option.some.inj hm117
                    subst hm117
                    refine TS.drawP [] (fun e he => by cases he) mixed (by kernel_rfl) 49 (by kernel_rfl) [7, 14, 15, 19, 179] [4, 7, 8, 11] (a2 := (S10_34 r3 r15 r35)) (h2 := (H10_29 r3 r9 r15 r35)) ?_ ?_
                    · refine QJ.run (s1 := (qs (S10_26 r3 r15 r23 r31 r35 r43) (H10_23 r3 r5 r9 r15 r23 r31 r35 r43) [] [])) 1 (by kernel_rfl) (by kernel_rfl) ?_
                      refine QJ.op (q := { val := .bool false }) (by decide) (q_conv (e := r15.2 != 0) (b := false) (by kernel_rfl) hc45) ?_
                      refine QJ.run (s1 := (qs (S10_22 r3 r15 r23 r31 r35 r43) (H10_23 r3 r5 r9 r15 r23 r31 r35 r43) [] [])) 2 (by kernel_rfl) (by kernel_rfl) ?_
                      refine QJ.op (q := { val := .bool false }) (by decide) (q_conv (e := r23.2 != 0) (b := false) (by kernel_rfl) hc46) ?_
                      refine QJ.run (s1 := (qs (S10_18 r3 r15 r23 r31 r35 r43) (H10_23 r3 r5 r9 r15 r23 r31 r35 r43) [] [])) 3 (by kernel_rfl) (by kernel_rfl) ?_
                      refine QJ.op (q := { val := .bool false }) (by decide) (q_conv (e := r31.2 != 0) (b := false) (by kernel_rfl) hc47) ?_
                      refine QJ.run (s1 := (qs (S10_14 r3 r15 r23 r31 r35 r43) (H10_23 r3 r5 r9 r15 r23 r31 r35 r43) [] [])) 3 (by kernel_rfl) (by kernel_rfl) ?_
                      refine QJ.op (q := { val := .bool false }) (by decide) (q_conv (e := r35.2 != 0) (b := false) (by kernel_rfl) hc48) ?_
                      refine QJ.run (s1 := (qs (S10_11 r3 r15 r23 r31 r35 r43) (H10_23 r3 r5 r9 r15 r23 r31 r35 r43) [] [])) 3 (by kernel_rfl) (by kernel_rfl) ?_
                      refine QJ.op (q := { val := .bool false }) (by decide) (q_conv (e := r43.2.2 != 0) (b := false) (by kernel_rfl) hc49) ?_
                      refine QJ.run (s1 := (qs (S10_5 r3 r15 r23 r31 r35 r43) (H10_23 r3 r5 r9 r15 r23 r31 r35 r43) [] [])) 6 (by kernel_rfl) (by kernel_rfl) ?_
                      refine QJ.op (q := { val := .bool false }) (by decide) (q_conv (e := (List.length r15.1 : Int) != (List.length r3.1 : Int)) (b := false) (by kernel_rfl) hc50) ?_
                      refine QJ.run (s1 := (qs (S10_3 r3 r15 r23 r31 r35 r43) (H10_23 r3 r5 r9 r15 r23 r31 r35 r43) [] [])) 6 (by kernel_rfl) (by kernel_rfl) ?_
                      refine QJ.op (q := { val := .bool true }) (by decide) (q_conv (e := (List.length r35.1 : Int) != (List.length r3.1 : Int)) (b := true) (by kernel_rfl) hc51) ?_
                      refine QJ.run (s1 := (qs (st 233 [(7, accV 4 (List.length r3.1)), (8, iv r15.2), (10, pt 6 0), (11, iv r23.2), (12, .func (.func 46) ⟨[]⟩ ⟨[]⟩), (14, pt 7 0), (15, accV 8 (List.length r15.1)), (16, accV 9 (List.length r23.1)), (17, accV 10 (List.length r31.1)), (18, iv r31.2), (19, accV 11 (List.length r35.1)), (20, iv r35.2), (22, pt 13 0), (23, iv r43.2.2), (129, iv r15.2), (130, .bool false), (131, .bool false), (132, iv r23.2), (133, .bool false), (134, .bool false), (135, .bool false), (136, iv r31.2), (137, .bool false), (138, .bool false), (139, .bool false), (140, iv r35.2), (141, .bool false), (142, .bool false), (143, .bool false), (144, iv r43.2.2), (145, .bool false), (146, .bool false), (147, .bool false), (148, accV 8 (List.length r15.1)), (149, iv (List.length r15.1 : Int)), (150, accV 4 (List.length r3.1)), (151, iv (List.length r3.1 : Int)), (152, .bool false), (153, .bool false), (154, .bool false), (155, accV 11 (List.length r35.1)), (156, iv (List.length r35.1 : Int)), (157, accV 4 (List.length r3.1)), (158, iv (List.length r3.1 : Int)), (159, .bool true), (160, .bool true), (161, .bool true), (162, undef), (163, undef), (164, undef), (165, undef), (166, .bool true), (167, .bool true), (168, undef), (169, undef), (170, undef), (171, undef), (172, .bool true), (173, .bool true), (174, undef), (175, undef), (176, undef), (177, undef)]) (H10_23 r3 r5 r9 r15 r23 r31 r35 r43) [] [])) 18 (by kernel_rfl) (by kernel_rfl) ?_
                      refine QJ.done (by kernel_rfl) ⟨rfl, ?_⟩
                      refine SJ.last (by kernel_rfl)
                    exact hK
                  · replace hm117 := of_neg hm117 hc51
                    have hX := of_do hm117
                    clear hm117
                    obtain ⟨r52, h53, hm117⟩ := hX
                    cases r52 with
                    | true =>
                      replace hm117 := of_pos hm117 rfl
                      have hX := of_do hm117
                      clear hm117
                      obtain ⟨r54, h55, hm117⟩ := hX
                      cases r54 with
                      | true =>
                        replace hm117 := of_pos hm117 rfl
                        have hX := of_do hm117
                        clear hm117
                        obtain ⟨r56, h57, hm117⟩ := hX
                        have hm117 := Option.some.inj hm117
                        subst hm117
                        have hT : ∀ e ∈ ([⟨48, [accV 9 (List.length r23.1), accV 4 (List.length r3.1)], (H10_23 r3 r5 r9 r15 r23 r31 r35 r43), .bool true, []⟩, ⟨48, [accV 10 (List.length r31.1), accV 4 (List.length r3.1)], (H10_23 r3 r5 r9 r15 r23 r31 r35 r43), .bool true, []⟩, ⟨46, [ag [iv r5.2.1.1, iv r5.2.1.2]], (H10_23 r3 r5 r9 r15 r23 r31 r35 r43), ag [iv r56.1, iv r56.2], []⟩] : List Entry), PureSim Try.prog e.g e.args e.h e.v e.new := by
                          intro e he
                          simp only [List.mem_cons, List.not_mem_nil, or_false] at he
                          rcases he with rfl | rfl | rfl
                          · exact (PureSim.ren (hc := (H10_35 r23 r3)) (fun i => List.getD [(9, 0), (4, 0)] i (0, 0)) (C48 _ _ _ h53) (.cons (At.acc (by kernel_rfl) rfl (fun _ => rfl)) (.cons (At.acc (by kernel_rfl) rfl (fun _ => rfl)) (.nil _))) (.cons (Rn.accA (i' := 9) (Nat.le_of_ble_eq_true rfl) rfl) (.cons (Rn.accA (i' := 4) (Nat.le_of_ble_eq_true rfl) rfl) .nil)) (.flat (by kernel_rfl)) newflat_nil)
                          · exact (PureSim.ren (hc := [accB 27 (List.length r31.1) (List.flatMap e27 r31.1), accB 27 (List.length r3.1) (List.flatMap e27 r3.1)]) (fun i => List.getD [(10, 0), (4, 0)] i (0, 0)) (C48 _ _ _ h55) (.cons (At.acc (by kernel_rfl) rfl (fun _ => rfl)) (.cons (At.acc (by kernel_rfl) rfl (fun _ => rfl)) (.nil _))) (.cons (Rn.accA (i' := 10) (Nat.le_of_ble_eq_true rfl) rfl) (.cons (Rn.accA (i' := 4) (Nat.le_of_ble_eq_true rfl) rfl) .nil)) (.flat (by kernel_rfl)) newflat_nil)
                          · exact PureSim.anyK (C46 _ _ _ h57) (by kernel_rfl)
                        refine TS.drawP [⟨48, [accV 9 (List.length r23.1), accV 4 (List.length r3.1)], (H10_23 r3 r5 r9 r15 r23 r31 r35 r43), .bool true, []⟩, ⟨48, [accV 10 (List.length r31.1), accV 4 (List.length r3.1)], (H10_23 r3 r5 r9 r15 r23 r31 r35 r43), .bool true, []⟩, ⟨46, [ag [iv r5.2.1.1, iv r5.2.1.2]], (H10_23 r3 r5 r9 r15 r23 r31 r35 r43), ag [iv r56.1, iv r56.2], []⟩] hT mixed (by kernel_rfl) 49 (by kernel_rfl) [7, 14, 15, 19, 179] [4, 7, 8, 11] (a2 := (st 233 [(7, accV 4 (List.length r3.1)), (14, pt 7 0), (15, accV 8 (List.length r15.1)), (19, accV 11 (List.length r35.1)), (179, .bool (!((r43.2.1.1 == r56.1) && ((r43.2.1.2 == r56.2) && true))))])) (h2 := (H10_29 r3 r9 r15 r35)) ?_ ?_
                        · refine QJ.run (s1 := (qs (S10_26 r3 r15 r23 r31 r35 r43) (H10_23 r3 r5 r9 r15 r23 r31 r35 r43) [] [])) 1 (by kernel_rfl) (by kernel_rfl) ?_
                          refine QJ.op (q := { val := .bool false }) (by decide) (q_conv (e := r15.2 != 0) (b := false) (by kernel_rfl) hc45) ?_
                          refine QJ.run (s1 := (qs (S10_22 r3 r15 r23 r31 r35 r43) (H10_23 r3 r5 r9 r15 r23 r31 r35 r43) [] [])) 2 (by kernel_rfl) (by kernel_rfl) ?_
                          refine QJ.op (q := { val := .bool false }) (by decide) (q_conv (e := r23.2 != 0) (b := false) (by kernel_rfl) hc46) ?_
                          refine QJ.run (s1 := (qs (S10_18 r3 r15 r23 r31 r35 r43) (H10_23 r3 r5 r9 r15 r23 r31 r35 r43) [] [])) 3 (by kernel_rfl) (by kernel_rfl) ?_
                          refine QJ.op (q := { val := .bool false }) (by decide) (q_conv (e := r31.2 != 0) (b := false) (by kernel_rfl) hc47) ?_
                          refine QJ.run (s1 := (qs (S10_14 r3 r15 r23 r31 r35 r43) (H10_23 r3 r5 r9 r15 r23 r31 r35 r43) [] [])) 3 (by kernel_rfl) (by kernel_rfl) ?_
                          refine QJ.op (q := { val := .bool false }) (by decide) (q_conv (e := r35.2 != 0) (b := false) (by kernel_rfl) hc48) ?_
                          refine QJ.run (s1 := (qs (S10_11 r3 r15 r23 r31 r35 r43) (H10_23 r3 r5 r9 r15 r23 r31 r35 r43) [] [])) 3 (by kernel_rfl) (by kernel_rfl) ?_
                          refine QJ.op (q := { val := .bool false }) (by decide) (q_conv (e := r43.2.2 != 0) (b := false) (by kernel_rfl) hc49) ?_
                          refine QJ.run (s1 := (qs (S10_5 r3 r15 r23 r31 r35 r43) (H10_23 r3 r5 r9 r15 r23 r31 r35 r43) [] [])) 6 (by kernel_rfl) (by kernel_rfl) ?_
                          refine QJ.op (q := { val := .bool false }) (by decide) (q_conv (e := (List.length r15.1 : Int) != (List.length r3.1 : Int)) (b := false) (by kernel_rfl) hc50) ?_
                          refine QJ.run (s1 := (qs (S10_3 r3 r15 r23 r31 r35 r43) (H10_23 r3 r5 r9 r15 r23 r31 r35 r43) [] [])) 6 (by kernel_rfl) (by kernel_rfl) ?_
                          refine QJ.op (q := { val := .bool false }) (by decide) (q_conv (e := (List.length r35.1 : Int) != (List.length r3.1 : Int)) (b := false) (by kernel_rfl) hc51) ?_
                          refine QJ.run (s1 := (qs (S10_1 r3 r15 r23 r31 r35 r43) (H10_23 r3 r5 r9 r15 r23 r31 r35 r43) [] [])) 4 (by kernel_rfl) (by kernel_rfl) ?_
                          refine QJ.op (q := { val := .bool true, new := [] }) (by decide) (qOf_call (g := 48) (args := [accV 9 (List.length r23.1), accV 4 (List.length r3.1)]) (by kernel_rfl) lookC_hit) ?_
                          refine QJ.run (s1 := (qs (S10_0 r3 r15 r23 r31 r35 r43) (H10_23 r3 r5 r9 r15 r23 r31 r35 r43) [] [])) 5 (by kernel_rfl) (by kernel_rfl) ?_
                          refine QJ.op (q := { val := .bool true, new := [] }) (by decide) (qOf_call (g := 48) (args := [accV 10 (List.length r31.1), accV 4 (List.length r3.1)]) (by kernel_rfl) (lookC_skip (by intro _ ha _; have hr := Option.some.inj (h53.symm.trans (Eq.trans (congr (congrArg F48 (acc_ne (by decide) (show accV 9 (List.length r23.1) = accV 10 (List.length r31.1) from congrArg (argV 0) ha))) (Eq.refl r3.1)) h55)); first | (subst hr; rfl) | (cases hr; done) | (cases hr; rfl)) lookC_hit)) ?_
                          refine QJ.run (s1 := (qs (st 233 [(7, accV 4 (List.length r3.1)), (8, iv r15.2), (10, pt 6 0), (11, iv r23.2), (12, .func (.func 46) ⟨[]⟩ ⟨[]⟩), (14, pt 7 0), (15, accV 8 (List.length r15.1)), (16, accV 9 (List.length r23.1)), (17, accV 10 (List.length r31.1)), (18, iv r31.2), (19, accV 11 (List.length r35.1)), (20, iv r35.2), (22, pt 13 0), (23, iv r43.2.2), (129, iv r15.2), (130, .bool false), (131, .bool false), (132, iv r23.2), (133, .bool false), (134, .bool false), (135, .bool false), (136, iv r31.2), (137, .bool false), (138, .bool false), (139, .bool false), (140, iv r35.2), (141, .bool false), (142, .bool false), (143, .bool false), (144, iv r43.2.2), (145, .bool false), (146, .bool false), (147, .bool false), (148, accV 8 (List.length r15.1)), (149, iv (List.length r15.1 : Int)), (150, accV 4 (List.length r3.1)), (151, iv (List.length r3.1 : Int)), (152, .bool false), (153, .bool false), (154, .bool false), (155, accV 11 (List.length r35.1)), (156, iv (List.length r35.1 : Int)), (157, accV 4 (List.length r3.1)), (158, iv (List.length r3.1 : Int)), (159, .bool false), (160, .bool false), (161, .bool false), (162, accV 9 (List.length r23.1)), (163, accV 4 (List.length r3.1)), (164, .bool true), (165, .bool false), (166, .bool false), (167, .bool false), (168, accV 10 (List.length r31.1)), (169, accV 4 (List.length r3.1)), (170, .bool true), (171, .bool false), (172, .bool false), (173, .bool false), (174, ag [iv r43.2.1.1, iv r43.2.1.2]), (175, .func (.func 46) ⟨[]⟩ ⟨[]⟩), (176, ag [iv r5.2.1.1, iv r5.2.1.2])]) (H10_23 r3 r5 r9 r15 r23 r31 r35 r43) [] [])) 6 (by kernel_rfl) (by kernel_rfl) ?_
                          refine QJ.op (q := { val := ag [iv r56.1, iv r56.2], new := [] }) (by decide) (qOf_call (g := 46) (args := [ag [iv r5.2.1.1, iv r5.2.1.2]]) (by kernel_rfl) (lookC_skip (fun hg => absurd (show (48 : Nat) = 46 from hg) (by decide)) (lookC_skip (fun hg => absurd (show (48 : Nat) = 46 from hg) (by decide)) lookC_hit))) ?_
                          refine QJ.done (by kernel_rfl) ⟨rfl, ?_⟩
                          refine SJ.last (by kernel_rfl)
                        exact hK
                      | false =>
                        replace hm117 := of_neg hm117 rfl
                        have hm117 := Option.some.inj hm117
                        subst hm117
                        have hT : ∀ e ∈ ([⟨48, [accV 9 (List.length r23.1), accV 4 (List.length r3.1)], (H10_23 r3 r5 r9 r15 r23 r31 r35 r43), .bool true, []⟩, ⟨48, [accV 10 (List.length r31.1), accV 4 (List.length r3.1)], (H10_23 r3 r5 r9 r15 r23 r31 r35 r43), .bool false, []⟩] : List Entry), PureSim Try.prog e.g e.args e.h e.v e.new := by
                          intro e he
                          simp only [List.mem_cons, List.not_mem_nil, or_false] at he
                          rcases he with rfl | rfl
                          · exact (PureSim.ren (hc := (H10_35 r23 r3)) (fun i => List.getD [(9, 0), (4, 0)] i (0, 0)) (C48 _ _ _ h53) (.cons (At.acc (by kernel_rfl) rfl (fun _ => rfl)) (.cons (At.acc (by kernel_rfl) rfl (fun _ => rfl)) (.nil _))) (.cons (Rn.accA (i' := 9) (Nat.le_of_ble_eq_true rfl) rfl) (.cons (Rn.accA (i' := 4) (Nat.le_of_ble_eq_true rfl) rfl) .nil)) (.flat (by kernel_rfl)) newflat_nil)
                          · exact (PureSim.ren (hc := [accB 27 (List.length r31.1) (List.flatMap e27 r31.1), accB 27 (List.length r3.1) (List.flatMap e27 r3.1)]) (fun i => List.getD [(10, 0), (4, 0)] i (0, 0)) (C48 _ _ _ h55) (.cons (At.acc (by kernel_rfl) rfl (fun _ => rfl)) (.cons (At.acc (by kernel_rfl) rfl (fun _ => rfl)) (.nil _))) (.cons (Rn.accA (i' := 10) (Nat.le_of_ble_eq_true rfl) rfl) (.cons (Rn.accA (i' := 4) (Nat.le_of_ble_eq_true rfl) rfl) .nil)) (.flat (by kernel_rfl)) newflat_nil)
                        refine TS.drawP [⟨48, [accV 9 (List.length r23.1), accV 4 (List.length r3.1)], (H10_23 r3 r5 r9 r15 r23 r31 r35 r43), .bool true, []⟩, ⟨48, [accV 10 (List.length r31.1), accV 4 (List.length r3.1)], (H10_23 r3 r5 r9 r15 r23 r31 r35 r43), .bool false, []⟩] hT mixed (by kernel_rfl) 49 (by kernel_rfl) [7, 14, 15, 19, 179] [4, 7, 8, 11] (a2 := (S10_34 r3 r15 r35)) (h2 := (H10_29 r3 r9 r15 r35)) ?_ ?_
                        · refine QJ.run (s1 := (qs (S10_26 r3 r15 r23 r31 r35 r43) (H10_23 r3 r5 r9 r15 r23 r31 r35 r43) [] [])) 1 (by kernel_rfl) (by kernel_rfl) ?_
                          refine QJ.op (q := { val := .bool false }) (by decide) (q_conv (e := r15.2 != 0) (b := false) (by kernel_rfl) hc45) ?_
                          refine QJ.run (s1 := (qs (S10_22 r3 r15 r23 r31 r35 r43) (H10_23 r3 r5 r9 r15 r23 r31 r35 r43) [] [])) 2 (by kernel_rfl) (by kernel_rfl) ?_
                          refine QJ.op (q := { val := .bool false }) (by decide) (q_conv (e := r23.2 != 0) (b := false) (by kernel_rfl) hc46) ?_
                          refine QJ.run (s1 := (qs (S10_18 r3 r15 r23 r31 r35 r43) (H10_23 r3 r5 r9 r15 r23 r31 r35 r43) [] [])) 3 (by kernel_rfl) (by kernel_rfl) ?_
                          refine QJ.op (q := { val := .bool false }) (by decide) (q_conv (e := r31.2 != 0) (b := false) (by kernel_rfl) hc47) ?_
                          refine QJ.run (s1 := (qs (S10_14 r3 r15 r23 r31 r35 r43) (H10_23 r3 r5 r9 r15 r23 r31 r35 r43) [] [])) 3 (by kernel_rfl) (by kernel_rfl) ?_
                          refine QJ.op (q := { val := .bool false }) (by decide) (q_conv (e := r35.2 != 0) (b := false) (by kernel_rfl) hc48) ?_
                          refine QJ.run (s1 := (qs (S10_11 r3 r15 r23 r31 r35 r43) (H10_23 r3 r5 r9 r15 r23 r31 r35 r43) [] [])) 3 (by kernel_rfl) (by kernel_rfl) ?_
                          refine QJ.op (q := { val := .bool false }) (by decide) (q_conv (e := r43.2.2 != 0) (b := false) (by kernel_rfl) hc49) ?_
                          refine QJ.run (s1 := (qs (S10_5 r3 r15 r23 r31 r35 r43) (H10_23 r3 r5 r9 r15 r23 r31 r35 r43) [] [])) 6 (by kernel_rfl) (by kernel_rfl) ?_
                          refine QJ.op (q := { val := .bool false }) (by decide) (q_conv (e := (List.length r15.1 : Int) != (List.length r3.1 : Int)) (b := false) (by kernel_rfl) hc50) ?_
                          refine QJ.run (s1 := (qs (S10_3 r3 r15 r23 r31 r35 r43) (H10_23 r3 r5 r9 r15 r23 r31 r35 r43) [] [])) 6 (by kernel_rfl) (by kernel_rfl) ?_
                          refine QJ.op (q := { val := .bool false }) (by decide) (q_conv (e := (List.length r35.1 : Int) != (List.length r3.1 : Int)) (b := false) (by kernel_rfl) hc51) ?_
                          refine QJ.run (s1 := (qs (S10_1 r3 r15 r23 r31 r35 r43) (H10_23 r3 r5 r9 r15 r23 r31 r35 r43) [] [])) 4 (by kernel_rfl) (by kernel_rfl) ?_
                          refine QJ.op (q := { val := .bool true, new := [] }) (by decide) (qOf_call (g := 48) (args := [accV 9 (List.length r23.1), accV 4 (List.length r3.1)]) (by kernel_rfl) lookC_hit) ?_
                          refine QJ.run (s1 := (qs (S10_0 r3 r15 r23 r31 r35 r43) (H10_23 r3 r5 r9 r15 r23 r31 r35 r43) [] [])) 5 (by kernel_rfl) (by kernel_rfl) ?_
                          refine QJ.op (q := { val := .bool false, new := [] }) (by decide) (qOf_call (g := 48) (args := [accV 10 (List.length r31.1), accV 4 (List.length r3.1)]) (by kernel_rfl) (lookC_skip (by intro _ ha _; have hr := Option.some.inj (h53.symm.trans (Eq.trans (congr (congrArg F48 (acc_ne (by decide) (show accV 9 (List.length r23.1) = accV 10 (List.length r31.1) from congrArg (argV 0) ha))) (Eq.refl r3.1)) h55)); first | (subst hr; rfl) | (cases hr; done) | (cases hr; rfl)) lookC_hit)) ?_
                          refine QJ.run (s1 := (qs (st 233 [(7, accV 4 (List.length r3.1)), (8, iv r15.2), (10, pt 6 0), (11, iv r23.2), (12, .func (.func 46) ⟨[]⟩ ⟨[]⟩), (14, pt 7 0), (15, accV 8 (List.length r15.1)), (16, accV 9 (List.length r23.1)), (17, accV 10 (List.length r31.1)), (18, iv r31.2), (19, accV 11 (List.length r35.1)), (20, iv r35.2), (22, pt 13 0), (23, iv r43.2.2), (129, iv r15.2), (130, .bool false), (131, .bool false), (132, iv r23.2), (133, .bool false), (134, .bool false), (135, .bool false), (136, iv r31.2), (137, .bool false), (138, .bool false), (139, .bool false), (140, iv r35.2), (141, .bool false), (142, .bool false), (143, .bool false), (144, iv r43.2.2), (145, .bool false), (146, .bool false), (147, .bool false), (148, accV 8 (List.length r15.1)), (149, iv (List.length r15.1 : Int)), (150, accV 4 (List.length r3.1)), (151, iv (List.length r3.1 : Int)), (152, .bool false), (153, .bool false), (154, .bool false), (155, accV 11 (List.length r35.1)), (156, iv (List.length r35.1 : Int)), (157, accV 4 (List.length r3.1)), (158, iv (List.length r3.1 : Int)), (159, .bool false), (160, .bool false), (161, .bool false), (162, accV 9 (List.length r23.1)), (163, accV 4 (List.length r3.1)), (164, .bool true), (165, .bool false), (166, .bool false), (167, .bool false), (168, accV 10 (List.length r31.1)), (169, accV 4 (List.length r3.1)), (170, .bool false), (171, .bool true), (172, .bool true), (173, .bool true), (174, undef), (175, undef), (176, undef), (177, undef)]) (H10_23 r3 r5 r9 r15 r23 r31 r35 r43) [] [])) 7 (by kernel_rfl) (by kernel_rfl) ?_
                          refine QJ.done (by kernel_rfl) ⟨rfl, ?_⟩
                          refine SJ.last (by kernel_rfl)
                        exact hK
                    | false =>
                      replace hm117 := of_neg hm117 rfl
                      have hm117 := Option.some.inj hm117
                      subst hm117
                      have hT : ∀ e ∈ ([⟨48, [accV 9 (List.length r23.1), accV 4 (List.length r3.1)], (H10_23 r3 r5 r9 r15 r23 r31 r35 r43), .bool false, []⟩] : List Entry), PureSim Try.prog e.g e.args e.h e.v e.new := by
                        intro e he
                        simp only [List.mem_cons, List.not_mem_nil, or_false] at he
                        rcases he with rfl
                        · exact (PureSim.ren (hc := (H10_35 r23 r3)) (fun i => List.getD [(9, 0), (4, 0)] i (0, 0)) (C48 _ _ _ h53) (.cons (At.acc (by kernel_rfl) rfl (fun _ => rfl)) (.cons (At.acc (by kernel_rfl) rfl (fun _ => rfl)) (.nil _))) (.cons (Rn.accA (i' := 9) (Nat.le_of_ble_eq_true rfl) rfl) (.cons (Rn.accA (i' := 4) (Nat.le_of_ble_eq_true rfl) rfl) .nil)) (.flat (by kernel_rfl)) newflat_nil)
                      refine TS.drawP [⟨48, [accV 9 (List.length r23.1), accV 4 (List.length r3.1)], (H10_23 r3 r5 r9 r15 r23 r31 r35 r43), .bool false, []⟩] hT mixed (by kernel_rfl) 49 (by kernel_rfl) [7, 14, 15, 19, 179] [4, 7, 8, 11] (a2 := (S10_34 r3 r15 r35)) (h2 := (H10_29 r3 r9 r15 r35)) ?_ ?_
                      · refine QJ.run (s1 := (qs (S10_26 r3 r15 r23 r31 r35 r43) (H10_23 r3 r5 r9 r15 r23 r31 r35 r43) [] [])) 1 (by kernel_rfl) (by kernel_rfl) ?_
                        refine QJ.op (q := { val := .bool false }) (by decide) (q_conv (e := r15.2 != 0) (b := false) (by kernel_rfl) hc45) ?_
                        refine QJ.run (s1 := (qs (S10_22 r3 r15 r23 r31 r35 r43) (H10_23 r3 r5 r9 r15 r23 r31 r35 r43) [] [])) 2 (by kernel_rfl) (by kernel_rfl) ?_
                        refine QJ.op (q := { val := .bool false }) (by decide) (q_conv (e := r23.2 != 0) (b := false) (by kernel_rfl) hc46) ?_
                        refine QJ.run (s1 := (qs (S10_18 r3 r15 r23 r31 r35 r43) (H10_23 r3 r5 r9 r15 r23 r31 r35 r43) [] [])) 3 (by kernel_rfl) (by kernel_rfl) ?_
                        refine QJ.op (q := { val := .bool false }) (by decide) (q_conv (e := r31.2 != 0) (b := false) (by kernel_rfl) hc47) ?_
                        refine QJ.run (s1 := (qs (S10_14 r3 r15 r23 r31 r35 r43) (H10_23 r3 r5 r9 r15 r23 r31 r35 r43) [] [])) 3 (by kernel_rfl) (by kernel_rfl) ?_
                        refine QJ.op (q := { val := .bool false }) (by decide) (q_conv (e := r35.2 != 0) (b := false) (by kernel_rfl) hc48) ?_
                        refine QJ.run (s1 := (qs (S10_11 r3 r15 r23 r31 r35 r43) (H10_23 r3 r5 r9 r15 r23 r31 r35 r43) [] [])) 3 (by kernel_rfl) (by kernel_rfl) ?_
                        refine QJ.op (q := { val := .bool false }) (by decide) (q_conv (e := r43.2.2 != 0) (b := false) (by kernel_rfl) hc49) ?_
                        refine QJ.run (s1 := (qs (S10_5 r3 r15 r23 r31 r35 r43) (H10_23 r3 r5 r9 r15 r23 r31 r35 r43) [] [])) 6 (by kernel_rfl) (by kernel_rfl) ?_
                        refine QJ.op (q := { val := .bool false }) (by decide) (q_conv (e := (List.length r15.1 : Int) != (List.length r3.1 : Int)) (b := false) (by kernel_rfl) hc50) ?_
                        refine QJ.run (s1 := (qs (S10_3 r3 r15 r23 r31 r35 r43) (H10_23 r3 r5 r9 r15 r23 r31 r35 r43) [] [])) 6 (by kernel_rfl) (by kernel_rfl) ?_
                        refine QJ.op (q := { val := .bool false }) (by decide) (q_conv (e := (List.length r35.1 : Int) != (List.length r3.1 : Int)) (b := false) (by kernel_rfl) hc51) ?_
                        refine QJ.run (s1 := (qs (S10_1 r3 r15 r23 r31 r35 r43) (H10_23 r3 r5 r9 r15 r23 r31 r35 r43) [] [])) 4 (by kernel_rfl) (by kernel_rfl) ?_
                        refine QJ.op (q := { val := .bool false, new := [] }) (by decide) (qOf_call (g := 48) (args := [accV 9 (List.length r23.1), accV 4 (List.length r3.1)]) (by kernel_rfl) lookC_hit) ?_
                        refine QJ.run (s1 := (qs (st 233 [(7, accV 4 (List.length r3.1)), (8, iv r15.2), (10, pt 6 0), (11, iv r23.2), (12, .func (.func 46) ⟨[]⟩ ⟨[]⟩), (14, pt 7 0), (15, accV 8 (List.length r15.1)), (16, accV 9 (List.length r23.1)), (17, accV 10 (List.length r31.1)), (18, iv r31.2), (19, accV 11 (List.length r35.1)), (20, iv r35.2), (22, pt 13 0), (23, iv r43.2.2), (129, iv r15.2), (130, .bool false), (131, .bool false), (132, iv r23.2), (133, .bool false), (134, .bool false), (135, .bool false), (136, iv r31.2), (137, .bool false), (138, .bool false), (139, .bool false), (140, iv r35.2), (141, .bool false), (142, .bool false), (143, .bool false), (144, iv r43.2.2), (145, .bool false), (146, .bool false), (147, .bool false), (148, accV 8 (List.length r15.1)), (149, iv (List.length r15.1 : Int)), (150, accV 4 (List.length r3.1)), (151, iv (List.length r3.1 : Int)), (152, .bool false), (153, .bool false), (154, .bool false), (155, accV 11 (List.length r35.1)), (156, iv (List.length r35.1 : Int)), (157, accV 4 (List.length r3.1)), (158, iv (List.length r3.1 : Int)), (159, .bool false), (160, .bool false), (161, .bool false), (162, accV 9 (List.length r23.1)), (163, accV 4 (List.length r3.1)), (164, .bool false), (165, .bool true), (166, .bool true), (167, .bool true), (168, undef), (169, undef), (170, undef), (171, undef), (172, .bool true), (173, .bool true), (174, undef), (175, undef), (176, undef), (177, undef)]) (H10_23 r3 r5 r9 r15 r23 r31 r35 r43) [] [])) 13 (by kernel_rfl) (by kernel_rfl) ?_
                        refine QJ.done (by kernel_rfl) ⟨rfl, ?_⟩
                        refine SJ.last (by kernel_rfl)
                      exact hK
  rcases Bool.eq_false_or_eq_true (r3.2 != 0) with hc7 | hc7
  · replace hm118 := of_pos hm118 hc7
    have hm118 := Option.some.inj hm118
    subst hm118
    refine TS.regionP (by kernel_rfl) ?_
    refine TI.runA 1 [3, 5, 6, 7, 10, 11, 43] (a2 := (st 233 [(3, pt 1 0), (5, pt 2 0), (6, pt 3 0), (7, accV 4 (List.length r3.1)), (10, pt 6 0), (11, iv r5.2.2), (43, iv r3.2)])) (by kernel_rfl) ?_
    refine TI.op (q := { val := .bool true }) (q_conv (e := r3.2 != 0) (b := true) (by kernel_rfl) hc7) [3, 5, 6, 7, 10, 11, 44] [1, 2, 3, 4, 6] (a2 := (st 233 [(3, pt 1 0), (5, pt 2 0), (6, pt 3 0), (7, accV 4 (List.length r3.1)), (10, pt 6 0), (11, iv r5.2.2), (44, .bool true)])) (h2 := (H10_31 p6 p7 r1 r3 r5)) (by kernel_rfl) ?_
    refine TI.runA 4 [3, 5, 6, 7, 10, 48] (a2 := (st 233 [(3, pt 1 0), (5, pt 2 0), (6, pt 3 0), (7, accV 4 (List.length r3.1)), (10, pt 6 0), (48, .bool true)])) (by kernel_rfl) ?_
    refine TI.done (by kernel_rfl) ?_
    exact hK
  · replace hm118 := of_neg hm118 hc7
    have hm118 := Option.some.inj hm118
    subst hm118
    refine TS.regionP (by kernel_rfl) ?_
    refine TI.runA 1 [3, 5, 6, 7, 10, 11, 43] (a2 := (st 233 [(3, pt 1 0), (5, pt 2 0), (6, pt 3 0), (7, accV 4 (List.length r3.1)), (10, pt 6 0), (11, iv r5.2.2), (43, iv r3.2)])) (by kernel_rfl) ?_
    refine TI.op (q := { val := .bool false }) (q_conv (e := r3.2 != 0) (b := false) (by kernel_rfl) hc7) [3, 5, 6, 7, 10, 11, 44] [1, 2, 3, 4, 6] (a2 := (st 233 [(3, pt 1 0), (5, pt 2 0), (6, pt 3 0), (7, accV 4 (List.length r3.1)), (10, pt 6 0), (11, iv r5.2.2), (44, .bool false)])) (h2 := (H10_31 p6 p7 r1 r3 r5)) (by kernel_rfl) ?_
    refine TI.runA 4 [3, 5, 6, 7, 10, 48] (a2 := (st 233 [(3, pt 1 0), (5, pt 2 0), (6, pt 3 0), (7, accV 4 (List.length r3.1)), (10, pt 6 0), (48, .bool (r5.2.2 != 0))])) (by kernel_rfl) ?_
    refine TI.done (by kernel_rfl) ?_
    exact hK
theorem C10 (p0 : Int) (p1 : Int) (p2 : Int) (p3 : Int) (p4 : Int) (p5 : Int) (p6 : Int) (p7 : Int) (r : Bool) (hF : F10 p0 p1 p2 p3 p4 p5 p6 p7 = some r) : PureSim Try.prog 10 [ag [.int .i8 p0, .int .i8 p1, .int .i8 p2, .int .i8 p3, .int .i16 p4, .int .i16 p5], ag [.int .i8 p6, .int .i8 p7]] [] (V10 0 r) (N10 0 r) :=
  PureSim.of_Fin Try.func10 (c := c10) (by kernel_rfl) (by kernel_rfl) 0 rfl [0, 1] [] (by kernel_rfl) (B10 p0 p1 p2 p3 p4 p5 p6 p7 r hF)

end Go.Proofs.Ytenjelagfbceeaa
