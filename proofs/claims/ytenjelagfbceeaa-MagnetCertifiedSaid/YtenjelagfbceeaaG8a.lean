/- What functions of the program compute, and that they do. -/
import Derived.Test.YtenjelagfbceeaaGB
set_option linter.unusedVariables false
set_option linter.unusedSimpArgs false
set_option maxRecDepth 100000
set_option maxHeartbeats 4000000
namespace Go.Proofs.Ytenjelagfbceeaa
open Go Go.Cl
def e23 (x : (Int × Int)) : List Value := [.int .i64 x.1, .int .i64 x.2]
-- (agonic/magnet.Kit).reduced
noncomputable def c50 : Code := Try.f50.code
def F50 (p0 : Int) (p1 : Int) (p2 : Int) (p3 : Int) : Option Bool :=
  F72 p0 p1 p2 p3 >>= fun r1 =>
  F63 p0 p1 >>= fun r3 =>
  F63 p2 p3 >>= fun r5 =>
  (
    if decide (r3 ≤ r5) then
      F63 p0 p1 >>= fun r8 =>
      some (decide ((w64 (2 * (mx r1 (w64 (0 - r1))))) ≤ r8))
    else
      some (false)
  : Option Bool) >>= fun m10 =>
  some m10
def V50 (b : Nat) (r : Bool) : Value := .bool r
def N50 (b : Nat) (r : Bool) : List Blk := []
theorem B50 (p0 : Int) (p1 : Int) (p2 : Int) (p3 : Int) (r : Bool) (hF : F50 p0 p1 p2 p3 = some r) : TS Try.prog 0 0 c50 (st 27 [(0, ag [iv p0, iv p1, iv p2, iv p3])]) [] (NX Try.prog 0 0 [] (FinP Try.prog Try.f50 0 (V50 0 r) (N50 0 r))) := by
  unfold F50 at hF
  refine TS.seqP (by kernel_rfl) ?_
  refine TS.regionP (by kernel_rfl) ?_
  refine TI.run 2 [1] [0] (a2 := (st 27 [(1, pt 0 0)])) (h2 := [cl 25 [iv p0, iv p1, iv p2, iv p3]]) (by kernel_rfl) ?_
  refine TI.done (by kernel_rfl) ?_
  refine NX.sq ?_
  refine TS.seqP (by kernel_rfl) ?_
  have hX := of_do hF
  clear hF
  obtain ⟨r1, h2, hF⟩ := hX
  refine TS.regionP (by kernel_rfl) ?_
  refine TI.runA 4 [1, 5, 7] (a2 := (st 27 [(1, pt 0 0), (5, ag [iv p0, iv p1]), (7, ag [iv p2, iv p3])])) (by kernel_rfl) ?_
  refine TI.callF (C72 _ _ _ _ _ h2) (by kernel_rfl) (by kernel_rfl) ?_
  refine TI.runA 1 [1, 3] (a2 := (st 27 [(1, pt 0 0), (3, iv r1)])) (by kernel_rfl) ?_
  refine TI.done (by kernel_rfl) ?_
  refine NX.sq ?_
  refine TS.seqP (by kernel_rfl) ?_
  have hX := of_do hF
  clear hF
  obtain ⟨r3, h4, hF⟩ := hX
  have hX := of_do hF
  clear hF
  obtain ⟨r5, h6, hF⟩ := hX
  have hX := of_do hF
  clear hF
  obtain ⟨m10, hm11, hF⟩ := hX
  have hK : NX Try.prog 0 0 [.sq c50.s2.s2.s2] (FinP Try.prog Try.f50 0 (V50 0 r) (N50 0 r)) .normal (st 27 [(2, .bool m10)]) [.dead] := by
    refine NX.sq ?_
    refine TS.ret' (by kernel_rfl) ?_
    have hF := Option.some.inj hF
    subst hF
    exact ⟨.inr rfl, rfl, .bool m10, by kernel_rfl, WkV.flat0 (by kernel_rfl) (Nat.le_of_ble_eq_true rfl)⟩
  rcases Bool.eq_false_or_eq_true (decide (r3 ≤ r5)) with hc7 | hc7
  · replace hm11 := of_pos hm11 hc7
    have hX := of_do hm11
    clear hm11
    obtain ⟨r8, h9, hm11⟩ := hX
    have hm11 := Option.some.inj hm11
    subst hm11
    have hT : ∀ e ∈ ([⟨63, [ag [iv p0, iv p1]], [cl 25 [iv p0, iv p1, iv p2, iv p3]], iv r3, []⟩, ⟨63, [ag [iv p2, iv p3]], [cl 25 [iv p0, iv p1, iv p2, iv p3]], iv r5, []⟩, ⟨63, [ag [iv p0, iv p1]], [cl 25 [iv p0, iv p1, iv p2, iv p3]], iv r8, []⟩] : List Entry), PureSim Try.prog e.g e.args e.h e.v e.new := by
      intro e he
      simp only [List.mem_cons, List.not_mem_nil, or_false] at he
      rcases he with rfl | rfl | rfl
      · exact PureSim.anyK (C63 _ _ _ h4) (by kernel_rfl)
      · exact PureSim.anyK (C63 _ _ _ h6) (by kernel_rfl)
      · exact PureSim.anyK (C63 _ _ _ h9) (by kernel_rfl)
    refine TS.drawP [⟨63, [ag [iv p0, iv p1]], [cl 25 [iv p0, iv p1, iv p2, iv p3]], iv r3, []⟩, ⟨63, [ag [iv p2, iv p3]], [cl 25 [iv p0, iv p1, iv p2, iv p3]], iv r5, []⟩, ⟨63, [ag [iv p0, iv p1]], [cl 25 [iv p0, iv p1, iv p2, iv p3]], iv r8, []⟩] hT mixed (by kernel_rfl) 16 (by kernel_rfl) [2] [] (a2 := (st 27 [(2, .bool (decide ((w64 (2 * (mx r1 (w64 (0 - r1))))) ≤ r8)))])) (h2 := [.dead]) ?_ ?_
    · refine QJ.run (s1 := (qs (st 27 [(1, pt 0 0), (3, iv r1), (9, pt 0 0), (10, ag [iv p0, iv p1])]) [cl 25 [iv p0, iv p1, iv p2, iv p3]] [] [])) 2 (by kernel_rfl) (by kernel_rfl) ?_
      refine QJ.op (q := { val := iv r3, new := [] }) (by decide) (qOf_call (g := 63) (args := [ag [iv p0, iv p1]]) (by kernel_rfl) lookC_hit) ?_
      refine QJ.run (s1 := (qs (st 27 [(1, pt 0 0), (3, iv r1), (9, pt 0 0), (10, ag [iv p0, iv p1]), (11, iv r3), (12, pt 0 2), (13, ag [iv p2, iv p3])]) [cl 25 [iv p0, iv p1, iv p2, iv p3]] [] [])) 2 (by kernel_rfl) (by kernel_rfl) ?_
      refine QJ.op (q := { val := iv r5, new := [] }) (by decide) (qOf_call (g := 63) (args := [ag [iv p2, iv p3]]) (by kernel_rfl) (lookC_skip (by intro _ ha _; have hr := Option.some.inj (h4.symm.trans (Eq.trans (congr (congrArg F63 (show p0 = p2 from congrArg (leafI 0) ha)) (show p1 = p3 from congrArg (leafI 1) ha)) h6)); first | (subst hr; rfl) | (cases hr; done) | (cases hr; rfl)) lookC_hit)) ?_
      refine QJ.op (q := { val := .bool true }) (by decide) (q_conv (e := decide (r3 ≤ r5)) (b := true) (by kernel_rfl) hc7) ?_
      refine QJ.run (s1 := (qs (st 27 [(1, pt 0 0), (3, iv r1), (9, pt 0 0), (10, ag [iv p0, iv p1]), (11, iv r3), (12, pt 0 2), (13, ag [iv p2, iv p3]), (14, iv r5), (15, .bool true), (16, .bool true), (17, iv r1), (18, iv r1), (19, iv (w64 (0 - r1))), (20, iv (mx r1 (w64 (0 - r1)))), (21, iv (w64 (2 * (mx r1 (w64 (0 - r1)))))), (22, pt 0 0), (23, ag [iv p0, iv p1])]) [cl 25 [iv p0, iv p1, iv p2, iv p3]] [] [])) 8 (by kernel_rfl) (by kernel_rfl) ?_
      refine QJ.op (q := { val := iv r8, new := [] }) (by decide) (qOf_call (g := 63) (args := [ag [iv p0, iv p1]]) (by kernel_rfl) (lookC_skip (by intro _ ha _; have hr := Option.some.inj (h4.symm.trans (Eq.trans (congr (congrArg F63 (Eq.refl p0)) (Eq.refl p1)) h9)); first | (subst hr; rfl) | (cases hr; done) | (cases hr; rfl)) (lookC_skip (by intro _ ha _; have hr := Option.some.inj (h6.symm.trans (Eq.trans (congr (congrArg F63 (show p2 = p0 from congrArg (leafI 0) ha)) (show p3 = p1 from congrArg (leafI 1) ha)) h9)); first | (subst hr; rfl) | (cases hr; done) | (cases hr; rfl)) lookC_hit))) ?_
      refine QJ.done (by kernel_rfl) ⟨rfl, ?_⟩
      refine SJ.last (by kernel_rfl)
    exact hK
  · replace hm11 := of_neg hm11 hc7
    have hm11 := Option.some.inj hm11
    subst hm11
    have hT : ∀ e ∈ ([⟨63, [ag [iv p0, iv p1]], [cl 25 [iv p0, iv p1, iv p2, iv p3]], iv r3, []⟩, ⟨63, [ag [iv p2, iv p3]], [cl 25 [iv p0, iv p1, iv p2, iv p3]], iv r5, []⟩] : List Entry), PureSim Try.prog e.g e.args e.h e.v e.new := by
      intro e he
      simp only [List.mem_cons, List.not_mem_nil, or_false] at he
      rcases he with rfl | rfl
      · exact PureSim.anyK (C63 _ _ _ h4) (by kernel_rfl)
      · exact PureSim.anyK (C63 _ _ _ h6) (by kernel_rfl)
    refine TS.drawP [⟨63, [ag [iv p0, iv p1]], [cl 25 [iv p0, iv p1, iv p2, iv p3]], iv r3, []⟩, ⟨63, [ag [iv p2, iv p3]], [cl 25 [iv p0, iv p1, iv p2, iv p3]], iv r5, []⟩] hT mixed (by kernel_rfl) 16 (by kernel_rfl) [2] [] (a2 := (st 27 [(2, .bool false)])) (h2 := [.dead]) ?_ ?_
    · refine QJ.run (s1 := (qs (st 27 [(1, pt 0 0), (3, iv r1), (9, pt 0 0), (10, ag [iv p0, iv p1])]) [cl 25 [iv p0, iv p1, iv p2, iv p3]] [] [])) 2 (by kernel_rfl) (by kernel_rfl) ?_
      refine QJ.op (q := { val := iv r3, new := [] }) (by decide) (qOf_call (g := 63) (args := [ag [iv p0, iv p1]]) (by kernel_rfl) lookC_hit) ?_
      refine QJ.run (s1 := (qs (st 27 [(1, pt 0 0), (3, iv r1), (9, pt 0 0), (10, ag [iv p0, iv p1]), (11, iv r3), (12, pt 0 2), (13, ag [iv p2, iv p3])]) [cl 25 [iv p0, iv p1, iv p2, iv p3]] [] [])) 2 (by kernel_rfl) (by kernel_rfl) ?_
      refine QJ.op (q := { val := iv r5, new := [] }) (by decide) (qOf_call (g := 63) (args := [ag [iv p2, iv p3]]) (by kernel_rfl) (lookC_skip (by intro _ ha _; have hr := Option.some.inj (h4.symm.trans (Eq.trans (congr (congrArg F63 (show p0 = p2 from congrArg (leafI 0) ha)) (show p1 = p3 from congrArg (leafI 1) ha)) h6)); first | (subst hr; rfl) | (cases hr; done) | (cases hr; rfl)) lookC_hit)) ?_
      refine QJ.op (q := { val := .bool false }) (by decide) (q_conv (e := decide (r3 ≤ r5)) (b := false) (by kernel_rfl) hc7) ?_
      refine QJ.run (s1 := (qs (st 27 [(1, pt 0 0), (3, iv r1), (9, pt 0 0), (10, ag [iv p0, iv p1]), (11, iv r3), (12, pt 0 2), (13, ag [iv p2, iv p3]), (14, iv r5), (15, .bool false), (16, .bool false), (17, undef), (18, undef), (19, undef), (20, undef), (21, undef), (22, undef), (23, undef), (24, undef)]) [cl 25 [iv p0, iv p1, iv p2, iv p3]] [] [])) 9 (by kernel_rfl) (by kernel_rfl) ?_
      refine QJ.done (by kernel_rfl) ⟨rfl, ?_⟩
      refine SJ.last (by kernel_rfl)
    exact hK
theorem C50 (p0 : Int) (p1 : Int) (p2 : Int) (p3 : Int) (r : Bool) (hF : F50 p0 p1 p2 p3 = some r) : PureSim Try.prog 50 [ag [iv p0, iv p1, iv p2, iv p3]] [] (V50 0 r) (N50 0 r) :=
  PureSim.of_Fin Try.func50 (c := c50) (by kernel_rfl) (by kernel_rfl) 0 rfl [0] [] (by kernel_rfl) (B50 p0 p1 p2 p3 r hF)

-- (agonic/magnet.bundles).nearest
noncomputable def c67 : Code := Try.f67.code
def H67_0 (p8 : Int) (p9 : Int) (r1 : ((Int × Int) × (Int × Int) × (Int × Int) × (Int × Int) × (Int × Int) × (Int × Int))) : List Blk := [.dead, cl 23 [iv p8, iv p9], .dead, .dead, .dead, .dead, .dead, cl 23 [iv r1.2.2.2.2.2.1, iv r1.2.2.2.2.2.2]]
def H67_1 (p8 : Int) (p9 : Int) (r1 : ((Int × Int) × (Int × Int) × (Int × Int) × (Int × Int) × (Int × Int) × (Int × Int))) : List Blk := [.dead, cl 23 [iv p8, iv p9], .dead, .dead, .dead, .dead, cl 23 [iv r1.2.2.2.2.1.1, iv r1.2.2.2.2.1.2]]
def H67_2 (p8 : Int) (p9 : Int) (r1 : ((Int × Int) × (Int × Int) × (Int × Int) × (Int × Int) × (Int × Int) × (Int × Int))) : List Blk := [.dead, cl 23 [iv p8, iv p9], .dead, .dead, .dead, cl 23 [iv r1.2.2.2.1.1, iv r1.2.2.2.1.2]]
def H67_3 (p8 : Int) (p9 : Int) (r1 : ((Int × Int) × (Int × Int) × (Int × Int) × (Int × Int) × (Int × Int) × (Int × Int))) : List Blk := [.dead, cl 23 [iv p8, iv p9], .dead, .dead, cl 23 [iv r1.2.2.1.1, iv r1.2.2.1.2]]
def H67_4 (p8 : Int) (p9 : Int) (r1 : ((Int × Int) × (Int × Int) × (Int × Int) × (Int × Int) × (Int × Int) × (Int × Int))) : List Blk := [.dead, cl 23 [iv p8, iv p9], .dead, cl 23 [iv r1.2.1.1, iv r1.2.1.2]]
def F67 (p0 : Int) (p1 : Int) (p2 : Int) (p3 : Int) (p4 : Int) (p5 : Int) (p6 : Int) (p7 : Int) (p8 : Int) (p9 : Int) : Option Bool :=
  F80 p0 p1 p2 p3 p4 p5 p6 p7 >>= fun r1 =>
  F72 p8 p9 r1.1.1 r1.1.2 >>= fun r3 =>
  F63 r1.1.1 r1.1.2 >>= fun r5 =>
  if decide ((w64 (2 * r3)) > r5) then
    some false
  else
    F72 p8 p9 r1.2.1.1 r1.2.1.2 >>= fun r8 =>
    F63 r1.2.1.1 r1.2.1.2 >>= fun r10 =>
    if decide ((w64 (2 * r8)) > r10) then
      some false
    else
      F72 p8 p9 r1.2.2.1.1 r1.2.2.1.2 >>= fun r13 =>
      F63 r1.2.2.1.1 r1.2.2.1.2 >>= fun r15 =>
      if decide ((w64 (2 * r13)) > r15) then
        some false
      else
        F72 p8 p9 r1.2.2.2.1.1 r1.2.2.2.1.2 >>= fun r18 =>
        F63 r1.2.2.2.1.1 r1.2.2.2.1.2 >>= fun r20 =>
        if decide ((w64 (2 * r18)) > r20) then
          some false
        else
          F72 p8 p9 r1.2.2.2.2.1.1 r1.2.2.2.2.1.2 >>= fun r23 =>
          F63 r1.2.2.2.2.1.1 r1.2.2.2.2.1.2 >>= fun r25 =>
          if decide ((w64 (2 * r23)) > r25) then
            some false
          else
            F72 p8 p9 r1.2.2.2.2.2.1 r1.2.2.2.2.2.2 >>= fun r28 =>
            F63 r1.2.2.2.2.2.1 r1.2.2.2.2.2.2 >>= fun r30 =>
            if decide ((w64 (2 * r28)) > r30) then
              some false
            else
              some true
def V67 (b : Nat) (r : Bool) : Value := .bool r
def N67 (b : Nat) (r : Bool) : List Blk := []
theorem B67 (p0 : Int) (p1 : Int) (p2 : Int) (p3 : Int) (p4 : Int) (p5 : Int) (p6 : Int) (p7 : Int) (p8 : Int) (p9 : Int) (r : Bool) (hF : F67 p0 p1 p2 p3 p4 p5 p6 p7 p8 p9 = some r) : TS Try.prog 0 0 c67 (st 20 [(0, ag [iv p0, iv p1, iv p2, iv p3, iv p4, iv p5, iv p6, iv p7]), (1, ag [iv p8, iv p9])]) [] (NX Try.prog 0 0 [] (FinP Try.prog Try.f67 0 (V67 0 r) (N67 0 r))) := by
  unfold F67 at hF
  refine TS.seqP (by kernel_rfl) ?_
  refine TS.regionP (by kernel_rfl) ?_
  refine TI.run 3 [2, 3] [0, 1] (a2 := (st 20 [(2, pt 0 0), (3, pt 1 0)])) (h2 := [cl 108 [iv p0, iv p1, iv p2, iv p3, iv p4, iv p5, iv p6, iv p7], cl 23 [iv p8, iv p9]]) (by kernel_rfl) ?_
  refine TI.done (by kernel_rfl) ?_
  refine NX.sq ?_
  refine TS.seqP (by kernel_rfl) ?_
  refine TS.seqP (by kernel_rfl) ?_
  have hX := of_do hF
  clear hF
  obtain ⟨r1, h2, hF⟩ := hX
  refine TS.regionP (by kernel_rfl) ?_
  refine TI.run 1 [3, 7] [1] (a2 := (st 20 [(3, pt 1 0), (7, ag [iv p0, iv p1, iv p2, iv p3, iv p4, iv p5, iv p6, iv p7])])) (h2 := [.dead, cl 23 [iv p8, iv p9]]) (by kernel_rfl) ?_
  refine TI.callF (C80 _ _ _ _ _ _ _ _ _ h2) (by kernel_rfl) (by kernel_rfl) ?_
  refine TI.runA 1 [3, 8, 9] (a2 := (st 20 [(3, pt 1 0), (8, ag [iv r1.1.1, iv r1.1.2, iv r1.2.1.1, iv r1.2.1.2, iv r1.2.2.1.1, iv r1.2.2.1.2, iv r1.2.2.2.1.1, iv r1.2.2.2.1.2, iv r1.2.2.2.2.1.1, iv r1.2.2.2.2.1.2, iv r1.2.2.2.2.2.1, iv r1.2.2.2.2.2.2]), (9, iv 0)])) (by kernel_rfl) ?_
  refine TI.done (by kernel_rfl) ?_
  refine NX.sq ?_
  refine TS.blockP (id := 0) (by kernel_rfl) ?_
  refine TS.loopP (by kernel_rfl) ?_
  refine TL.round ?_
  refine TS.seqP (by kernel_rfl) ?_
  refine TS.regionP (by kernel_rfl) ?_
  refine TI.runA 1 [3, 8, 9, 10] (a2 := (st 20 [(3, pt 1 0), (8, ag [iv r1.1.1, iv r1.1.2, iv r1.2.1.1, iv r1.2.1.2, iv r1.2.2.1.1, iv r1.2.2.1.2, iv r1.2.2.2.1.1, iv r1.2.2.2.1.2, iv r1.2.2.2.2.1.1, iv r1.2.2.2.2.1.2, iv r1.2.2.2.2.2.1, iv r1.2.2.2.2.2.2]), (9, iv 0), (10, .bool true)])) (by kernel_rfl) ?_
  refine TI.done (by kernel_rfl) ?_
  refine NX.sq ?_
  refine TS.seqP (by kernel_rfl) ?_
  refine TS.condTP (o := (.tmp 10)) (by kernel_rfl) (by kernel_rfl) ?_
  refine TS.skip' (by kernel_rfl) ?_
  refine NX.sq ?_
  refine TS.seqP (by kernel_rfl) ?_
  refine TS.blockP (id := 1) (by kernel_rfl) ?_
  refine TS.seqP (by kernel_rfl) ?_
  refine TS.regionP (by kernel_rfl) ?_
  refine TI.run 3 [3, 6, 8, 9] [1, 2] (a2 := (st 20 [(3, pt 1 0), (6, pt 2 0), (8, ag [iv r1.1.1, iv r1.1.2, iv r1.2.1.1, iv r1.2.1.2, iv r1.2.2.1.1, iv r1.2.2.1.2, iv r1.2.2.2.1.1, iv r1.2.2.2.1.2, iv r1.2.2.2.2.1.1, iv r1.2.2.2.2.1.2, iv r1.2.2.2.2.2.1, iv r1.2.2.2.2.2.2]), (9, iv 0)])) (h2 := [.dead, cl 23 [iv p8, iv p9], cl 23 [iv r1.1.1, iv r1.1.2]]) (by kernel_rfl) ?_
  refine TI.done (by kernel_rfl) ?_
  refine NX.sq ?_
  refine TS.seqP (by kernel_rfl) ?_
  have hX := of_do hF
  clear hF
  obtain ⟨r3, h4, hF⟩ := hX
  have hX := of_do hF
  clear hF
  obtain ⟨r5, h6, hF⟩ := hX
  have hT : ∀ e ∈ ([⟨72, [ag [iv p8, iv p9], ag [iv r1.1.1, iv r1.1.2]], [.dead, cl 23 [iv p8, iv p9], cl 23 [iv r1.1.1, iv r1.1.2]], iv r3, []⟩, ⟨63, [ag [iv r1.1.1, iv r1.1.2]], [.dead, cl 23 [iv p8, iv p9], cl 23 [iv r1.1.1, iv r1.1.2]], iv r5, []⟩] : List Entry), PureSim Try.prog e.g e.args e.h e.v e.new := by
    intro e he
    simp only [List.mem_cons, List.not_mem_nil, or_false] at he
    rcases he with rfl | rfl
    · exact PureSim.anyK (C72 _ _ _ _ _ h4) (by kernel_rfl)
    · exact PureSim.anyK (C63 _ _ _ h6) (by kernel_rfl)
  refine TS.drawP [⟨72, [ag [iv p8, iv p9], ag [iv r1.1.1, iv r1.1.2]], [.dead, cl 23 [iv p8, iv p9], cl 23 [iv r1.1.1, iv r1.1.2]], iv r3, []⟩, ⟨63, [ag [iv r1.1.1, iv r1.1.2]], [.dead, cl 23 [iv p8, iv p9], cl 23 [iv r1.1.1, iv r1.1.2]], iv r5, []⟩] hT mixed (by kernel_rfl) 6 (by kernel_rfl) [3, 8, 9, 18] [1] (a2 := (st 20 [(3, pt 1 0), (8, ag [iv r1.1.1, iv r1.1.2, iv r1.2.1.1, iv r1.2.1.2, iv r1.2.2.1.1, iv r1.2.2.1.2, iv r1.2.2.2.1.1, iv r1.2.2.2.1.2, iv r1.2.2.2.2.1.1, iv r1.2.2.2.2.1.2, iv r1.2.2.2.2.2.1, iv r1.2.2.2.2.2.2]), (9, iv 0), (18, .bool (decide ((w64 (2 * r3)) > r5)))])) (h2 := [.dead, cl 23 [iv p8, iv p9], .dead]) ?_ ?_
  · refine QJ.run (s1 := (qs (st 20 [(3, pt 1 0), (6, pt 2 0), (8, ag [iv r1.1.1, iv r1.1.2, iv r1.2.1.1, iv r1.2.1.2, iv r1.2.2.1.1, iv r1.2.2.1.2, iv r1.2.2.2.1.1, iv r1.2.2.2.1.2, iv r1.2.2.2.2.1.1, iv r1.2.2.2.2.1.2, iv r1.2.2.2.2.2.1, iv r1.2.2.2.2.2.2]), (9, iv 0), (12, ag [iv p8, iv p9]), (13, ag [iv r1.1.1, iv r1.1.2])]) [.dead, cl 23 [iv p8, iv p9], cl 23 [iv r1.1.1, iv r1.1.2]] [] [])) 2 (by kernel_rfl) (by kernel_rfl) ?_
    refine QJ.op (q := { val := iv r3, new := [] }) (by decide) (qOf_call (g := 72) (args := [ag [iv p8, iv p9], ag [iv r1.1.1, iv r1.1.2]]) (by kernel_rfl) lookC_hit) ?_
    refine QJ.run (s1 := (qs (st 20 [(3, pt 1 0), (6, pt 2 0), (8, ag [iv r1.1.1, iv r1.1.2, iv r1.2.1.1, iv r1.2.1.2, iv r1.2.2.1.1, iv r1.2.2.1.2, iv r1.2.2.2.1.1, iv r1.2.2.2.1.2, iv r1.2.2.2.2.1.1, iv r1.2.2.2.2.1.2, iv r1.2.2.2.2.2.1, iv r1.2.2.2.2.2.2]), (9, iv 0), (12, ag [iv p8, iv p9]), (13, ag [iv r1.1.1, iv r1.1.2]), (14, iv r3), (15, iv (w64 (2 * r3))), (16, ag [iv r1.1.1, iv r1.1.2])]) [.dead, cl 23 [iv p8, iv p9], cl 23 [iv r1.1.1, iv r1.1.2]] [] [])) 2 (by kernel_rfl) (by kernel_rfl) ?_
    refine QJ.op (q := { val := iv r5, new := [] }) (by decide) (qOf_call (g := 63) (args := [ag [iv r1.1.1, iv r1.1.2]]) (by kernel_rfl) (lookC_skip (fun hg => absurd (show (72 : Nat) = 63 from hg) (by decide)) lookC_hit)) ?_
    refine QJ.done (by kernel_rfl) ⟨rfl, ?_⟩
    refine SJ.last (by kernel_rfl)
  refine TS.condP (o := (.tmp 18)) (b := decide ((w64 (2 * r3)) > r5)) (by kernel_rfl) (by kernel_rfl) (fun hc7 => ?_) (fun hc7 => ?_)
  · replace hF := of_pos hF hc7
    refine TS.seqP (by kernel_rfl) ?_
    refine TS.regionP (by kernel_rfl) ?_
    refine TI.run 1 [4] [] (a2 := (st 20 [(4, .bool false)])) (h2 := [.dead, .dead, .dead]) (by kernel_rfl) ?_
    refine TI.done (by kernel_rfl) ?_
    refine NX.sq ?_
    refine TS.ret' (by kernel_rfl) ?_
    refine NX.bkR ?_
    refine NX.sqR ?_
    refine Rd.out (by simp) ?_
    refine NX.bkR ?_
    refine NX.sqR ?_
    have hF := Option.some.inj hF
    subst hF
    exact ⟨.inr rfl, rfl, .bool false, by kernel_rfl, WkV.flat0 (by kernel_rfl) (Nat.le_of_ble_eq_true rfl)⟩
  · replace hF := of_neg hF hc7
    refine TS.skip' (by kernel_rfl) ?_
    refine NX.bk ?_
    refine NX.sq ?_
    refine TS.regionP (by kernel_rfl) ?_
    refine TI.runA 2 [3, 8, 9] (a2 := (st 20 [(3, pt 1 0), (8, ag [iv r1.1.1, iv r1.1.2, iv r1.2.1.1, iv r1.2.1.2, iv r1.2.2.1.1, iv r1.2.2.1.2, iv r1.2.2.2.1.1, iv r1.2.2.2.1.2, iv r1.2.2.2.2.1.1, iv r1.2.2.2.2.1.2, iv r1.2.2.2.2.2.1, iv r1.2.2.2.2.2.2]), (9, iv 1)])) (by kernel_rfl) ?_
    refine TI.done (by kernel_rfl) ?_
    refine Rd.again Wk.refl (TL.round ?_)
    refine TS.seqP (by kernel_rfl) ?_
    refine TS.regionP (by kernel_rfl) ?_
    refine TI.runA 1 [3, 8, 9, 10] (a2 := (st 20 [(3, pt 1 0), (8, ag [iv r1.1.1, iv r1.1.2, iv r1.2.1.1, iv r1.2.1.2, iv r1.2.2.1.1, iv r1.2.2.1.2, iv r1.2.2.2.1.1, iv r1.2.2.2.1.2, iv r1.2.2.2.2.1.1, iv r1.2.2.2.2.1.2, iv r1.2.2.2.2.2.1, iv r1.2.2.2.2.2.2]), (9, iv 1), (10, .bool true)])) (by kernel_rfl) ?_
    refine TI.done (by kernel_rfl) ?_
    refine NX.sq ?_
    refine TS.seqP (by kernel_rfl) ?_
    refine TS.condTP (o := (.tmp 10)) (by kernel_rfl) (by kernel_rfl) ?_
    refine TS.skip' (by kernel_rfl) ?_
    refine NX.sq ?_
    refine TS.seqP (by kernel_rfl) ?_
    refine TS.blockP (id := 1) (by kernel_rfl) ?_
    refine TS.seqP (by kernel_rfl) ?_
    refine TS.regionP (by kernel_rfl) ?_
    refine TI.run 3 [3, 6, 8, 9] [1, 3] (a2 := (st 20 [(3, pt 1 0), (6, pt 3 0), (8, ag [iv r1.1.1, iv r1.1.2, iv r1.2.1.1, iv r1.2.1.2, iv r1.2.2.1.1, iv r1.2.2.1.2, iv r1.2.2.2.1.1, iv r1.2.2.2.1.2, iv r1.2.2.2.2.1.1, iv r1.2.2.2.2.1.2, iv r1.2.2.2.2.2.1, iv r1.2.2.2.2.2.2]), (9, iv 1)])) (h2 := (H67_4 p8 p9 r1)) (by kernel_rfl) ?_
    refine TI.done (by kernel_rfl) ?_
    refine NX.sq ?_
    refine TS.seqP (by kernel_rfl) ?_
    have hX := of_do hF
    clear hF
    obtain ⟨r8, h9, hF⟩ := hX
    have hX := of_do hF
    clear hF
    obtain ⟨r10, h11, hF⟩ := hX
    have hT : ∀ e ∈ ([⟨72, [ag [iv p8, iv p9], ag [iv r1.2.1.1, iv r1.2.1.2]], (H67_4 p8 p9 r1), iv r8, []⟩, ⟨63, [ag [iv r1.2.1.1, iv r1.2.1.2]], (H67_4 p8 p9 r1), iv r10, []⟩] : List Entry), PureSim Try.prog e.g e.args e.h e.v e.new := by
      intro e he
      simp only [List.mem_cons, List.not_mem_nil, or_false] at he
      rcases he with rfl | rfl
      · exact PureSim.anyK (C72 _ _ _ _ _ h9) (by kernel_rfl)
      · exact PureSim.anyK (C63 _ _ _ h11) (by kernel_rfl)
    refine TS.drawP [⟨72, [ag [iv p8, iv p9], ag [iv r1.2.1.1, iv r1.2.1.2]], (H67_4 p8 p9 r1), iv r8, []⟩, ⟨63, [ag [iv r1.2.1.1, iv r1.2.1.2]], (H67_4 p8 p9 r1), iv r10, []⟩] hT mixed (by kernel_rfl) 6 (by kernel_rfl) [3, 8, 9, 18] [1] (a2 := (st 20 [(3, pt 1 0), (8, ag [iv r1.1.1, iv r1.1.2, iv r1.2.1.1, iv r1.2.1.2, iv r1.2.2.1.1, iv r1.2.2.1.2, iv r1.2.2.2.1.1, iv r1.2.2.2.1.2, iv r1.2.2.2.2.1.1, iv r1.2.2.2.2.1.2, iv r1.2.2.2.2.2.1, iv r1.2.2.2.2.2.2]), (9, iv 1), (18, .bool (decide ((w64 (2 * r8)) > r10)))])) (h2 := [.dead, cl 23 [iv p8, iv p9], .dead, .dead]) ?_ ?_
    · refine QJ.run (s1 := (qs (st 20 [(3, pt 1 0), (6, pt 3 0), (8, ag [iv r1.1.1, iv r1.1.2, iv r1.2.1.1, iv r1.2.1.2, iv r1.2.2.1.1, iv r1.2.2.1.2, iv r1.2.2.2.1.1, iv r1.2.2.2.1.2, iv r1.2.2.2.2.1.1, iv r1.2.2.2.2.1.2, iv r1.2.2.2.2.2.1, iv r1.2.2.2.2.2.2]), (9, iv 1), (12, ag [iv p8, iv p9]), (13, ag [iv r1.2.1.1, iv r1.2.1.2])]) (H67_4 p8 p9 r1) [] [])) 2 (by kernel_rfl) (by kernel_rfl) ?_
      refine QJ.op (q := { val := iv r8, new := [] }) (by decide) (qOf_call (g := 72) (args := [ag [iv p8, iv p9], ag [iv r1.2.1.1, iv r1.2.1.2]]) (by kernel_rfl) lookC_hit) ?_
      refine QJ.run (s1 := (qs (st 20 [(3, pt 1 0), (6, pt 3 0), (8, ag [iv r1.1.1, iv r1.1.2, iv r1.2.1.1, iv r1.2.1.2, iv r1.2.2.1.1, iv r1.2.2.1.2, iv r1.2.2.2.1.1, iv r1.2.2.2.1.2, iv r1.2.2.2.2.1.1, iv r1.2.2.2.2.1.2, iv r1.2.2.2.2.2.1, iv r1.2.2.2.2.2.2]), (9, iv 1), (12, ag [iv p8, iv p9]), (13, ag [iv r1.2.1.1, iv r1.2.1.2]), (14, iv r8), (15, iv (w64 (2 * r8))), (16, ag [iv r1.2.1.1, iv r1.2.1.2])]) (H67_4 p8 p9 r1) [] [])) 2 (by kernel_rfl) (by kernel_rfl) ?_
      refine QJ.op (q := { val := iv r10, new := [] }) (by decide) (qOf_call (g := 63) (args := [ag [iv r1.2.1.1, iv r1.2.1.2]]) (by kernel_rfl) (lookC_skip (fun hg => absurd (show (72 : Nat) = 63 from hg) (by decide)) lookC_hit)) ?_
      refine QJ.done (by kernel_rfl) ⟨rfl, ?_⟩
      refine SJ.last (by kernel_rfl)
    refine TS.condP (o := (.tmp 18)) (b := decide ((w64 (2 * r8)) > r10)) (by kernel_rfl) (by kernel_rfl) (fun hc12 => ?_) (fun hc12 => ?_)
    · replace hF := of_pos hF hc12
      refine TS.seqP (by kernel_rfl) ?_
      refine TS.regionP (by kernel_rfl) ?_
      refine TI.run 1 [4] [] (a2 := (st 20 [(4, .bool false)])) (h2 := [.dead, .dead, .dead, .dead]) (by kernel_rfl) ?_
      refine TI.done (by kernel_rfl) ?_
      refine NX.sq ?_
      refine TS.ret' (by kernel_rfl) ?_
      refine NX.bkR ?_
      refine NX.sqR ?_
      refine Rd.out (by simp) ?_
      refine NX.bkR ?_
      refine NX.sqR ?_
      have hF := Option.some.inj hF
      subst hF
      exact ⟨.inr rfl, rfl, .bool false, by kernel_rfl, WkV.flat0 (by kernel_rfl) (Nat.le_of_ble_eq_true rfl)⟩
    · replace hF := of_neg hF hc12
      refine TS.skip' (by kernel_rfl) ?_
      refine NX.bk ?_
      refine NX.sq ?_
      refine TS.regionP (by kernel_rfl) ?_
      refine TI.runA 2 [3, 8, 9] (a2 := (st 20 [(3, pt 1 0), (8, ag [iv r1.1.1, iv r1.1.2, iv r1.2.1.1, iv r1.2.1.2, iv r1.2.2.1.1, iv r1.2.2.1.2, iv r1.2.2.2.1.1, iv r1.2.2.2.1.2, iv r1.2.2.2.2.1.1, iv r1.2.2.2.2.1.2, iv r1.2.2.2.2.2.1, iv r1.2.2.2.2.2.2]), (9, iv 2)])) (by kernel_rfl) ?_
      refine TI.done (by kernel_rfl) ?_
      refine Rd.again Wk.refl (TL.round ?_)
      refine TS.seqP (by kernel_rfl) ?_
      refine TS.regionP (by kernel_rfl) ?_
      refine TI.runA 1 [3, 8, 9, 10] (a2 := (st 20 [(3, pt 1 0), (8, ag [iv r1.1.1, iv r1.1.2, iv r1.2.1.1, iv r1.2.1.2, iv r1.2.2.1.1, iv r1.2.2.1.2, iv r1.2.2.2.1.1, iv r1.2.2.2.1.2, iv r1.2.2.2.2.1.1, iv r1.2.2.2.2.1.2, iv r1.2.2.2.2.2.1, iv r1.2.2.2.2.2.2]), (9, iv 2), (10, .bool true)])) (by kernel_rfl) ?_
      refine TI.done (by kernel_rfl) ?_
      refine NX.sq ?_
      refine TS.seqP (by kernel_rfl) ?_
      refine TS.condTP (o := (.tmp 10)) (by kernel_rfl) (by kernel_rfl) ?_
      refine TS.skip' (by kernel_rfl) ?_
      refine NX.sq ?_
      refine TS.seqP (by kernel_rfl) ?_
      refine TS.blockP (id := 1) (by kernel_rfl) ?_
      refine TS.seqP (by kernel_rfl) ?_
      refine TS.regionP (by kernel_rfl) ?_
      refine TI.run 3 [3, 6, 8, 9] [1, 4] (a2 := (st 20 [(3, pt 1 0), (6, pt 4 0), (8, ag [iv r1.1.1, iv r1.1.2, iv r1.2.1.1, iv r1.2.1.2, iv r1.2.2.1.1, iv r1.2.2.1.2, iv r1.2.2.2.1.1, iv r1.2.2.2.1.2, iv r1.2.2.2.2.1.1, iv r1.2.2.2.2.1.2, iv r1.2.2.2.2.2.1, iv r1.2.2.2.2.2.2]), (9, iv 2)])) (h2 := (H67_3 p8 p9 r1)) (by kernel_rfl) ?_
      refine TI.done (by kernel_rfl) ?_
      refine NX.sq ?_
      refine TS.seqP (by kernel_rfl) ?_
      have hX := of_do hF
      clear hF
      obtain ⟨r13, h14, hF⟩ := hX
      have hX := of_do hF
      clear hF
      obtain ⟨r15, h16, hF⟩ := hX
      have hT : ∀ e ∈ ([⟨72, [ag [iv p8, iv p9], ag [iv r1.2.2.1.1, iv r1.2.2.1.2]], (H67_3 p8 p9 r1), iv r13, []⟩, ⟨63, [ag [iv r1.2.2.1.1, iv r1.2.2.1.2]], (H67_3 p8 p9 r1), iv r15, []⟩] : List Entry), PureSim Try.prog e.g e.args e.h e.v e.new := by
        intro e he
        simp only [List.mem_cons, List.not_mem_nil, or_false] at he
        rcases he with rfl | rfl
        · exact PureSim.anyK (C72 _ _ _ _ _ h14) (by kernel_rfl)
        · exact PureSim.anyK (C63 _ _ _ h16) (by kernel_rfl)
      refine TS.drawP [⟨72, [ag [iv p8, iv p9], ag [iv r1.2.2.1.1, iv r1.2.2.1.2]], (H67_3 p8 p9 r1), iv r13, []⟩, ⟨63, [ag [iv r1.2.2.1.1, iv r1.2.2.1.2]], (H67_3 p8 p9 r1), iv r15, []⟩] hT mixed (by kernel_rfl) 6 (by kernel_rfl) [3, 8, 9, 18] [1] (a2 := (st 20 [(3, pt 1 0), (8, ag [iv r1.1.1, iv r1.1.2, iv r1.2.1.1, iv r1.2.1.2, iv r1.2.2.1.1, iv r1.2.2.1.2, iv r1.2.2.2.1.1, iv r1.2.2.2.1.2, iv r1.2.2.2.2.1.1, iv r1.2.2.2.2.1.2, iv r1.2.2.2.2.2.1, iv r1.2.2.2.2.2.2]), (9, iv 2), (18, .bool (decide ((w64 (2 * r13)) > r15)))])) (h2 := [.dead, cl 23 [iv p8, iv p9], .dead, .dead, .dead]) ?_ ?_
      · refine QJ.run (s1 := (qs (st 20 [(3, pt 1 0), (6, pt 4 0), (8, ag [iv r1.1.1, iv r1.1.2, iv r1.2.1.1, iv r1.2.1.2, iv r1.2.2.1.1, iv r1.2.2.1.2, iv r1.2.2.2.1.1, iv r1.2.2.2.1.2, iv r1.2.2.2.2.1.1, iv r1.2.2.2.2.1.2, iv r1.2.2.2.2.2.1, iv r1.2.2.2.2.2.2]), (9, iv 2), (12, ag [iv p8, iv p9]), (13, ag [iv r1.2.2.1.1, iv r1.2.2.1.2])]) (H67_3 p8 p9 r1) [] [])) 2 (by kernel_rfl) (by kernel_rfl) ?_
        refine QJ.op (q := { val := iv r13, new := [] }) (by decide) (qOf_call (g := 72) (args := [ag [iv p8, iv p9], ag [iv r1.2.2.1.1, iv r1.2.2.1.2]]) (by kernel_rfl) lookC_hit) ?_
        refine QJ.run (s1 := (qs (st 20 [(3, pt 1 0), (6, pt 4 0), (8, ag [iv r1.1.1, iv r1.1.2, iv r1.2.1.1, iv r1.2.1.2, iv r1.2.2.1.1, iv r1.2.2.1.2, iv r1.2.2.2.1.1, iv r1.2.2.2.1.2, iv r1.2.2.2.2.1.1, iv r1.2.2.2.2.1.2, iv r1.2.2.2.2.2.1, iv r1.2.2.2.2.2.2]), (9, iv 2), (12, ag [iv p8, iv p9]), (13, ag [iv r1.2.2.1.1, iv r1.2.2.1.2]), (14, iv r13), (15, iv (w64 (2 * r13))), (16, ag [iv r1.2.2.1.1, iv r1.2.2.1.2])]) (H67_3 p8 p9 r1) [] [])) 2 (by kernel_rfl) (by kernel_rfl) ?_
        refine QJ.op (q := { val := iv r15, new := [] }) (by decide) (qOf_call (g := 63) (args := [ag [iv r1.2.2.1.1, iv r1.2.2.1.2]]) (by kernel_rfl) (lookC_skip (fun hg => absurd (show (72 : Nat) = 63 from hg) (by decide)) lookC_hit)) ?_
        refine QJ.done (by kernel_rfl) ⟨rfl, ?_⟩
        refine SJ.last (by kernel_rfl)
      refine TS.condP (o := (.tmp 18)) (b := decide ((w64 (2 * r13)) > r15)) (by kernel_rfl) (by kernel_rfl) (fun hc17 => ?_) (fun hc17 => ?_)
      · replace hF := of_pos hF hc17
        refine TS.seqP (by kernel_rfl) ?_
        refine TS.regionP (by kernel_rfl) ?_
        refine TI.run 1 [4] [] (a2 := (st 20 [(4, .bool false)])) (h2 := [.dead, .dead, .dead, .dead, .dead]) (by kernel_rfl) ?_
        refine TI.done (by kernel_rfl) ?_
        refine NX.sq ?_
        refine TS.ret' (by kernel_rfl) ?_
        refine NX.bkR ?_
        refine NX.sqR ?_
        refine Rd.out (by simp) ?_
        refine NX.bkR ?_
        refine NX.sqR ?_
        have hF := Option.some.inj hF
        subst hF
        exact ⟨.inr rfl, rfl, .bool false, by kernel_rfl, WkV.flat0 (by kernel_rfl) (Nat.le_of_ble_eq_true rfl)⟩
      · replace hF := of_neg hF hc17
        refine TS.skip' (by kernel_rfl) ?_
        refine NX.bk ?_
        refine NX.sq ?_
        refine TS.regionP (by kernel_rfl) ?_
        refine TI.runA 2 [3, 8, 9] (a2 := (st 20 [(3, pt 1 0), (8, ag [iv r1.1.1, iv r1.1.2, iv r1.2.1.1, iv r1.2.1.2, iv r1.2.2.1.1, iv r1.2.2.1.2, iv r1.2.2.2.1.1, iv r1.2.2.2.1.2, iv r1.2.2.2.2.1.1, iv r1.2.2.2.2.1.2, iv r1.2.2.2.2.2.1, iv r1.2.2.2.2.2.2]), (9, iv 3)])) (by kernel_rfl) ?_
        refine TI.done (by kernel_rfl) ?_
        refine Rd.again Wk.refl (TL.round ?_)
        refine TS.seqP (by kernel_rfl) ?_
        refine TS.regionP (by kernel_rfl) ?_
        refine TI.runA 1 [3, 8, 9, 10] (a2 := (st 20 [(3, pt 1 0), (8, ag [iv r1.1.1, iv r1.1.2, iv r1.2.1.1, iv r1.2.1.2, iv r1.2.2.1.1, iv r1.2.2.1.2, iv r1.2.2.2.1.1, iv r1.2.2.2.1.2, iv r1.2.2.2.2.1.1, iv r1.2.2.2.2.1.2, iv r1.2.2.2.2.2.1, iv r1.2.2.2.2.2.2]), (9, iv 3), (10, .bool true)])) (by kernel_rfl) ?_
        refine TI.done (by kernel_rfl) ?_
        refine NX.sq ?_
        refine TS.seqP (by kernel_rfl) ?_
        refine TS.condTP (o := (.tmp 10)) (by kernel_rfl) (by kernel_rfl) ?_
        refine TS.skip' (by kernel_rfl) ?_
        refine NX.sq ?_
        refine TS.seqP (by kernel_rfl) ?_
        refine TS.blockP (id := 1) (by kernel_rfl) ?_
        refine TS.seqP (by kernel_rfl) ?_
        refine TS.regionP (by kernel_rfl) ?_
        refine TI.run 3 [3, 6, 8, 9] [1, 5] (a2 := (st 20 [(3, pt 1 0), (6, pt 5 0), (8, ag [iv r1.1.1, iv r1.1.2, iv r1.2.1.1, iv r1.2.1.2, iv r1.2.2.1.1, iv r1.2.2.1.2, iv r1.2.2.2.1.1, iv r1.2.2.2.1.2, iv r1.2.2.2.2.1.1, iv r1.2.2.2.2.1.2, iv r1.2.2.2.2.2.1, iv r1.2.2.2.2.2.2]), (9, iv 3)])) (h2 := (H67_2 p8 p9 r1)) (by kernel_rfl) ?_
        refine TI.done (by kernel_rfl) ?_
        refine NX.sq ?_
        refine TS.seqP (by kernel_rfl) ?_
        have hX := of_do hF
        clear hF
        obtain ⟨r18, h19, hF⟩ := hX
        have hX := of_do hF
        clear hF
        obtain ⟨r20, h21, hF⟩ := hX
        have hT : ∀ e ∈ ([⟨72, [ag [iv p8, iv p9], ag [iv r1.2.2.2.1.1, iv r1.2.2.2.1.2]], (H67_2 p8 p9 r1), iv r18, []⟩, ⟨63, [ag [iv r1.2.2.2.1.1, iv r1.2.2.2.1.2]], (H67_2 p8 p9 r1), iv r20, []⟩] : List Entry), PureSim Try.prog e.g e.args e.h e.v e.new := by
          intro e he
          simp only [List.mem_cons, List.not_mem_nil, or_false] at he
          rcases he with rfl | rfl
          · exact PureSim.anyK (C72 _ _ _ _ _ h19) (by kernel_rfl)
          · exact PureSim.anyK (C63 _ _ _ h21) (by kernel_rfl)
        refine TS.drawP [⟨72, [ag [iv p8, iv p9], ag [iv r1.2.2.2.1.1, iv r1.2.2.2.1.2]], (H67_2 p8 p9 r1), iv r18, []⟩, ⟨63, [ag [iv r1.2.2.2.1.1, iv r1.2.2.2.1.2]], (H67_2 p8 p9 r1), iv r20, []⟩] hT mixed (by kernel_rfl) 6 (by kernel_rfl) [3, 8, 9, 18] [1] (a2 := (st 20 [(3, pt 1 0), (8, ag [iv r1.1.1, iv r1.1.2, iv r1.2.1.1, iv r1.2.1.2, iv r1.2.2.1.1, iv r1.2.2.1.2, iv r1.2.2.2.1.1, iv r1.2.2.2.1.2, iv r1.2.2.2.2.1.1, iv r1.2.2.2.2.1.2, iv r1.2.2.2.2.2.1, iv r1.2.2.2.2.2.2]), (9, iv 3), (18, .bool (decide ((w64 (2 * r18)) > r20)))])) (h2 := [.dead, cl 23 [iv p8, iv p9], .dead, .dead, .dead, .dead]) ?_ ?_
        · refine QJ.run (s1 := (qs (st 20 [(3, pt 1 0), (6, pt 5 0), (8, ag [iv r1.1.1, iv r1.1.2, iv r1.2.1.1, iv r1.2.1.2, iv r1.2.2.1.1, iv r1.2.2.1.2, iv r1.2.2.2.1.1, iv r1.2.2.2.1.2, iv r1.2.2.2.2.1.1, iv r1.2.2.2.2.1.2, iv r1.2.2.2.2.2.1, iv r1.2.2.2.2.2.2]), (9, iv 3), (12, ag [iv p8, iv p9]), (13, ag [iv r1.2.2.2.1.1, iv r1.2.2.2.1.2])]) (H67_2 p8 p9 r1) [] [])) 2 (by kernel_rfl) (by kernel_rfl) ?_
          refine QJ.op (q := { val := iv r18, new := [] }) (by decide) (qOf_call (g := 72) (args := [ag [iv p8, iv p9], ag [iv r1.2.2.2.1.1, iv r1.2.2.2.1.2]]) (by kernel_rfl) lookC_hit) ?_
          refine QJ.run (s1 := (qs (st 20 [(3, pt 1 0), (6, pt 5 0), (8, ag [iv r1.1.1, iv r1.1.2, iv r1.2.1.1, iv r1.2.1.2, iv r1.2.2.1.1, iv r1.2.2.1.2, iv r1.2.2.2.1.1, iv r1.2.2.2.1.2, iv r1.2.2.2.2.1.1, iv r1.2.2.2.2.1.2, iv r1.2.2.2.2.2.1, iv r1.2.2.2.2.2.2]), (9, iv 3), (12, ag [iv p8, iv p9]), (13, ag [iv r1.2.2.2.1.1, iv r1.2.2.2.1.2]), (14, iv r18), (15, iv (w64 (2 * r18))), (16, ag [iv r1.2.2.2.1.1, iv r1.2.2.2.1.2])]) (H67_2 p8 p9 r1) [] [])) 2 (by kernel_rfl) (by kernel_rfl) ?_
          refine QJ.op (q := { val := iv r20, new := [] }) (by decide) (qOf_call (g := 63) (args := [ag [iv r1.2.2.2.1.1, iv r1.2.2.2.1.2]]) (by kernel_rfl) (lookC_skip (fun hg => absurd (show (72 : Nat) = 63 from hg) (by decide)) lookC_hit)) ?_
          refine QJ.done (by kernel_rfl) ⟨rfl, ?_⟩
          refine SJ.last (by kernel_rfl)
        refine TS.condP (o := (.tmp 18)) (b := decide ((w64 (2 * r18)) > r20)) (by kernel_rfl) (by kernel_rfl) (fun hc22 => ?_) (fun hc22 => ?_)
        · replace hF := of_pos hF hc22
          refine TS.seqP (by kernel_rfl) ?_
          refine TS.regionP (by kernel_rfl) ?_
          refine TI.run 1 [4] [] (a2 := (st 20 [(4, .bool false)])) (h2 := [.dead, .dead, .dead, .dead, .dead, .dead]) (by kernel_rfl) ?_
          refine TI.done (by kernel_rfl) ?_
          refine NX.sq ?_
          refine TS.ret' (by kernel_rfl) ?_
          refine NX.bkR ?_
          refine NX.sqR ?_
          refine Rd.out (by simp) ?_
          refine NX.bkR ?_
          refine NX.sqR ?_
          have hF := Option.some.inj hF
          subst hF
          exact ⟨.inr rfl, rfl, .bool false, by kernel_rfl, WkV.flat0 (by kernel_rfl) (Nat.le_of_ble_eq_true rfl)⟩
        · replace hF := of_neg hF hc22
          refine TS.skip' (by kernel_rfl) ?_
          refine NX.bk ?_
          refine NX.sq ?_
          refine TS.regionP (by kernel_rfl) ?_
          refine TI.runA 2 [3, 8, 9] (a2 := (st 20 [(3, pt 1 0), (8, ag [iv r1.1.1, iv r1.1.2, iv r1.2.1.1, iv r1.2.1.2, iv r1.2.2.1.1, iv r1.2.2.1.2, iv r1.2.2.2.1.1, iv r1.2.2.2.1.2, iv r1.2.2.2.2.1.1, iv r1.2.2.2.2.1.2, iv r1.2.2.2.2.2.1, iv r1.2.2.2.2.2.2]), (9, iv 4)])) (by kernel_rfl) ?_
          refine TI.done (by kernel_rfl) ?_
          refine Rd.again Wk.refl (TL.round ?_)
          refine TS.seqP (by kernel_rfl) ?_
          refine TS.regionP (by kernel_rfl) ?_
          refine TI.runA 1 [3, 8, 9, 10] (a2 := (st 20 [(3, pt 1 0), (8, ag [iv r1.1.1, iv r1.1.2, iv r1.2.1.1, iv r1.2.1.2, iv r1.2.2.1.1, iv r1.2.2.1.2, iv r1.2.2.2.1.1, iv r1.2.2.2.1.2, iv r1.2.2.2.2.1.1, iv r1.2.2.2.2.1.2, iv r1.2.2.2.2.2.1, iv r1.2.2.2.2.2.2]), (9, iv 4), (10, .bool true)])) (by kernel_rfl) ?_
          refine TI.done (by kernel_rfl) ?_
          refine NX.sq ?_
          refine TS.seqP (by kernel_rfl) ?_
          refine TS.condTP (o := (.tmp 10)) (by kernel_rfl) (by kernel_rfl) ?_
          refine TS.skip' (by kernel_rfl) ?_
          refine NX.sq ?_
          refine TS.seqP (by kernel_rfl) ?_
          refine TS.blockP (id := 1) (by kernel_rfl) ?_
          refine TS.seqP (by kernel_rfl) ?_
          refine TS.regionP (by kernel_rfl) ?_
          refine TI.run 3 [3, 6, 8, 9] [1, 6] (a2 := (st 20 [(3, pt 1 0), (6, pt 6 0), (8, ag [iv r1.1.1, iv r1.1.2, iv r1.2.1.1, iv r1.2.1.2, iv r1.2.2.1.1, iv r1.2.2.1.2, iv r1.2.2.2.1.1, iv r1.2.2.2.1.2, iv r1.2.2.2.2.1.1, iv r1.2.2.2.2.1.2, iv r1.2.2.2.2.2.1, iv r1.2.2.2.2.2.2]), (9, iv 4)])) (h2 := (H67_1 p8 p9 r1)) (by kernel_rfl) ?_
          refine TI.done (by kernel_rfl) ?_
          refine NX.sq ?_
          refine TS.seqP (by kernel_rfl) ?_
          have hX := of_do hF
          clear hF
          obtain ⟨r23, h24, hF⟩ := hX
          have hX := of_do hF
          clear hF
          obtain ⟨r25, h26, hF⟩ := hX
          have hT : ∀ e ∈ ([⟨72, [ag [iv p8, iv p9], ag [iv r1.2.2.2.2.1.1, iv r1.2.2.2.2.1.2]], (H67_1 p8 p9 r1), iv r23, []⟩, ⟨63, [ag [iv r1.2.2.2.2.1.1, iv r1.2.2.2.2.1.2]], (H67_1 p8 p9 r1), iv r25, []⟩] : List Entry), PureSim Try.prog e.g e.args e.h e.v e.new := by
            intro e he
            simp only [List.mem_cons, List.not_mem_nil, or_false] at he
            rcases he with rfl | rfl
            · exact PureSim.anyK (C72 _ _ _ _ _ h24) (by kernel_rfl)
            · exact PureSim.anyK (C63 _ _ _ h26) (by kernel_rfl)
          refine TS.drawP [⟨72, [ag [iv p8, iv p9], ag [iv r1.2.2.2.2.1.1, iv r1.2.2.2.2.1.2]], (H67_1 p8 p9 r1), iv r23, []⟩, ⟨63, [ag [iv r1.2.2.2.2.1.1, iv r1.2.2.2.2.1.2]], (H67_1 p8 p9 r1), iv r25, []⟩] hT mixed (by kernel_rfl) 6 (by kernel_rfl) [3, 8, 9, 18] [1] (a2 := (st 20 [(3, pt 1 0), (8, ag [iv r1.1.1, iv r1.1.2, iv r1.2.1.1, iv r1.2.1.2, iv r1.2.2.1.1, iv r1.2.2.1.2, iv r1.2.2.2.1.1, iv r1.2.2.2.1.2, iv r1.2.2.2.2.1.1, iv r1.2.2.2.2.1.2, iv r1.2.2.2.2.2.1, iv r1.2.2.2.2.2.2]), (9, iv 4), (18, .bool (decide ((w64 (2 * r23)) > r25)))])) (h2 := [.dead, cl 23 [iv p8, iv p9], .dead, .dead, .dead, .dead, .dead]) ?_ ?_
          · refine QJ.run (s1 := (qs (st 20 [(3, pt 1 0), (6, pt 6 0), (8, ag [iv r1.1.1, iv r1.1.2, iv r1.2.1.1, iv r1.2.1.2, iv r1.2.2.1.1, iv r1.2.2.1.2, iv r1.2.2.2.1.1, iv r1.2.2.2.1.2, iv r1.2.2.2.2.1.1, iv r1.2.2.2.2.1.2, iv r1.2.2.2.2.2.1, iv r1.2.2.2.2.2.2]), (9, iv 4), (12, ag [iv p8, iv p9]), (13, ag [iv r1.2.2.2.2.1.1, iv r1.2.2.2.2.1.2])]) (H67_1 p8 p9 r1) [] [])) 2 (by kernel_rfl) (by kernel_rfl) ?_
            refine QJ.op (q := { val := iv r23, new := [] }) (by decide) (qOf_call (g := 72) (args := [ag [iv p8, iv p9], ag [iv r1.2.2.2.2.1.1, iv r1.2.2.2.2.1.2]]) (by kernel_rfl) lookC_hit) ?_
            refine QJ.run (s1 := (qs (st 20 [(3, pt 1 0), (6, pt 6 0), (8, ag [iv r1.1.1, iv r1.1.2, iv r1.2.1.1, iv r1.2.1.2, iv r1.2.2.1.1, iv r1.2.2.1.2, iv r1.2.2.2.1.1, iv r1.2.2.2.1.2, iv r1.2.2.2.2.1.1, iv r1.2.2.2.2.1.2, iv r1.2.2.2.2.2.1, iv r1.2.2.2.2.2.2]), (9, iv 4), (12, ag [iv p8, iv p9]), (13, ag [iv r1.2.2.2.2.1.1, iv r1.2.2.2.2.1.2]), (14, iv r23), (15, iv (w64 (2 * r23))), (16, ag [iv r1.2.2.2.2.1.1, iv r1.2.2.2.2.1.2])]) (H67_1 p8 p9 r1) [] [])) 2 (by kernel_rfl) (by kernel_rfl) ?_
            refine QJ.op (q := { val := iv r25, new := [] }) (by decide) (qOf_call (g := 63) (args := [ag [iv r1.2.2.2.2.1.1, iv r1.2.2.2.2.1.2]]) (by kernel_rfl) (lookC_skip (fun hg => absurd (show (72 : Nat) = 63 from hg) (by decide)) lookC_hit)) ?_
            refine QJ.done (by kernel_rfl) ⟨rfl, ?_⟩
            refine SJ.last (by kernel_rfl)
          refine TS.condP (o := (.tmp 18)) (b := decide ((w64 (2 * r23)) > r25)) (by kernel_rfl) (by kernel_rfl) (fun hc27 => ?_) (fun hc27 => ?_)
          · replace hF := of_pos hF hc27
            refine TS.seqP (by kernel_rfl) ?_
            refine TS.regionP (by kernel_rfl) ?_
            refine TI.run 1 [4] [] (a2 := (st 20 [(4, .bool false)])) (h2 := [.dead, .dead, .dead, .dead, .dead, .dead, .dead]) (by kernel_rfl) ?_
            refine TI.done (by kernel_rfl) ?_
            refine NX.sq ?_
            refine TS.ret' (by kernel_rfl) ?_
            refine NX.bkR ?_
            refine NX.sqR ?_
            refine Rd.out (by simp) ?_
            refine NX.bkR ?_
            refine NX.sqR ?_
            have hF := Option.some.inj hF
            subst hF
            exact ⟨.inr rfl, rfl, .bool false, by kernel_rfl, WkV.flat0 (by kernel_rfl) (Nat.le_of_ble_eq_true rfl)⟩
          · replace hF := of_neg hF hc27
            refine TS.skip' (by kernel_rfl) ?_
            refine NX.bk ?_
            refine NX.sq ?_
            refine TS.regionP (by kernel_rfl) ?_
            refine TI.runA 2 [3, 8, 9] (a2 := (st 20 [(3, pt 1 0), (8, ag [iv r1.1.1, iv r1.1.2, iv r1.2.1.1, iv r1.2.1.2, iv r1.2.2.1.1, iv r1.2.2.1.2, iv r1.2.2.2.1.1, iv r1.2.2.2.1.2, iv r1.2.2.2.2.1.1, iv r1.2.2.2.2.1.2, iv r1.2.2.2.2.2.1, iv r1.2.2.2.2.2.2]), (9, iv 5)])) (by kernel_rfl) ?_
            refine TI.done (by kernel_rfl) ?_
            refine Rd.again Wk.refl (TL.round ?_)
            refine TS.seqP (by kernel_rfl) ?_
            refine TS.regionP (by kernel_rfl) ?_
            refine TI.runA 1 [3, 8, 9, 10] (a2 := (st 20 [(3, pt 1 0), (8, ag [iv r1.1.1, iv r1.1.2, iv r1.2.1.1, iv r1.2.1.2, iv r1.2.2.1.1, iv r1.2.2.1.2, iv r1.2.2.2.1.1, iv r1.2.2.2.1.2, iv r1.2.2.2.2.1.1, iv r1.2.2.2.2.1.2, iv r1.2.2.2.2.2.1, iv r1.2.2.2.2.2.2]), (9, iv 5), (10, .bool true)])) (by kernel_rfl) ?_
            refine TI.done (by kernel_rfl) ?_
            refine NX.sq ?_
            refine TS.seqP (by kernel_rfl) ?_
            refine TS.condTP (o := (.tmp 10)) (by kernel_rfl) (by kernel_rfl) ?_
            refine TS.skip' (by kernel_rfl) ?_
            refine NX.sq ?_
            refine TS.seqP (by kernel_rfl) ?_
            refine TS.blockP (id := 1) (by kernel_rfl) ?_
            refine TS.seqP (by kernel_rfl) ?_
            refine TS.regionP (by kernel_rfl) ?_
            refine TI.run 3 [3, 6, 8, 9] [1, 7] (a2 := (st 20 [(3, pt 1 0), (6, pt 7 0), (8, ag [iv r1.1.1, iv r1.1.2, iv r1.2.1.1, iv r1.2.1.2, iv r1.2.2.1.1, iv r1.2.2.1.2, iv r1.2.2.2.1.1, iv r1.2.2.2.1.2, iv r1.2.2.2.2.1.1, iv r1.2.2.2.2.1.2, iv r1.2.2.2.2.2.1, iv r1.2.2.2.2.2.2]), (9, iv 5)])) (h2 := (H67_0 p8 p9 r1)) (by kernel_rfl) ?_
            refine TI.done (by kernel_rfl) ?_
            refine NX.sq ?_
            refine TS.seqP (by kernel_rfl) ?_
            have hX := of_do hF
            clear hF
            obtain ⟨r28, h29, hF⟩ := hX
            have hX := of_do hF
            clear hF
            obtain ⟨r30, h31, hF⟩ := hX
            have hT : ∀ e ∈ ([⟨72, [ag [iv p8, iv p9], ag [iv r1.2.2.2.2.2.1, iv r1.2.2.2.2.2.2]], (H67_0 p8 p9 r1), iv r28, []⟩, ⟨63, [ag [iv r1.2.2.2.2.2.1, iv r1.2.2.2.2.2.2]], (H67_0 p8 p9 r1), iv r30, []⟩] : List Entry), PureSim Try.prog e.g e.args e.h e.v e.new := by
              intro e he
              simp only [List.mem_cons, List.not_mem_nil, or_false] at he
              rcases he with rfl | rfl
              · exact PureSim.anyK (C72 _ _ _ _ _ h29) (by kernel_rfl)
              · exact PureSim.anyK (C63 _ _ _ h31) (by kernel_rfl)
            refine TS.drawP [⟨72, [ag [iv p8, iv p9], ag [iv r1.2.2.2.2.2.1, iv r1.2.2.2.2.2.2]], (H67_0 p8 p9 r1), iv r28, []⟩, ⟨63, [ag [iv r1.2.2.2.2.2.1, iv r1.2.2.2.2.2.2]], (H67_0 p8 p9 r1), iv r30, []⟩] hT mixed (by kernel_rfl) 6 (by kernel_rfl) [3, 8, 9, 18] [1] (a2 := (st 20 [(3, pt 1 0), (8, ag [iv r1.1.1, iv r1.1.2, iv r1.2.1.1, iv r1.2.1.2, iv r1.2.2.1.1, iv r1.2.2.1.2, iv r1.2.2.2.1.1, iv r1.2.2.2.1.2, iv r1.2.2.2.2.1.1, iv r1.2.2.2.2.1.2, iv r1.2.2.2.2.2.1, iv r1.2.2.2.2.2.2]), (9, iv 5), (18, .bool (decide ((w64 (2 * r28)) > r30)))])) (h2 := [.dead, cl 23 [iv p8, iv p9], .dead, .dead, .dead, .dead, .dead, .dead]) ?_ ?_
            · refine QJ.run (s1 := (qs (st 20 [(3, pt 1 0), (6, pt 7 0), (8, ag [iv r1.1.1, iv r1.1.2, iv r1.2.1.1, iv r1.2.1.2, iv r1.2.2.1.1, iv r1.2.2.1.2, iv r1.2.2.2.1.1, iv r1.2.2.2.1.2, iv r1.2.2.2.2.1.1, iv r1.2.2.2.2.1.2, iv r1.2.2.2.2.2.1, iv r1.2.2.2.2.2.2]), (9, iv 5), (12, ag [iv p8, iv p9]), (13, ag [iv r1.2.2.2.2.2.1, iv r1.2.2.2.2.2.2])]) (H67_0 p8 p9 r1) [] [])) 2 (by kernel_rfl) (by kernel_rfl) ?_
              refine QJ.op (q := { val := iv r28, new := [] }) (by decide) (qOf_call (g := 72) (args := [ag [iv p8, iv p9], ag [iv r1.2.2.2.2.2.1, iv r1.2.2.2.2.2.2]]) (by kernel_rfl) lookC_hit) ?_
              refine QJ.run (s1 := (qs (st 20 [(3, pt 1 0), (6, pt 7 0), (8, ag [iv r1.1.1, iv r1.1.2, iv r1.2.1.1, iv r1.2.1.2, iv r1.2.2.1.1, iv r1.2.2.1.2, iv r1.2.2.2.1.1, iv r1.2.2.2.1.2, iv r1.2.2.2.2.1.1, iv r1.2.2.2.2.1.2, iv r1.2.2.2.2.2.1, iv r1.2.2.2.2.2.2]), (9, iv 5), (12, ag [iv p8, iv p9]), (13, ag [iv r1.2.2.2.2.2.1, iv r1.2.2.2.2.2.2]), (14, iv r28), (15, iv (w64 (2 * r28))), (16, ag [iv r1.2.2.2.2.2.1, iv r1.2.2.2.2.2.2])]) (H67_0 p8 p9 r1) [] [])) 2 (by kernel_rfl) (by kernel_rfl) ?_
              refine QJ.op (q := { val := iv r30, new := [] }) (by decide) (qOf_call (g := 63) (args := [ag [iv r1.2.2.2.2.2.1, iv r1.2.2.2.2.2.2]]) (by kernel_rfl) (lookC_skip (fun hg => absurd (show (72 : Nat) = 63 from hg) (by decide)) lookC_hit)) ?_
              refine QJ.done (by kernel_rfl) ⟨rfl, ?_⟩
              refine SJ.last (by kernel_rfl)
            refine TS.condP (o := (.tmp 18)) (b := decide ((w64 (2 * r28)) > r30)) (by kernel_rfl) (by kernel_rfl) (fun hc32 => ?_) (fun hc32 => ?_)
            · replace hF := of_pos hF hc32
              refine TS.seqP (by kernel_rfl) ?_
              refine TS.regionP (by kernel_rfl) ?_
              refine TI.run 1 [4] [] (a2 := (st 20 [(4, .bool false)])) (h2 := [.dead, .dead, .dead, .dead, .dead, .dead, .dead, .dead]) (by kernel_rfl) ?_
              refine TI.done (by kernel_rfl) ?_
              refine NX.sq ?_
              refine TS.ret' (by kernel_rfl) ?_
              refine NX.bkR ?_
              refine NX.sqR ?_
              refine Rd.out (by simp) ?_
              refine NX.bkR ?_
              refine NX.sqR ?_
              have hF := Option.some.inj hF
              subst hF
              exact ⟨.inr rfl, rfl, .bool false, by kernel_rfl, WkV.flat0 (by kernel_rfl) (Nat.le_of_ble_eq_true rfl)⟩
            · replace hF := of_neg hF hc32
              refine TS.skip' (by kernel_rfl) ?_
              refine NX.bk ?_
              refine NX.sq ?_
              refine TS.regionP (by kernel_rfl) ?_
              refine TI.runA 2 [3, 8, 9] (a2 := (st 20 [(3, pt 1 0), (8, ag [iv r1.1.1, iv r1.1.2, iv r1.2.1.1, iv r1.2.1.2, iv r1.2.2.1.1, iv r1.2.2.1.2, iv r1.2.2.2.1.1, iv r1.2.2.2.1.2, iv r1.2.2.2.2.1.1, iv r1.2.2.2.2.1.2, iv r1.2.2.2.2.2.1, iv r1.2.2.2.2.2.2]), (9, iv 6)])) (by kernel_rfl) ?_
              refine TI.done (by kernel_rfl) ?_
              refine Rd.again Wk.refl (TL.round ?_)
              refine TS.seqP (by kernel_rfl) ?_
              refine TS.regionP (by kernel_rfl) ?_
              refine TI.runA 1 [3, 8, 9, 10] (a2 := (st 20 [(3, pt 1 0), (8, ag [iv r1.1.1, iv r1.1.2, iv r1.2.1.1, iv r1.2.1.2, iv r1.2.2.1.1, iv r1.2.2.1.2, iv r1.2.2.2.1.1, iv r1.2.2.2.1.2, iv r1.2.2.2.2.1.1, iv r1.2.2.2.2.1.2, iv r1.2.2.2.2.2.1, iv r1.2.2.2.2.2.2]), (9, iv 6), (10, .bool false)])) (by kernel_rfl) ?_
              refine TI.done (by kernel_rfl) ?_
              refine NX.sq ?_
              refine TS.seqP (by kernel_rfl) ?_
              refine TS.condFP (o := (.tmp 10)) (by kernel_rfl) (by kernel_rfl) ?_
              refine TS.exit' (id := 0) (by kernel_rfl) ?_
              refine NX.sqX ?_
              refine Rd.out (by simp) ?_
              refine NX.bkX ?_
              refine NX.sq ?_
              refine TS.seqP (by kernel_rfl) ?_
              refine TS.regionP (by kernel_rfl) ?_
              refine TI.run 1 [4] [] (a2 := (st 20 [(4, .bool true)])) (h2 := [.dead, .dead, .dead, .dead, .dead, .dead, .dead, .dead]) (by kernel_rfl) ?_
              refine TI.done (by kernel_rfl) ?_
              refine NX.sq ?_
              refine TS.ret' (by kernel_rfl) ?_
              have hF := Option.some.inj hF
              subst hF
              exact ⟨.inr rfl, rfl, .bool true, by kernel_rfl, WkV.flat0 (by kernel_rfl) (Nat.le_of_ble_eq_true rfl)⟩
theorem C67 (p0 : Int) (p1 : Int) (p2 : Int) (p3 : Int) (p4 : Int) (p5 : Int) (p6 : Int) (p7 : Int) (p8 : Int) (p9 : Int) (r : Bool) (hF : F67 p0 p1 p2 p3 p4 p5 p6 p7 p8 p9 = some r) : PureSim Try.prog 67 [ag [iv p0, iv p1, iv p2, iv p3, iv p4, iv p5, iv p6, iv p7], ag [iv p8, iv p9]] [] (V67 0 r) (N67 0 r) :=
  PureSim.of_Fin Try.func67 (c := c67) (by kernel_rfl) (by kernel_rfl) 0 rfl [0, 1] [] (by kernel_rfl) (B67 p0 p1 p2 p3 p4 p5 p6 p7 p8 p9 r hF)

-- agonic/magnet.Verify
noncomputable def c32 : Code := Try.f32.code
def H32_0 (p0 : Int) (p1 : Int) (p2 : Int) (p3 : Int) (p8 : Int) (p9 : Int) (p10 : Int) (p11 : Int) (r4 : (Int × Int)) (r6 : (Int × Int)) (p4 : Int) (p5 : Int) (p6 : Int) (p7 : Int) : List Blk := [cl 25 [iv p0, iv p1, iv p2, iv p3], .dead, .dead, cl 23 [iv p8, iv p9], cl 27 [iv p10, iv p11], .dead, cl 108 [iv r4.1, iv r4.2, iv r6.1, iv r6.2, iv p4, iv p5, iv p6, iv p7]]
def S32_1 (p4 : Int) (p7 : Int) (p5 : Int) (p6 : Int) : CAct := (st 81 [(5, pt 0 0), (8, pt 3 0), (9, pt 4 0), (12, pt 6 0), (13, iv (w64 ((w64 (p4 * p7)) - (w64 (p5 * p6))))), (46, iv (w64 ((w64 (p4 * p7)) - (w64 (p5 * p6)))))])
def H32_2 (p0 : Int) (p1 : Int) (p2 : Int) (p3 : Int) (p4 : Int) (p5 : Int) (p6 : Int) (p7 : Int) (p8 : Int) (p9 : Int) (p10 : Int) (p11 : Int) : List Blk := [cl 25 [iv p0, iv p1, iv p2, iv p3], cl 27 [iv p4, iv p5], cl 27 [iv p6, iv p7], cl 23 [iv p8, iv p9], cl 27 [iv p10, iv p11], .dead]
def S32_3 (p4 : Int) (p7 : Int) (p5 : Int) (p6 : Int) : CAct := (st 81 [(5, pt 0 0), (8, pt 3 0), (9, pt 4 0), (12, pt 6 0), (13, iv (w64 ((w64 (p4 * p7)) - (w64 (p5 * p6))))), (47, .bool false)])
def S32_4 (p4 : Int) (p7 : Int) (p5 : Int) (p6 : Int) : CAct := (st 81 [(5, pt 0 0), (8, pt 3 0), (9, pt 4 0), (12, pt 6 0), (13, iv (w64 ((w64 (p4 * p7)) - (w64 (p5 * p6))))), (47, .bool true)])
def S32_5 (p4 : Int) (p7 : Int) (p5 : Int) (p6 : Int) : CAct := (st 81 [(5, pt 0 0), (8, pt 3 0), (9, pt 4 0), (12, pt 6 0), (48, .bool true), (49, iv (w64 ((w64 (p4 * p7)) - (w64 (p5 * p6)))))])
def S32_6 (r4 : (Int × Int)) (r6 : (Int × Int)) : CAct := (st 81 [(5, pt 0 0), (8, pt 3 0), (9, pt 4 0), (12, pt 6 0), (66, .bool false), (68, ag [iv r4.1, iv r4.2, iv r6.1, iv r6.2])])
def S32_7 (r4 : (Int × Int)) : CAct := (st 81 [(5, pt 0 0), (8, pt 3 0), (9, pt 4 0), (12, pt 6 0), (52, .bool false), (55, ag [iv r4.1, iv r4.2])])
def S32_8 (r6 : (Int × Int)) : CAct := (st 81 [(5, pt 0 0), (8, pt 3 0), (9, pt 4 0), (12, pt 6 0), (59, .bool false), (62, ag [iv r6.1, iv r6.2])])
def S32_9  : CAct := (st 81 [(5, pt 0 0), (8, pt 3 0), (9, pt 4 0), (12, pt 6 0), (48, .bool true), (50, .bool false)])
def S32_10  : CAct := (st 81 [(5, pt 0 0), (8, pt 3 0), (9, pt 4 0), (12, pt 6 0), (45, .bool false)])
def S32_11  : CAct := (st 81 [(5, pt 0 0), (8, pt 3 0), (9, pt 4 0), (12, pt 6 0), (45, .bool true)])
def F32 (p0 : Int) (p1 : Int) (p2 : Int) (p3 : Int) (p4 : Int) (p5 : Int) (p6 : Int) (p7 : Int) (p8 : Int) (p9 : Int) (p10 : Int) (p11 : Int) : Option Int :=
  F52 p0 p1 p2 p3 p8 p9 ([(p10, p11), (p4, p5), (p6, p7)]) >>= fun r1 =>
  if r1 != 0 then
    some r1
  else
    F54 p0 p1 p2 p3 p4 p5 >>= fun r4 =>
    F54 p0 p1 p2 p3 p6 p7 >>= fun r6 =>
    (
      if (w64 ((w64 (p4 * p7)) - (w64 (p5 * p6)))) != 1 then
        if (w64 ((w64 (p4 * p7)) - (w64 (p5 * p6)))) != (-1) then
          some (true)
        else
          F58 r4.1 r4.2 2000 >>= fun r10 =>
          if r10 then
            F58 r6.1 r6.2 2000 >>= fun r12 =>
            if r12 then
              F50 r4.1 r4.2 r6.1 r6.2 >>= fun r14 =>
              if r14 then
                some (false)
              else
                some (true)
            else
              some (true)
          else
            some (true)
      else
        F58 r4.1 r4.2 2000 >>= fun r16 =>
        if r16 then
          F58 r6.1 r6.2 2000 >>= fun r18 =>
          if r18 then
            F50 r4.1 r4.2 r6.1 r6.2 >>= fun r20 =>
            if r20 then
              some (false)
            else
              some (true)
          else
            some (true)
        else
          some (true)
    : Option Bool) >>= fun m22 =>
    if m22 then
      some 5
    else
      F54 p0 p1 p2 p3 p10 p11 >>= fun r23 =>
      F53 p8 p9 1 r23.1 r23.2 >>= fun r25 =>
      F67 r4.1 r4.2 r6.1 r6.2 p4 p5 p6 p7 r25.1 r25.2 >>= fun r27 =>
      (
        if r27 then
          some (false)
        else
          some (true)
      : Option Bool) >>= fun m29 =>
      if m29 then
        some 12
      else
        some 0
def V32 (b : Nat) (r : Int) : Value := iv r
def N32 (b : Nat) (r : Int) : List Blk := []
theorem B32 (p0 : Int) (p1 : Int) (p2 : Int) (p3 : Int) (p4 : Int) (p5 : Int) (p6 : Int) (p7 : Int) (p8 : Int) (p9 : Int) (p10 : Int) (p11 : Int) (r : Int) (hF : F32 p0 p1 p2 p3 p4 p5 p6 p7 p8 p9 p10 p11 = some r) : TS Try.prog 0 0 c32 (st 81 [(0, ag [iv p0, iv p1, iv p2, iv p3]), (1, ag [iv p4, iv p5]), (2, ag [iv p6, iv p7]), (3, ag [iv p8, iv p9]), (4, ag [iv p10, iv p11])]) [] (NX Try.prog 0 0 [] (FinP Try.prog Try.f32 0 (V32 0 r) (N32 0 r))) := by
  unfold F32 at hF
  refine TS.seqP (by kernel_rfl) ?_
  refine TS.regionP (by kernel_rfl) ?_
  refine TI.run 6 [5, 6, 7, 8, 9] [0, 1, 2, 3, 4] (a2 := (st 81 [(5, pt 0 0), (6, pt 1 0), (7, pt 2 0), (8, pt 3 0), (9, pt 4 0)])) (h2 := [cl 25 [iv p0, iv p1, iv p2, iv p3], cl 27 [iv p4, iv p5], cl 27 [iv p6, iv p7], cl 23 [iv p8, iv p9], cl 27 [iv p10, iv p11]]) (by kernel_rfl) ?_
  refine TI.done (by kernel_rfl) ?_
  refine NX.sq ?_
  refine TS.seqP (by kernel_rfl) ?_
  refine TS.seqP (by kernel_rfl) ?_
  have hX := of_do hF
  clear hF
  obtain ⟨r1, h2, hF⟩ := hX
  refine TS.regionP (by kernel_rfl) ?_
  refine TI.run 6 [5, 6, 7, 8, 9, 14, 15, 19] [0, 1, 2, 3, 4, 5] (a2 := (st 81 [(5, pt 0 0), (6, pt 1 0), (7, pt 2 0), (8, pt 3 0), (9, pt 4 0), (14, ag [iv p0, iv p1, iv p2, iv p3]), (15, ag [iv p8, iv p9]), (19, .slice (some ⟨5, 0, none⟩) 3 3)])) (h2 := [cl 25 [iv p0, iv p1, iv p2, iv p3], cl 27 [iv p4, iv p5], cl 27 [iv p6, iv p7], cl 23 [iv p8, iv p9], cl 27 [iv p10, iv p11], cl 27 [iv p10, iv p11, iv p4, iv p5, iv p6, iv p7]]) (by kernel_rfl) ?_
  refine TI.callP (g := 52) (args := [ag [iv p0, iv p1, iv p2, iv p3], ag [iv p8, iv p9], .slice (some ⟨5, 0, none⟩) 3 3]) (v := iv r1) (new := []) (PureSim.ren (hc := [accB 27 (List.length ([(p10, p11), (p4, p5), (p6, p7)])) (List.flatMap e27 ([(p10, p11), (p4, p5), (p6, p7)]))]) (fun i => List.getD [(5, 0)] i (0, 0)) (C52 _ _ _ _ _ _ _ _ h2) (.cons (At.accU (by kernel_rfl) rfl (fun _ => rfl)) (.nil _)) (.cons (.flat (by kernel_rfl)) (.cons (.flat (by kernel_rfl)) (.cons (Rn.any _ _ _ _ _ _ (Nat.le_of_ble_eq_true rfl) rfl rfl (by decide)) .nil))) (.flat (by kernel_rfl)) newflat_nil) (by kernel_rfl) ?_
  refine TI.run 1 [5, 6, 7, 8, 9, 11] [0, 1, 2, 3, 4] (a2 := (st 81 [(5, pt 0 0), (6, pt 1 0), (7, pt 2 0), (8, pt 3 0), (9, pt 4 0), (11, iv r1)])) (h2 := (H32_2 p0 p1 p2 p3 p4 p5 p6 p7 p8 p9 p10 p11)) (by kernel_rfl) ?_
  refine TI.done (by kernel_rfl) ?_
  refine NX.sq ?_
  refine TS.seqP (by kernel_rfl) ?_
  refine TS.regionP (by kernel_rfl) ?_
  refine TI.runA 2 [5, 6, 7, 8, 9, 11, 22] (a2 := (st 81 [(5, pt 0 0), (6, pt 1 0), (7, pt 2 0), (8, pt 3 0), (9, pt 4 0), (11, iv r1), (22, .bool (r1 != 0))])) (by kernel_rfl) ?_
  refine TI.done (by kernel_rfl) ?_
  refine NX.sq ?_
  refine TS.condP (o := (.tmp 22)) (b := r1 != 0) (by kernel_rfl) (by kernel_rfl) (fun hc3 => ?_) (fun hc3 => ?_)
  · replace hF := of_pos hF hc3
    refine TS.seqP (by kernel_rfl) ?_
    refine TS.regionP (by kernel_rfl) ?_
    refine TI.run 2 [10] [] (a2 := (st 81 [(10, iv r1)])) (h2 := [.dead, .dead, .dead, .dead, .dead, .dead]) (by kernel_rfl) ?_
    refine TI.done (by kernel_rfl) ?_
    refine NX.sq ?_
    refine TS.ret' (by kernel_rfl) ?_
    refine NX.sqR ?_
    have hF := Option.some.inj hF
    subst hF
    exact ⟨.inr rfl, rfl, iv r1, by kernel_rfl, WkV.flat0 (by kernel_rfl) (Nat.le_of_ble_eq_true rfl)⟩
  · replace hF := of_neg hF hc3
    refine TS.skip' (by kernel_rfl) ?_
    refine NX.sq ?_
    refine TS.seqP (by kernel_rfl) ?_
    have hX := of_do hF
    clear hF
    obtain ⟨r4, h5, hF⟩ := hX
    have hX := of_do hF
    clear hF
    obtain ⟨r6, h7, hF⟩ := hX
    have hT : ∀ e ∈ ([⟨54, [ag [iv p0, iv p1, iv p2, iv p3], ag [iv p4, iv p5]], (H32_2 p0 p1 p2 p3 p4 p5 p6 p7 p8 p9 p10 p11), ag [iv r4.1, iv r4.2], []⟩, ⟨54, [ag [iv p0, iv p1, iv p2, iv p3], ag [iv p6, iv p7]], (H32_2 p0 p1 p2 p3 p4 p5 p6 p7 p8 p9 p10 p11), ag [iv r6.1, iv r6.2], []⟩] : List Entry), PureSim Try.prog e.g e.args e.h e.v e.new := by
      intro e he
      simp only [List.mem_cons, List.not_mem_nil, or_false] at he
      rcases he with rfl | rfl
      · exact PureSim.anyK (C54 _ _ _ _ _ _ _ h5) (by kernel_rfl)
      · exact PureSim.anyK (C54 _ _ _ _ _ _ _ h7) (by kernel_rfl)
    refine TS.drawP [⟨54, [ag [iv p0, iv p1, iv p2, iv p3], ag [iv p4, iv p5]], (H32_2 p0 p1 p2 p3 p4 p5 p6 p7 p8 p9 p10 p11), ag [iv r4.1, iv r4.2], []⟩, ⟨54, [ag [iv p0, iv p1, iv p2, iv p3], ag [iv p6, iv p7]], (H32_2 p0 p1 p2 p3 p4 p5 p6 p7 p8 p9 p10 p11), ag [iv r6.1, iv r6.2], []⟩] hT mixed (by kernel_rfl) 11 (by kernel_rfl) [5, 6, 7, 8, 9, 12] [0, 1, 2, 3, 4, 6] (a2 := (st 81 [(5, pt 0 0), (6, pt 1 0), (7, pt 2 0), (8, pt 3 0), (9, pt 4 0), (12, pt 6 0)])) (h2 := [cl 25 [iv p0, iv p1, iv p2, iv p3], cl 27 [iv p4, iv p5], cl 27 [iv p6, iv p7], cl 23 [iv p8, iv p9], cl 27 [iv p10, iv p11], .dead, cl 108 [iv r4.1, iv r4.2, iv r6.1, iv r6.2, iv p4, iv p5, iv p6, iv p7]]) ?_ ?_
    · refine QJ.run (s1 := (qs (st 81 [(5, pt 0 0), (6, pt 1 0), (7, pt 2 0), (8, pt 3 0), (9, pt 4 0), (11, iv r1), (22, .bool (r1 != 0)), (24, ag [iv p0, iv p1, iv p2, iv p3]), (25, ag [iv p4, iv p5])]) (H32_2 p0 p1 p2 p3 p4 p5 p6 p7 p8 p9 p10 p11) [] [])) 2 (by kernel_rfl) (by kernel_rfl) ?_
      refine QJ.op (q := { val := ag [iv r4.1, iv r4.2], new := [] }) (by decide) (qOf_call (g := 54) (args := [ag [iv p0, iv p1, iv p2, iv p3], ag [iv p4, iv p5]]) (by kernel_rfl) lookC_hit) ?_
      refine QJ.run (s1 := (qs (st 81 [(5, pt 0 0), (6, pt 1 0), (7, pt 2 0), (8, pt 3 0), (9, pt 4 0), (11, iv r1), (22, .bool (r1 != 0)), (24, ag [iv p0, iv p1, iv p2, iv p3]), (25, ag [iv p4, iv p5]), (26, ag [iv r4.1, iv r4.2]), (27, ag [iv p0, iv p1, iv p2, iv p3]), (28, ag [iv p6, iv p7])]) (H32_2 p0 p1 p2 p3 p4 p5 p6 p7 p8 p9 p10 p11) [] [])) 2 (by kernel_rfl) (by kernel_rfl) ?_
      refine QJ.op (q := { val := ag [iv r6.1, iv r6.2], new := [] }) (by decide) (qOf_call (g := 54) (args := [ag [iv p0, iv p1, iv p2, iv p3], ag [iv p6, iv p7]]) (by kernel_rfl) (lookC_skip (by intro _ ha _; have hr := Option.some.inj (h5.symm.trans (Eq.trans (congr (congr (congr (congr (congr (congrArg F54 (Eq.refl p0)) (Eq.refl p1)) (Eq.refl p2)) (Eq.refl p3)) (show p4 = p6 from congrArg (leafI 4) ha)) (show p5 = p7 from congrArg (leafI 5) ha)) h7)); first | (subst hr; rfl) | (cases hr; done) | (cases hr; rfl)) lookC_hit)) ?_
      refine QJ.run (s1 := (qs (st 81 [(5, pt 0 0), (6, pt 1 0), (7, pt 2 0), (8, pt 3 0), (9, pt 4 0), (11, iv r1), (12, pt 6 0), (22, .bool (r1 != 0)), (24, ag [iv p0, iv p1, iv p2, iv p3]), (25, ag [iv p4, iv p5]), (26, ag [iv r4.1, iv r4.2]), (27, ag [iv p0, iv p1, iv p2, iv p3]), (28, ag [iv p6, iv p7]), (29, ag [iv r6.1, iv r6.2]), (30, ag [iv r4.1, iv r4.2, iv r6.1, iv r6.2]), (31, ag [iv p4, iv p5]), (32, ag [iv p6, iv p7]), (33, ag [iv r4.1, iv r4.2, iv r6.1, iv r6.2, iv p4, iv p5, iv p6, iv p7])]) [cl 25 [iv p0, iv p1, iv p2, iv p3], cl 27 [iv p4, iv p5], cl 27 [iv p6, iv p7], cl 23 [iv p8, iv p9], cl 27 [iv p10, iv p11], .dead, cl 108 [iv 0, iv 0, iv 0, iv 0, iv 0, iv 0, iv 0, iv 0]] [(10, 6, 7)] [])) 5 (by kernel_rfl) (by kernel_rfl) ?_
      refine QJ.done (by kernel_rfl) ⟨rfl, ?_⟩
      refine SJ.last (by kernel_rfl)
    refine TS.seqP (by kernel_rfl) ?_
    refine TS.regionP (by kernel_rfl) ?_
    refine TI.run 12 [5, 8, 9, 12, 13] [0, 3, 4, 6] (a2 := (st 81 [(5, pt 0 0), (8, pt 3 0), (9, pt 4 0), (12, pt 6 0), (13, iv (w64 ((w64 (p4 * p7)) - (w64 (p5 * p6)))))])) (h2 := (H32_0 p0 p1 p2 p3 p8 p9 p10 p11 r4 r6 p4 p5 p6 p7)) (by kernel_rfl) ?_
    refine TI.done (by kernel_rfl) ?_
    refine NX.sq ?_
    refine TS.seqP (by kernel_rfl) ?_
    refine TS.blockP (id := 0) (by kernel_rfl) ?_
    refine TS.seqP (by kernel_rfl) ?_
    have hX := of_do hF
    clear hF
    obtain ⟨m22, hm31, hF⟩ := hX
    have hK : NX Try.prog 0 0 [.sq c32.s2.s2.s2.s2.s1.bd.s2, .bk 0, .sq c32.s2.s2.s2.s2.s2] (FinP Try.prog Try.f32 0 (V32 0 r) (N32 0 r)) .normal (st 81 [(5, pt 0 0), (8, pt 3 0), (9, pt 4 0), (12, pt 6 0), (45, .bool m22)]) (H32_0 p0 p1 p2 p3 p8 p9 p10 p11 r4 r6 p4 p5 p6 p7) := by
      refine NX.sq ?_
      cases m22 with
      | true =>
        replace hF := of_pos hF rfl
        refine TS.condTP (o := (.tmp 45)) (by kernel_rfl) (by kernel_rfl) ?_
        refine TS.seqP (by kernel_rfl) ?_
        refine TS.regionP (by kernel_rfl) ?_
        refine TI.run 1 [10] [] (a2 := (st 81 [(10, iv 5)])) (h2 := [.dead, .dead, .dead, .dead, .dead, .dead, .dead]) (by kernel_rfl) ?_
        refine TI.done (by kernel_rfl) ?_
        refine NX.sq ?_
        refine TS.ret' (by kernel_rfl) ?_
        refine NX.bkR ?_
        refine NX.sqR ?_
        have hF := Option.some.inj hF
        subst hF
        exact ⟨.inr rfl, rfl, iv 5, by kernel_rfl, WkV.flat0 (by kernel_rfl) (Nat.le_of_ble_eq_true rfl)⟩
      | false =>
        replace hF := of_neg hF rfl
        refine TS.condFP (o := (.tmp 45)) (by kernel_rfl) (by kernel_rfl) ?_
        refine TS.seqP (by kernel_rfl) ?_
        have hX := of_do hF
        clear hF
        obtain ⟨r23, h24, hF⟩ := hX
        have hX := of_do hF
        clear hF
        obtain ⟨r25, h26, hF⟩ := hX
        have hX := of_do hF
        clear hF
        obtain ⟨r27, h28, hF⟩ := hX
        have hX := of_do hF
        clear hF
        obtain ⟨m29, hm30, hF⟩ := hX
        have hK : NX Try.prog 0 0 [.sq c32.s2.s2.s2.s2.s1.bd.s2.el.s2, .bk 0, .sq c32.s2.s2.s2.s2.s2] (FinP Try.prog Try.f32 0 (V32 0 r) (N32 0 r)) .normal (st 81 [(72, .bool m29)]) [.dead, .dead, .dead, .dead, .dead, .dead, .dead] := by
          refine NX.sq ?_
          cases m29 with
          | true =>
            replace hF := of_pos hF rfl
            refine TS.condTP (o := (.tmp 72)) (by kernel_rfl) (by kernel_rfl) ?_
            refine TS.seqP (by kernel_rfl) ?_
            refine TS.regionP (by kernel_rfl) ?_
            refine TI.runA 1 [10] (a2 := (st 81 [(10, iv 12)])) (by kernel_rfl) ?_
            refine TI.done (by kernel_rfl) ?_
            refine NX.sq ?_
            refine TS.ret' (by kernel_rfl) ?_
            refine NX.bkR ?_
            refine NX.sqR ?_
            have hF := Option.some.inj hF
            subst hF
            exact ⟨.inr rfl, rfl, iv 12, by kernel_rfl, WkV.flat0 (by kernel_rfl) (Nat.le_of_ble_eq_true rfl)⟩
          | false =>
            replace hF := of_neg hF rfl
            refine TS.condFP (o := (.tmp 72)) (by kernel_rfl) (by kernel_rfl) ?_
            refine TS.skip' (by kernel_rfl) ?_
            refine NX.bk ?_
            refine NX.sq ?_
            refine TS.seqP (by kernel_rfl) ?_
            refine TS.regionP (by kernel_rfl) ?_
            refine TI.runA 1 [10] (a2 := (st 81 [(10, iv 0)])) (by kernel_rfl) ?_
            refine TI.done (by kernel_rfl) ?_
            refine NX.sq ?_
            refine TS.ret' (by kernel_rfl) ?_
            have hF := Option.some.inj hF
            subst hF
            exact ⟨.inr rfl, rfl, iv 0, by kernel_rfl, WkV.flat0 (by kernel_rfl) (Nat.le_of_ble_eq_true rfl)⟩
        cases r27 with
        | true =>
          replace hm30 := of_pos hm30 rfl
          have hm30 := Option.some.inj hm30
          subst hm30
          have hT : ∀ e ∈ ([⟨54, [ag [iv p0, iv p1, iv p2, iv p3], ag [iv p10, iv p11]], (H32_0 p0 p1 p2 p3 p8 p9 p10 p11 r4 r6 p4 p5 p6 p7), ag [iv r23.1, iv r23.2], []⟩, ⟨53, [ag [iv p8, iv p9], iv 1, ag [iv r23.1, iv r23.2]], (H32_0 p0 p1 p2 p3 p8 p9 p10 p11 r4 r6 p4 p5 p6 p7), ag [iv r25.1, iv r25.2], []⟩, ⟨67, [ag [iv r4.1, iv r4.2, iv r6.1, iv r6.2, iv p4, iv p5, iv p6, iv p7], ag [iv r25.1, iv r25.2]], (H32_0 p0 p1 p2 p3 p8 p9 p10 p11 r4 r6 p4 p5 p6 p7), .bool true, []⟩] : List Entry), PureSim Try.prog e.g e.args e.h e.v e.new := by
            intro e he
            simp only [List.mem_cons, List.not_mem_nil, or_false] at he
            rcases he with rfl | rfl | rfl
            · exact PureSim.anyK (C54 _ _ _ _ _ _ _ h24) (by kernel_rfl)
            · exact PureSim.anyK (C53 _ _ _ _ _ _ h26) (by kernel_rfl)
            · exact PureSim.anyK (C67 _ _ _ _ _ _ _ _ _ _ _ h28) (by kernel_rfl)
          refine TS.drawP [⟨54, [ag [iv p0, iv p1, iv p2, iv p3], ag [iv p10, iv p11]], (H32_0 p0 p1 p2 p3 p8 p9 p10 p11 r4 r6 p4 p5 p6 p7), ag [iv r23.1, iv r23.2], []⟩, ⟨53, [ag [iv p8, iv p9], iv 1, ag [iv r23.1, iv r23.2]], (H32_0 p0 p1 p2 p3 p8 p9 p10 p11 r4 r6 p4 p5 p6 p7), ag [iv r25.1, iv r25.2], []⟩, ⟨67, [ag [iv r4.1, iv r4.2, iv r6.1, iv r6.2, iv p4, iv p5, iv p6, iv p7], ag [iv r25.1, iv r25.2]], (H32_0 p0 p1 p2 p3 p8 p9 p10 p11 r4 r6 p4 p5 p6 p7), .bool true, []⟩] hT mixed (by kernel_rfl) 6 (by kernel_rfl) [72] [] (a2 := (st 81 [(72, .bool false)])) (h2 := [.dead, .dead, .dead, .dead, .dead, .dead, .dead]) ?_ ?_
          · refine QJ.run (s1 := (qs (st 81 [(5, pt 0 0), (8, pt 3 0), (9, pt 4 0), (12, pt 6 0), (45, .bool false), (73, ag [iv r4.1, iv r4.2, iv r6.1, iv r6.2, iv p4, iv p5, iv p6, iv p7]), (74, ag [iv p8, iv p9]), (75, ag [iv p0, iv p1, iv p2, iv p3]), (76, ag [iv p10, iv p11])]) (H32_0 p0 p1 p2 p3 p8 p9 p10 p11 r4 r6 p4 p5 p6 p7) [] [])) 4 (by kernel_rfl) (by kernel_rfl) ?_
            refine QJ.op (q := { val := ag [iv r23.1, iv r23.2], new := [] }) (by decide) (qOf_call (g := 54) (args := [ag [iv p0, iv p1, iv p2, iv p3], ag [iv p10, iv p11]]) (by kernel_rfl) lookC_hit) ?_
            refine QJ.op (q := { val := ag [iv r25.1, iv r25.2], new := [] }) (by decide) (qOf_call (g := 53) (args := [ag [iv p8, iv p9], iv 1, ag [iv r23.1, iv r23.2]]) (by kernel_rfl) (lookC_skip (fun hg => absurd (show (54 : Nat) = 53 from hg) (by decide)) lookC_hit)) ?_
            refine QJ.done (by kernel_rfl) ⟨rfl, ?_⟩
            refine SJ.op (q := { val := .bool true, new := [] }) (by kernel_rfl) (qOf_call (g := 67) (args := [ag [iv r4.1, iv r4.2, iv r6.1, iv r6.2, iv p4, iv p5, iv p6, iv p7], ag [iv r25.1, iv r25.2]]) (by kernel_rfl) (lookC_skip (fun hg => absurd (show (54 : Nat) = 67 from hg) (by decide)) (lookC_skip (fun hg => absurd (show (53 : Nat) = 67 from hg) (by decide)) lookC_hit))) ?_
            refine SJ.last (by kernel_rfl)
          exact hK
        | false =>
          replace hm30 := of_neg hm30 rfl
          have hm30 := Option.some.inj hm30
          subst hm30
          have hT : ∀ e ∈ ([⟨54, [ag [iv p0, iv p1, iv p2, iv p3], ag [iv p10, iv p11]], (H32_0 p0 p1 p2 p3 p8 p9 p10 p11 r4 r6 p4 p5 p6 p7), ag [iv r23.1, iv r23.2], []⟩, ⟨53, [ag [iv p8, iv p9], iv 1, ag [iv r23.1, iv r23.2]], (H32_0 p0 p1 p2 p3 p8 p9 p10 p11 r4 r6 p4 p5 p6 p7), ag [iv r25.1, iv r25.2], []⟩, ⟨67, [ag [iv r4.1, iv r4.2, iv r6.1, iv r6.2, iv p4, iv p5, iv p6, iv p7], ag [iv r25.1, iv r25.2]], (H32_0 p0 p1 p2 p3 p8 p9 p10 p11 r4 r6 p4 p5 p6 p7), .bool false, []⟩] : List Entry), PureSim Try.prog e.g e.args e.h e.v e.new := by
            intro e he
            simp only [List.mem_cons, List.not_mem_nil, or_false] at he
            rcases he with rfl | rfl | rfl
            · exact PureSim.anyK (C54 _ _ _ _ _ _ _ h24) (by kernel_rfl)
            · exact PureSim.anyK (C53 _ _ _ _ _ _ h26) (by kernel_rfl)
            · exact PureSim.anyK (C67 _ _ _ _ _ _ _ _ _ _ _ h28) (by kernel_rfl)
          refine TS.drawP [⟨54, [ag [iv p0, iv p1, iv p2, iv p3], ag [iv p10, iv p11]], (H32_0 p0 p1 p2 p3 p8 p9 p10 p11 r4 r6 p4 p5 p6 p7), ag [iv r23.1, iv r23.2], []⟩, ⟨53, [ag [iv p8, iv p9], iv 1, ag [iv r23.1, iv r23.2]], (H32_0 p0 p1 p2 p3 p8 p9 p10 p11 r4 r6 p4 p5 p6 p7), ag [iv r25.1, iv r25.2], []⟩, ⟨67, [ag [iv r4.1, iv r4.2, iv r6.1, iv r6.2, iv p4, iv p5, iv p6, iv p7], ag [iv r25.1, iv r25.2]], (H32_0 p0 p1 p2 p3 p8 p9 p10 p11 r4 r6 p4 p5 p6 p7), .bool false, []⟩] hT mixed (by kernel_rfl) 6 (by kernel_rfl) [72] [] (a2 := (st 81 [(72, .bool true)])) (h2 := [.dead, .dead, .dead, .dead, .dead, .dead, .dead]) ?_ ?_
          · refine QJ.run (s1 := (qs (st 81 [(5, pt 0 0), (8, pt 3 0), (9, pt 4 0), (12, pt 6 0), (45, .bool false), (73, ag [iv r4.1, iv r4.2, iv r6.1, iv r6.2, iv p4, iv p5, iv p6, iv p7]), (74, ag [iv p8, iv p9]), (75, ag [iv p0, iv p1, iv p2, iv p3]), (76, ag [iv p10, iv p11])]) (H32_0 p0 p1 p2 p3 p8 p9 p10 p11 r4 r6 p4 p5 p6 p7) [] [])) 4 (by kernel_rfl) (by kernel_rfl) ?_
            refine QJ.op (q := { val := ag [iv r23.1, iv r23.2], new := [] }) (by decide) (qOf_call (g := 54) (args := [ag [iv p0, iv p1, iv p2, iv p3], ag [iv p10, iv p11]]) (by kernel_rfl) lookC_hit) ?_
            refine QJ.op (q := { val := ag [iv r25.1, iv r25.2], new := [] }) (by decide) (qOf_call (g := 53) (args := [ag [iv p8, iv p9], iv 1, ag [iv r23.1, iv r23.2]]) (by kernel_rfl) (lookC_skip (fun hg => absurd (show (54 : Nat) = 53 from hg) (by decide)) lookC_hit)) ?_
            refine QJ.done (by kernel_rfl) ⟨rfl, ?_⟩
            refine SJ.op (q := { val := .bool false, new := [] }) (by kernel_rfl) (qOf_call (g := 67) (args := [ag [iv r4.1, iv r4.2, iv r6.1, iv r6.2, iv p4, iv p5, iv p6, iv p7], ag [iv r25.1, iv r25.2]]) (by kernel_rfl) (lookC_skip (fun hg => absurd (show (54 : Nat) = 67 from hg) (by decide)) (lookC_skip (fun hg => absurd (show (53 : Nat) = 67 from hg) (by decide)) lookC_hit))) ?_
            refine SJ.last (by kernel_rfl)
          exact hK
    rcases Bool.eq_false_or_eq_true ((w64 ((w64 (p4 * p7)) - (w64 (p5 * p6)))) != 1) with hc8 | hc8
    · replace hm31 := of_pos hm31 hc8
      rcases Bool.eq_false_or_eq_true ((w64 ((w64 (p4 * p7)) - (w64 (p5 * p6)))) != (-1)) with hc9 | hc9
      · replace hm31 := of_pos hm31 hc9
        have hm31 := Option.some.inj hm31
        subst hm31
        refine TS.regionP (by kernel_rfl) ?_
        refine TI.runA 1 [5, 8, 9, 12, 13, 46] (a2 := (S32_1 p4 p7 p5 p6)) (by kernel_rfl) ?_
        refine TI.op (q := { val := .bool true }) (q_conv (e := (w64 ((w64 (p4 * p7)) - (w64 (p5 * p6)))) != 1) (b := true) (by kernel_rfl) hc8) [5, 8, 9, 12, 13, 47] [0, 3, 4, 6] (a2 := (S32_4 p4 p7 p5 p6)) (h2 := (H32_0 p0 p1 p2 p3 p8 p9 p10 p11 r4 r6 p4 p5 p6 p7)) (by kernel_rfl) ?_
        refine TI.runA 2 [5, 8, 9, 12, 48, 49] (a2 := (S32_5 p4 p7 p5 p6)) (by kernel_rfl) ?_
        refine TI.op (q := { val := .bool true }) (q_conv (e := (w64 ((w64 (p4 * p7)) - (w64 (p5 * p6)))) != (-1)) (b := true) (by kernel_rfl) hc9) [5, 8, 9, 12, 48, 50] [0, 3, 4, 6] (a2 := (st 81 [(5, pt 0 0), (8, pt 3 0), (9, pt 4 0), (12, pt 6 0), (48, .bool true), (50, .bool true)])) (h2 := (H32_0 p0 p1 p2 p3 p8 p9 p10 p11 r4 r6 p4 p5 p6 p7)) (by kernel_rfl) ?_
        refine TI.runA 22 [5, 8, 9, 12, 45] (a2 := (S32_11)) (by kernel_rfl) ?_
        refine TI.done (by kernel_rfl) ?_
        exact hK
      · replace hm31 := of_neg hm31 hc9
        have hX := of_do hm31
        clear hm31
        obtain ⟨r10, h11, hm31⟩ := hX
        cases r10 with
        | true =>
          replace hm31 := of_pos hm31 rfl
          have hX := of_do hm31
          clear hm31
          obtain ⟨r12, h13, hm31⟩ := hX
          cases r12 with
          | true =>
            replace hm31 := of_pos hm31 rfl
            have hX := of_do hm31
            clear hm31
            obtain ⟨r14, h15, hm31⟩ := hX
            cases r14 with
            | true =>
              replace hm31 := of_pos hm31 rfl
              have hm31 := Option.some.inj hm31
              subst hm31
              refine TS.regionP (by kernel_rfl) ?_
              refine TI.runA 1 [5, 8, 9, 12, 13, 46] (a2 := (S32_1 p4 p7 p5 p6)) (by kernel_rfl) ?_
              refine TI.op (q := { val := .bool true }) (q_conv (e := (w64 ((w64 (p4 * p7)) - (w64 (p5 * p6)))) != 1) (b := true) (by kernel_rfl) hc8) [5, 8, 9, 12, 13, 47] [0, 3, 4, 6] (a2 := (S32_4 p4 p7 p5 p6)) (h2 := (H32_0 p0 p1 p2 p3 p8 p9 p10 p11 r4 r6 p4 p5 p6 p7)) (by kernel_rfl) ?_
              refine TI.runA 2 [5, 8, 9, 12, 48, 49] (a2 := (S32_5 p4 p7 p5 p6)) (by kernel_rfl) ?_
              refine TI.op (q := { val := .bool false }) (q_conv (e := (w64 ((w64 (p4 * p7)) - (w64 (p5 * p6)))) != (-1)) (b := false) (by kernel_rfl) hc9) [5, 8, 9, 12, 48, 50] [0, 3, 4, 6] (a2 := (S32_9)) (h2 := (H32_0 p0 p1 p2 p3 p8 p9 p10 p11 r4 r6 p4 p5 p6 p7)) (by kernel_rfl) ?_
              refine TI.runA 5 [5, 8, 9, 12, 52, 55] (a2 := (S32_7 r4)) (by kernel_rfl) ?_
              refine TI.callF (C58 _ _ _ _ h11) (by kernel_rfl) (by kernel_rfl) ?_
              refine TI.runA 6 [5, 8, 9, 12, 59, 62] (a2 := (S32_8 r6)) (by kernel_rfl) ?_
              refine TI.callF (C58 _ _ _ _ h13) (by kernel_rfl) (by kernel_rfl) ?_
              refine TI.runA 5 [5, 8, 9, 12, 66, 68] (a2 := (S32_6 r4 r6)) (by kernel_rfl) ?_
              refine TI.callF (C50 _ _ _ _ _ h15) (by kernel_rfl) (by kernel_rfl) ?_
              refine TI.runA 3 [5, 8, 9, 12, 45] (a2 := (S32_10)) (by kernel_rfl) ?_
              refine TI.done (by kernel_rfl) ?_
              exact hK
            | false =>
              replace hm31 := of_neg hm31 rfl
              have hm31 := Option.some.inj hm31
              subst hm31
              refine TS.regionP (by kernel_rfl) ?_
              refine TI.runA 1 [5, 8, 9, 12, 13, 46] (a2 := (S32_1 p4 p7 p5 p6)) (by kernel_rfl) ?_
              refine TI.op (q := { val := .bool true }) (q_conv (e := (w64 ((w64 (p4 * p7)) - (w64 (p5 * p6)))) != 1) (b := true) (by kernel_rfl) hc8) [5, 8, 9, 12, 13, 47] [0, 3, 4, 6] (a2 := (S32_4 p4 p7 p5 p6)) (h2 := (H32_0 p0 p1 p2 p3 p8 p9 p10 p11 r4 r6 p4 p5 p6 p7)) (by kernel_rfl) ?_
              refine TI.runA 2 [5, 8, 9, 12, 48, 49] (a2 := (S32_5 p4 p7 p5 p6)) (by kernel_rfl) ?_
              refine TI.op (q := { val := .bool false }) (q_conv (e := (w64 ((w64 (p4 * p7)) - (w64 (p5 * p6)))) != (-1)) (b := false) (by kernel_rfl) hc9) [5, 8, 9, 12, 48, 50] [0, 3, 4, 6] (a2 := (S32_9)) (h2 := (H32_0 p0 p1 p2 p3 p8 p9 p10 p11 r4 r6 p4 p5 p6 p7)) (by kernel_rfl) ?_
              refine TI.runA 5 [5, 8, 9, 12, 52, 55] (a2 := (S32_7 r4)) (by kernel_rfl) ?_
              refine TI.callF (C58 _ _ _ _ h11) (by kernel_rfl) (by kernel_rfl) ?_
              refine TI.runA 6 [5, 8, 9, 12, 59, 62] (a2 := (S32_8 r6)) (by kernel_rfl) ?_
              refine TI.callF (C58 _ _ _ _ h13) (by kernel_rfl) (by kernel_rfl) ?_
              refine TI.runA 5 [5, 8, 9, 12, 66, 68] (a2 := (S32_6 r4 r6)) (by kernel_rfl) ?_
              refine TI.callF (C50 _ _ _ _ _ h15) (by kernel_rfl) (by kernel_rfl) ?_
              refine TI.runA 3 [5, 8, 9, 12, 45] (a2 := (S32_11)) (by kernel_rfl) ?_
              refine TI.done (by kernel_rfl) ?_
              exact hK
          | false =>
            replace hm31 := of_neg hm31 rfl
            have hm31 := Option.some.inj hm31
            subst hm31
            refine TS.regionP (by kernel_rfl) ?_
            refine TI.runA 1 [5, 8, 9, 12, 13, 46] (a2 := (S32_1 p4 p7 p5 p6)) (by kernel_rfl) ?_
            refine TI.op (q := { val := .bool true }) (q_conv (e := (w64 ((w64 (p4 * p7)) - (w64 (p5 * p6)))) != 1) (b := true) (by kernel_rfl) hc8) [5, 8, 9, 12, 13, 47] [0, 3, 4, 6] (a2 := (S32_4 p4 p7 p5 p6)) (h2 := (H32_0 p0 p1 p2 p3 p8 p9 p10 p11 r4 r6 p4 p5 p6 p7)) (by kernel_rfl) ?_
            refine TI.runA 2 [5, 8, 9, 12, 48, 49] (a2 := (S32_5 p4 p7 p5 p6)) (by kernel_rfl) ?_
            refine TI.op (q := { val := .bool false }) (q_conv (e := (w64 ((w64 (p4 * p7)) - (w64 (p5 * p6)))) != (-1)) (b := false) (by kernel_rfl) hc9) [5, 8, 9, 12, 48, 50] [0, 3, 4, 6] (a2 := (S32_9)) (h2 := (H32_0 p0 p1 p2 p3 p8 p9 p10 p11 r4 r6 p4 p5 p6 p7)) (by kernel_rfl) ?_
            refine TI.runA 5 [5, 8, 9, 12, 52, 55] (a2 := (S32_7 r4)) (by kernel_rfl) ?_
            refine TI.callF (C58 _ _ _ _ h11) (by kernel_rfl) (by kernel_rfl) ?_
            refine TI.runA 6 [5, 8, 9, 12, 59, 62] (a2 := (S32_8 r6)) (by kernel_rfl) ?_
            refine TI.callF (C58 _ _ _ _ h13) (by kernel_rfl) (by kernel_rfl) ?_
            refine TI.runA 9 [5, 8, 9, 12, 45] (a2 := (S32_11)) (by kernel_rfl) ?_
            refine TI.done (by kernel_rfl) ?_
            exact hK
        | false =>
          replace hm31 := of_neg hm31 rfl
          have hm31 := Option.some.inj hm31
          subst hm31
          refine TS.regionP (by kernel_rfl) ?_
          refine TI.runA 1 [5, 8, 9, 12, 13, 46] (a2 := (S32_1 p4 p7 p5 p6)) (by kernel_rfl) ?_
          refine TI.op (q := { val := .bool true }) (q_conv (e := (w64 ((w64 (p4 * p7)) - (w64 (p5 * p6)))) != 1) (b := true) (by kernel_rfl) hc8) [5, 8, 9, 12, 13, 47] [0, 3, 4, 6] (a2 := (S32_4 p4 p7 p5 p6)) (h2 := (H32_0 p0 p1 p2 p3 p8 p9 p10 p11 r4 r6 p4 p5 p6 p7)) (by kernel_rfl) ?_
          refine TI.runA 2 [5, 8, 9, 12, 48, 49] (a2 := (S32_5 p4 p7 p5 p6)) (by kernel_rfl) ?_
          refine TI.op (q := { val := .bool false }) (q_conv (e := (w64 ((w64 (p4 * p7)) - (w64 (p5 * p6)))) != (-1)) (b := false) (by kernel_rfl) hc9) [5, 8, 9, 12, 48, 50] [0, 3, 4, 6] (a2 := (S32_9)) (h2 := (H32_0 p0 p1 p2 p3 p8 p9 p10 p11 r4 r6 p4 p5 p6 p7)) (by kernel_rfl) ?_
          refine TI.runA 5 [5, 8, 9, 12, 52, 55] (a2 := (S32_7 r4)) (by kernel_rfl) ?_
          refine TI.callF (C58 _ _ _ _ h11) (by kernel_rfl) (by kernel_rfl) ?_
          refine TI.runA 16 [5, 8, 9, 12, 45] (a2 := (S32_11)) (by kernel_rfl) ?_
          refine TI.done (by kernel_rfl) ?_
          exact hK
    · replace hm31 := of_neg hm31 hc8
      have hX := of_do hm31
      clear hm31
      obtain ⟨r16, h17, hm31⟩ := hX
      cases r16 with
      | true =>
        replace hm31 := of_pos hm31 rfl
        have hX := of_do hm31
        clear hm31
        obtain ⟨r18, h19, hm31⟩ := hX
        cases r18 with
        | true =>
          replace hm31 := of_pos hm31 rfl
          have hX := of_do hm31
          clear hm31
          obtain ⟨r20, h21, hm31⟩ := hX
          cases r20 with
          | true =>
            replace hm31 := of_pos hm31 rfl
            have hm31 := Option.some.inj hm31
            subst hm31
            refine TS.regionP (by kernel_rfl) ?_
            refine TI.runA 1 [5, 8, 9, 12, 13, 46] (a2 := (S32_1 p4 p7 p5 p6)) (by kernel_rfl) ?_
            refine TI.op (q := { val := .bool false }) (q_conv (e := (w64 ((w64 (p4 * p7)) - (w64 (p5 * p6)))) != 1) (b := false) (by kernel_rfl) hc8) [5, 8, 9, 12, 13, 47] [0, 3, 4, 6] (a2 := (S32_3 p4 p7 p5 p6)) (h2 := (H32_0 p0 p1 p2 p3 p8 p9 p10 p11 r4 r6 p4 p5 p6 p7)) (by kernel_rfl) ?_
            refine TI.runA 8 [5, 8, 9, 12, 52, 55] (a2 := (S32_7 r4)) (by kernel_rfl) ?_
            refine TI.callF (C58 _ _ _ _ h17) (by kernel_rfl) (by kernel_rfl) ?_
            refine TI.runA 6 [5, 8, 9, 12, 59, 62] (a2 := (S32_8 r6)) (by kernel_rfl) ?_
            refine TI.callF (C58 _ _ _ _ h19) (by kernel_rfl) (by kernel_rfl) ?_
            refine TI.runA 5 [5, 8, 9, 12, 66, 68] (a2 := (S32_6 r4 r6)) (by kernel_rfl) ?_
            refine TI.callF (C50 _ _ _ _ _ h21) (by kernel_rfl) (by kernel_rfl) ?_
            refine TI.runA 3 [5, 8, 9, 12, 45] (a2 := (S32_10)) (by kernel_rfl) ?_
            refine TI.done (by kernel_rfl) ?_
            exact hK
          | false =>
            replace hm31 := of_neg hm31 rfl
            have hm31 := Option.some.inj hm31
            subst hm31
            refine TS.regionP (by kernel_rfl) ?_
            refine TI.runA 1 [5, 8, 9, 12, 13, 46] (a2 := (S32_1 p4 p7 p5 p6)) (by kernel_rfl) ?_
            refine TI.op (q := { val := .bool false }) (q_conv (e := (w64 ((w64 (p4 * p7)) - (w64 (p5 * p6)))) != 1) (b := false) (by kernel_rfl) hc8) [5, 8, 9, 12, 13, 47] [0, 3, 4, 6] (a2 := (S32_3 p4 p7 p5 p6)) (h2 := (H32_0 p0 p1 p2 p3 p8 p9 p10 p11 r4 r6 p4 p5 p6 p7)) (by kernel_rfl) ?_
            refine TI.runA 8 [5, 8, 9, 12, 52, 55] (a2 := (S32_7 r4)) (by kernel_rfl) ?_
            refine TI.callF (C58 _ _ _ _ h17) (by kernel_rfl) (by kernel_rfl) ?_
            refine TI.runA 6 [5, 8, 9, 12, 59, 62] (a2 := (S32_8 r6)) (by kernel_rfl) ?_
            refine TI.callF (C58 _ _ _ _ h19) (by kernel_rfl) (by kernel_rfl) ?_
            refine TI.runA 5 [5, 8, 9, 12, 66, 68] (a2 := (S32_6 r4 r6)) (by kernel_rfl) ?_
            refine TI.callF (C50 _ _ _ _ _ h21) (by kernel_rfl) (by kernel_rfl) ?_
            refine TI.runA 3 [5, 8, 9, 12, 45] (a2 := (S32_11)) (by kernel_rfl) ?_
            refine TI.done (by kernel_rfl) ?_
            exact hK
        | false =>
          replace hm31 := of_neg hm31 rfl
          have hm31 := Option.some.inj hm31
          subst hm31
          refine TS.regionP (by kernel_rfl) ?_
          refine TI.runA 1 [5, 8, 9, 12, 13, 46] (a2 := (S32_1 p4 p7 p5 p6)) (by kernel_rfl) ?_
          refine TI.op (q := { val := .bool false }) (q_conv (e := (w64 ((w64 (p4 * p7)) - (w64 (p5 * p6)))) != 1) (b := false) (by kernel_rfl) hc8) [5, 8, 9, 12, 13, 47] [0, 3, 4, 6] (a2 := (S32_3 p4 p7 p5 p6)) (h2 := (H32_0 p0 p1 p2 p3 p8 p9 p10 p11 r4 r6 p4 p5 p6 p7)) (by kernel_rfl) ?_
          refine TI.runA 8 [5, 8, 9, 12, 52, 55] (a2 := (S32_7 r4)) (by kernel_rfl) ?_
          refine TI.callF (C58 _ _ _ _ h17) (by kernel_rfl) (by kernel_rfl) ?_
          refine TI.runA 6 [5, 8, 9, 12, 59, 62] (a2 := (S32_8 r6)) (by kernel_rfl) ?_
          refine TI.callF (C58 _ _ _ _ h19) (by kernel_rfl) (by kernel_rfl) ?_
          refine TI.runA 9 [5, 8, 9, 12, 45] (a2 := (S32_11)) (by kernel_rfl) ?_
          refine TI.done (by kernel_rfl) ?_
          exact hK
      | false =>
        replace hm31 := of_neg hm31 rfl
        have hm31 := Option.some.inj hm31
        subst hm31
        refine TS.regionP (by kernel_rfl) ?_
        refine TI.runA 1 [5, 8, 9, 12, 13, 46] (a2 := (S32_1 p4 p7 p5 p6)) (by kernel_rfl) ?_
        refine TI.op (q := { val := .bool false }) (q_conv (e := (w64 ((w64 (p4 * p7)) - (w64 (p5 * p6)))) != 1) (b := false) (by kernel_rfl) hc8) [5, 8, 9, 12, 13, 47] [0, 3, 4, 6] (a2 := (S32_3 p4 p7 p5 p6)) (h2 := (H32_0 p0 p1 p2 p3 p8 p9 p10 p11 r4 r6 p4 p5 p6 p7)) (by kernel_rfl) ?_
        refine TI.runA 8 [5, 8, 9, 12, 52, 55] (a2 := (S32_7 r4)) (by kernel_rfl) ?_
        refine TI.callF (C58 _ _ _ _ h17) (by kernel_rfl) (by kernel_rfl) ?_
        refine TI.runA 16 [5, 8, 9, 12, 45] (a2 := (S32_11)) (by kernel_rfl) ?_
        refine TI.done (by kernel_rfl) ?_
        exact hK
theorem C32 (p0 : Int) (p1 : Int) (p2 : Int) (p3 : Int) (p4 : Int) (p5 : Int) (p6 : Int) (p7 : Int) (p8 : Int) (p9 : Int) (p10 : Int) (p11 : Int) (r : Int) (hF : F32 p0 p1 p2 p3 p4 p5 p6 p7 p8 p9 p10 p11 = some r) : PureSim Try.prog 32 [ag [iv p0, iv p1, iv p2, iv p3], ag [iv p4, iv p5], ag [iv p6, iv p7], ag [iv p8, iv p9], ag [iv p10, iv p11]] [] (V32 0 r) (N32 0 r) :=
  PureSim.of_Fin Try.func32 (c := c32) (by kernel_rfl) (by kernel_rfl) 0 rfl [0, 1, 2, 3, 4] [] (by kernel_rfl) (B32 p0 p1 p2 p3 p4 p5 p6 p7 p8 p9 p10 p11 r hF)

-- agonic/agoniclaw06.vector
noncomputable def c43 : Code := Try.f43.code
def F43 (p0 : Int) (p1 : Int) : Option (Int × Int) :=
  some (p0, p1)
def V43 (b : Nat) (r : (Int × Int)) : Value := ag [iv r.1, iv r.2]
def N43 (b : Nat) (r : (Int × Int)) : List Blk := []
theorem B43 (p0 : Int) (p1 : Int) (r : (Int × Int)) (hF : F43 p0 p1 = some r) : TS Try.prog 0 0 c43 (st 8 [(0, iv p0), (1, iv p1)]) [] (NX Try.prog 0 0 [] (FinP Try.prog Try.f43 0 (V43 0 r) (N43 0 r))) := by
  unfold F43 at hF
  refine TS.seqP (by kernel_rfl) ?_
  refine TS.regionP (by kernel_rfl) ?_
  refine TI.run 1 [0, 1, 4] [0] (a2 := (st 8 [(0, iv p0), (1, iv p1), (4, pt 0 0)])) (h2 := [cl 23 [iv 0, iv 0]]) (by kernel_rfl) ?_
  refine TI.done (by kernel_rfl) ?_
  refine NX.sq ?_
  refine TS.seqP (by kernel_rfl) ?_
  refine TS.regionP (by kernel_rfl) ?_
  refine TI.run 4 [4] [0] (a2 := (st 8 [(4, pt 0 0)])) (h2 := [cl 23 [iv p0, iv p1]]) (by kernel_rfl) ?_
  refine TI.done (by kernel_rfl) ?_
  refine NX.sq ?_
  refine TS.ret' (by kernel_rfl) ?_
  have hF := Option.some.inj hF
  subst hF
  exact ⟨.inr rfl, rfl, ag [iv p0, iv p1], by kernel_rfl, WkV.flat0 (by kernel_rfl) (Nat.le_of_ble_eq_true rfl)⟩
theorem C43 (p0 : Int) (p1 : Int) (r : (Int × Int)) (hF : F43 p0 p1 = some r) : PureSim Try.prog 43 [iv p0, iv p1] [] (V43 0 r) (N43 0 r) :=
  PureSim.of_Fin Try.func43 (c := c43) (by kernel_rfl) (by kernel_rfl) 0 rfl [0, 1] [] (by kernel_rfl) (B43 p0 p1 r hF)

-- agonic/agoniclaw06.kit
noncomputable def c49 : Code := Try.f49.code
def F49 (p0 : Int) (p1 : Int) (p2 : Int) (p3 : Int) : Option ((Int × Int) × (Int × Int)) :=
  F43 p0 p1 >>= fun r1 =>
  F43 p2 p3 >>= fun r3 =>
  some ((r1.1, r1.2), (r3.1, r3.2))
def V49 (b : Nat) (r : ((Int × Int) × (Int × Int))) : Value := ag [iv r.1.1, iv r.1.2, iv r.2.1, iv r.2.2]
def N49 (b : Nat) (r : ((Int × Int) × (Int × Int))) : List Blk := []
theorem B49 (p0 : Int) (p1 : Int) (p2 : Int) (p3 : Int) (r : ((Int × Int) × (Int × Int))) (hF : F49 p0 p1 p2 p3 = some r) : TS Try.prog 0 0 c49 (st 16 [(0, iv p0), (1, iv p1), (2, iv p2), (3, iv p3)]) [] (NX Try.prog 0 0 [] (FinP Try.prog Try.f49 0 (V49 0 r) (N49 0 r))) := by
  unfold F49 at hF
  refine TS.seqP (by kernel_rfl) ?_
  refine TS.regionP (by kernel_rfl) ?_
  refine TI.run 1 [0, 1, 2, 3, 8] [0] (a2 := (st 16 [(0, iv p0), (1, iv p1), (2, iv p2), (3, iv p3), (8, pt 0 0)])) (h2 := [cl 25 [iv 0, iv 0, iv 0, iv 0]]) (by kernel_rfl) ?_
  refine TI.done (by kernel_rfl) ?_
  refine NX.sq ?_
  refine TS.seqP (by kernel_rfl) ?_
  have hX := of_do hF
  clear hF
  obtain ⟨r1, h2, hF⟩ := hX
  have hX := of_do hF
  clear hF
  obtain ⟨r3, h4, hF⟩ := hX
  refine TS.regionP (by kernel_rfl) ?_
  refine TI.runA 2 [2, 3, 8, 9, 10] (a2 := (st 16 [(2, iv p2), (3, iv p3), (8, pt 0 0), (9, iv p0), (10, iv p1)])) (by kernel_rfl) ?_
  refine TI.callF (C43 _ _ _ h2) (by kernel_rfl) (by kernel_rfl) ?_
  refine TI.runA 2 [8, 11, 12, 13] (a2 := (st 16 [(8, pt 0 0), (11, ag [iv r1.1, iv r1.2]), (12, iv p2), (13, iv p3)])) (by kernel_rfl) ?_
  refine TI.callF (C43 _ _ _ h4) (by kernel_rfl) (by kernel_rfl) ?_
  refine TI.run 2 [8] [0] (a2 := (st 16 [(8, pt 0 0)])) (h2 := [cl 25 [iv r1.1, iv r1.2, iv r3.1, iv r3.2]]) (by kernel_rfl) ?_
  refine TI.done (by kernel_rfl) ?_
  refine NX.sq ?_
  refine TS.ret' (by kernel_rfl) ?_
  have hF := Option.some.inj hF
  subst hF
  exact ⟨.inr rfl, rfl, ag [iv r1.1, iv r1.2, iv r3.1, iv r3.2], by kernel_rfl, WkV.flat0 (by kernel_rfl) (Nat.le_of_ble_eq_true rfl)⟩
theorem C49 (p0 : Int) (p1 : Int) (p2 : Int) (p3 : Int) (r : ((Int × Int) × (Int × Int))) (hF : F49 p0 p1 p2 p3 = some r) : PureSim Try.prog 49 [iv p0, iv p1, iv p2, iv p3] [] (V49 0 r) (N49 0 r) :=
  PureSim.of_Fin Try.func49 (c := c49) (by kernel_rfl) (by kernel_rfl) 0 rfl [0, 1, 2, 3] [] (by kernel_rfl) (B49 p0 p1 p2 p3 r hF)

-- agonic/agoniclaw06.area
noncomputable def c45 : Code := Try.f45.code
def F45 (p0 : Int) (p1 : Int) (p2 : Int) (p3 : Int) : Option Int :=
  some (mx (w64 ((w64 (p0 * p3)) - (w64 (p1 * p2)))) (w64 (0 - (w64 ((w64 (p0 * p3)) - (w64 (p1 * p2))))))) >>= fun o1 =>
  some o1
def V45 (b : Nat) (r : Int) : Value := iv r
def N45 (b : Nat) (r : Int) : List Blk := []
theorem B45 (p0 : Int) (p1 : Int) (p2 : Int) (p3 : Int) (r : Int) (hF : F45 p0 p1 p2 p3 = some r) : TS Try.prog 0 0 c45 (st 21 [(0, ag [iv p0, iv p1]), (1, ag [iv p2, iv p3])]) [] (NX Try.prog 0 0 [] (FinP Try.prog Try.f45 0 (V45 0 r) (N45 0 r))) := by
  unfold F45 at hF
  refine TS.seqP (by kernel_rfl) ?_
  refine TS.regionP (by kernel_rfl) ?_
  refine TI.run 3 [2, 3] [0, 1] (a2 := (st 21 [(2, pt 0 0), (3, pt 1 0)])) (h2 := [cl 23 [iv p0, iv p1], cl 23 [iv p2, iv p3]]) (by kernel_rfl) ?_
  refine TI.done (by kernel_rfl) ?_
  refine NX.sq ?_
  refine TS.seqP (by kernel_rfl) ?_
  refine TS.regionP (by kernel_rfl) ?_
  refine TI.run 12 [5] [] (a2 := (st 21 [(5, iv (w64 ((w64 (p0 * p3)) - (w64 (p1 * p2)))))])) (h2 := [.dead, .dead]) (by kernel_rfl) ?_
  refine TI.done (by kernel_rfl) ?_
  refine NX.sq ?_
  refine TS.seqP (by kernel_rfl) ?_
  have hX := of_do hF
  clear hF
  obtain ⟨o1, h2, hF⟩ := hX
  replace h2 := Option.some.inj h2
  refine TS.regionP (by kernel_rfl) ?_
  refine TI.runA 3 [17, 19] (a2 := (st 21 [(17, iv (w64 ((w64 (p0 * p3)) - (w64 (p1 * p2))))), (19, iv (w64 (0 - (w64 ((w64 (p0 * p3)) - (w64 (p1 * p2)))))))])) (by kernel_rfl) ?_
  refine TI.op (q := { val := iv o1 }) (q_convI (e := mx (w64 ((w64 (p0 * p3)) - (w64 (p1 * p2)))) (w64 (0 - (w64 ((w64 (p0 * p3)) - (w64 (p1 * p2))))))) (y := o1) (by kernel_rfl) h2) [20] [] (a2 := (st 21 [(20, iv o1)])) (h2 := [.dead, .dead]) (by kernel_rfl) ?_
  refine TI.runA 1 [4] (a2 := (st 21 [(4, iv o1)])) (by kernel_rfl) ?_
  refine TI.done (by kernel_rfl) ?_
  refine NX.sq ?_
  refine TS.ret' (by kernel_rfl) ?_
  have hF := Option.some.inj hF
  subst hF
  exact ⟨.inr rfl, rfl, iv o1, by kernel_rfl, WkV.flat0 (by kernel_rfl) (Nat.le_of_ble_eq_true rfl)⟩
theorem C45 (p0 : Int) (p1 : Int) (p2 : Int) (p3 : Int) (r : Int) (hF : F45 p0 p1 p2 p3 = some r) : PureSim Try.prog 45 [ag [iv p0, iv p1], ag [iv p2, iv p3]] [] (V45 0 r) (N45 0 r) :=
  PureSim.of_Fin Try.func45 (c := c45) (by kernel_rfl) (by kernel_rfl) 0 rfl [0, 1] [] (by kernel_rfl) (B45 p0 p1 p2 p3 r hF)

-- (agonic/agoniclaw06.Ship).made
noncomputable def c36 : Code := Try.f36.code
def H36_0 (p0 : Int) (p1 : Int) (p2 : Int) (p3 : Int) (p4 : Int) (p5 : Int) (m12 : (Int × Int × Int × Int)) : List Blk := [cl 77 [.int .i8 p0, .int .i8 p1, .int .i8 p2, .int .i8 p3, .int .i16 p4, .int .i16 p5], cl 25 [iv 0, iv 0, iv 0, iv 0], cl 23 [iv 0, iv 0], cl 25 [iv m12.1, iv m12.2.1, iv m12.2.2.1, iv m12.2.2.2]]
def S36_1  : CAct := (st 45 [(1, pt 0 0), (2, pt 1 0), (3, pt 2 0), (4, pt 3 0)])
def F36 (p0 : Int) (p1 : Int) (p2 : Int) (p3 : Int) (p4 : Int) (p5 : Int) : Option (((Int × Int) × (Int × Int)) × (Int × Int)) :=
  F49 (Int.tmod (w64 p0) 13) (Int.tmod (w64 p1) 13) (Int.tmod (w64 p2) 13) (Int.tmod (w64 p3) 13) >>= fun r1 =>
  F45 r1.1.1 r1.1.2 r1.2.1 r1.2.2 >>= fun r3 =>
  (
    if r3 == 0 then
      F49 3 1 1 4 >>= fun r17 =>
      some (r17.1.1, r17.1.2, r17.2.1, r17.2.2)
    else
      some (r1.1.1, r1.1.2, r1.2.1, r1.2.2)
  : Option (Int × Int × Int × Int)) >>= fun m12 =>
  F43 (Int.tmod (w64 p4) 200) (Int.tmod (w64 p5) 200) >>= fun r14 =>
  some (((m12.1, m12.2.1), (m12.2.2.1, m12.2.2.2)), (r14.1, r14.2))
def V36 (b : Nat) (r : (((Int × Int) × (Int × Int)) × (Int × Int))) : Value := .tuple ⟨[ag [iv r.1.1.1, iv r.1.1.2, iv r.1.2.1, iv r.1.2.2], ag [iv r.2.1, iv r.2.2]]⟩
def N36 (b : Nat) (r : (((Int × Int) × (Int × Int)) × (Int × Int))) : List Blk := []
theorem B36 (p0 : Int) (p1 : Int) (p2 : Int) (p3 : Int) (p4 : Int) (p5 : Int) (r : (((Int × Int) × (Int × Int)) × (Int × Int))) (hF : F36 p0 p1 p2 p3 p4 p5 = some r) : TS Try.prog 0 0 c36 (st 45 [(0, ag [.int .i8 p0, .int .i8 p1, .int .i8 p2, .int .i8 p3, .int .i16 p4, .int .i16 p5])]) [] (NX Try.prog 0 0 [] (FinP Try.prog Try.f36 0 (V36 0 r) (N36 0 r))) := by
  unfold F36 at hF
  refine TS.seqP (by kernel_rfl) ?_
  refine TS.regionP (by kernel_rfl) ?_
  refine TI.run 3 [1, 2, 3] [0, 1, 2] (a2 := (st 45 [(1, pt 0 0), (2, pt 1 0), (3, pt 2 0)])) (h2 := [cl 77 [.int .i8 p0, .int .i8 p1, .int .i8 p2, .int .i8 p3, .int .i16 p4, .int .i16 p5], cl 25 [iv 0, iv 0, iv 0, iv 0], cl 23 [iv 0, iv 0]]) (by kernel_rfl) ?_
  refine TI.done (by kernel_rfl) ?_
  refine NX.sq ?_
  refine TS.seqP (by kernel_rfl) ?_
  have hX := of_do hF
  clear hF
  obtain ⟨r1, h2, hF⟩ := hX
  refine TS.regionP (by kernel_rfl) ?_
  refine TI.runA 20 [1, 2, 3, 9, 14, 19, 24] (a2 := (st 45 [(1, pt 0 0), (2, pt 1 0), (3, pt 2 0), (9, iv (Int.tmod (w64 p0) 13)), (14, iv (Int.tmod (w64 p1) 13)), (19, iv (Int.tmod (w64 p2) 13)), (24, iv (Int.tmod (w64 p3) 13))])) (by kernel_rfl) ?_
  refine TI.callF (C49 _ _ _ _ _ h2) (by kernel_rfl) (by kernel_rfl) ?_
  refine TI.run 2 [1, 2, 3, 4] [0, 1, 2, 3] (a2 := (S36_1)) (h2 := [cl 77 [.int .i8 p0, .int .i8 p1, .int .i8 p2, .int .i8 p3, .int .i16 p4, .int .i16 p5], cl 25 [iv 0, iv 0, iv 0, iv 0], cl 23 [iv 0, iv 0], cl 25 [iv r1.1.1, iv r1.1.2, iv r1.2.1, iv r1.2.2]]) (by kernel_rfl) ?_
  refine TI.done (by kernel_rfl) ?_
  refine NX.sq ?_
  refine TS.seqP (by kernel_rfl) ?_
  refine TS.seqP (by kernel_rfl) ?_
  have hX := of_do hF
  clear hF
  obtain ⟨r3, h4, hF⟩ := hX
  refine TS.regionP (by kernel_rfl) ?_
  refine TI.runA 4 [1, 2, 3, 4, 27, 29] (a2 := (st 45 [(1, pt 0 0), (2, pt 1 0), (3, pt 2 0), (4, pt 3 0), (27, ag [iv r1.1.1, iv r1.1.2]), (29, ag [iv r1.2.1, iv r1.2.2])])) (by kernel_rfl) ?_
  refine TI.callF (C45 _ _ _ _ _ h4) (by kernel_rfl) (by kernel_rfl) ?_
  refine TI.runA 1 [1, 2, 3, 4, 31] (a2 := (st 45 [(1, pt 0 0), (2, pt 1 0), (3, pt 2 0), (4, pt 3 0), (31, .bool (r3 == 0))])) (by kernel_rfl) ?_
  refine TI.done (by kernel_rfl) ?_
  refine NX.sq ?_
  have hX := of_do hF
  clear hF
  obtain ⟨m12, hm13, hF⟩ := hX
  have hK : NX Try.prog 0 0 [.sq c36.s2.s2.s2] (FinP Try.prog Try.f36 0 (V36 0 r) (N36 0 r)) .normal (S36_1) (H36_0 p0 p1 p2 p3 p4 p5 m12) := by
    refine NX.sq ?_
    refine TS.seqP (by kernel_rfl) ?_
    have hX := of_do hF
    clear hF
    obtain ⟨r14, h15, hF⟩ := hX
    have hT : ∀ e ∈ ([⟨43, [iv (Int.tmod (w64 p4) 200), iv (Int.tmod (w64 p5) 200)], (H36_0 p0 p1 p2 p3 p4 p5 m12), ag [iv r14.1, iv r14.2], []⟩] : List Entry), PureSim Try.prog e.g e.args e.h e.v e.new := by
      intro e he
      simp only [List.mem_cons, List.not_mem_nil, or_false] at he
      rcases he with rfl
      · exact PureSim.anyK (C43 _ _ _ h15) (by kernel_rfl)
    refine TS.drawP [⟨43, [iv (Int.tmod (w64 p4) 200), iv (Int.tmod (w64 p5) 200)], (H36_0 p0 p1 p2 p3 p4 p5 m12), ag [iv r14.1, iv r14.2], []⟩] hT mixed (by kernel_rfl) 12 (by kernel_rfl) [2, 3] [1, 2] (a2 := (st 45 [(2, pt 1 0), (3, pt 2 0)])) (h2 := [.dead, cl 25 [iv m12.1, iv m12.2.1, iv m12.2.2.1, iv m12.2.2.2], cl 23 [iv r14.1, iv r14.2], .dead]) ?_ ?_
    · refine QJ.run (s1 := (qs (st 45 [(1, pt 0 0), (2, pt 1 0), (3, pt 2 0), (4, pt 3 0), (33, ag [iv m12.1, iv m12.2.1, iv m12.2.2.1, iv m12.2.2.2]), (34, pt 0 4), (35, pt 0 4), (36, .int .i16 p4), (37, iv (w64 p4)), (38, iv (Int.tmod (w64 p4) 200)), (39, pt 0 4), (40, pt 0 5), (41, .int .i16 p5), (42, iv (w64 p5)), (43, iv (Int.tmod (w64 p5) 200))]) (H36_0 p0 p1 p2 p3 p4 p5 m12) [] [])) 11 (by kernel_rfl) (by kernel_rfl) ?_
      refine QJ.op (q := { val := ag [iv r14.1, iv r14.2], new := [] }) (by decide) (qOf_call (g := 43) (args := [iv (Int.tmod (w64 p4) 200), iv (Int.tmod (w64 p5) 200)]) (by kernel_rfl) lookC_hit) ?_
      refine QJ.done (by kernel_rfl) ⟨rfl, ?_⟩
      refine SJ.last (by kernel_rfl)
    refine TS.ret' (by kernel_rfl) ?_
    have hF := Option.some.inj hF
    subst hF
    exact ⟨.inr rfl, rfl, .tuple ⟨[ag [iv m12.1, iv m12.2.1, iv m12.2.2.1, iv m12.2.2.2], ag [iv r14.1, iv r14.2]]⟩, by kernel_rfl, WkV.flat0 (by kernel_rfl) (Nat.le_of_ble_eq_true rfl)⟩
  clear hF
  have hF := hm13
  clear hm13
  refine TS.start ?_
  refine TS.condP (o := (.tmp 31)) (b := r3 == 0) (by kernel_rfl) (by kernel_rfl) (fun hc16 => ?_) (fun hc16 => ?_)
  · replace hF := of_pos hF hc16
    have hX := of_do hF
    clear hF
    obtain ⟨r17, h18, hF⟩ := hX
    refine TS.regionP (by kernel_rfl) ?_
    refine TI.callF (C49 _ _ _ _ _ h18) (by kernel_rfl) (by kernel_rfl) ?_
    refine TI.run 1 [1, 2, 3, 4] [0, 1, 2, 3] (a2 := (S36_1)) (h2 := [cl 77 [.int .i8 p0, .int .i8 p1, .int .i8 p2, .int .i8 p3, .int .i16 p4, .int .i16 p5], cl 25 [iv 0, iv 0, iv 0, iv 0], cl 23 [iv 0, iv 0], cl 25 [iv r17.1.1, iv r17.1.2, iv r17.2.1, iv r17.2.2]]) (by kernel_rfl) ?_
    refine TI.done (by kernel_rfl) ?_
    have hF := Option.some.inj hF
    subst hF
    exact TS.weak (Wk.anew (base := 0) (L := 0) (f := [0, 1, 2, 3]) (by decide) (by decide) (Nat.le_of_ble_eq_true rfl) rfl (.cons (At.blk (by kernel_rfl) (RnB.lit (.cons (.flat (by kernel_rfl)) (.cons (.flat (by kernel_rfl)) (.cons (.flat (by kernel_rfl)) (.cons (.flat (by kernel_rfl)) (.cons (.flat (by kernel_rfl)) (.cons (.flat (by kernel_rfl)) .nil)))))))) (.cons (At.blk (by kernel_rfl) (RnB.lit (.cons (.flat (by kernel_rfl)) (.cons (.flat (by kernel_rfl)) (.cons (.flat (by kernel_rfl)) (.cons (.flat (by kernel_rfl)) .nil)))))) (.cons (At.blk (by kernel_rfl) (RnB.lit (.cons (.flat (by kernel_rfl)) (.cons (.flat (by kernel_rfl)) .nil)))) (.cons (At.blk (by kernel_rfl) (RnB.lit (.cons (.flat (by kernel_rfl)) (.cons (.flat (by kernel_rfl)) (.cons (.flat (by kernel_rfl)) (.cons (.flat (by kernel_rfl)) .nil)))))) (.nil _))))) (LRn.stx [1, 2, 3, 4] [pt 0 0, pt 1 0, pt 2 0, pt 3 0] [pt 0 0, pt 1 0, pt 2 0, pt 3 0] (.cons (Rn.ptr _ _ _ (Nat.le_of_ble_eq_true rfl) rfl) (.cons (Rn.ptr _ _ _ (Nat.le_of_ble_eq_true rfl) rfl) (.cons (Rn.ptr _ _ _ (Nat.le_of_ble_eq_true rfl) rfl) (.cons (Rn.ptr _ _ _ (Nat.le_of_ble_eq_true rfl) rfl) .nil)))) (by kernel_rfl) (by kernel_rfl) rfl) rfl rfl) hK
  · replace hF := of_neg hF hc16
    refine TS.skip' (by kernel_rfl) ?_
    have hF := Option.some.inj hF
    subst hF
    exact TS.weak (Wk.anew (base := 0) (L := 0) (f := [0, 1, 2, 3]) (by decide) (by decide) (Nat.le_of_ble_eq_true rfl) rfl (.cons (At.blk (by kernel_rfl) (RnB.lit (.cons (.flat (by kernel_rfl)) (.cons (.flat (by kernel_rfl)) (.cons (.flat (by kernel_rfl)) (.cons (.flat (by kernel_rfl)) (.cons (.flat (by kernel_rfl)) (.cons (.flat (by kernel_rfl)) .nil)))))))) (.cons (At.blk (by kernel_rfl) (RnB.lit (.cons (.flat (by kernel_rfl)) (.cons (.flat (by kernel_rfl)) (.cons (.flat (by kernel_rfl)) (.cons (.flat (by kernel_rfl)) .nil)))))) (.cons (At.blk (by kernel_rfl) (RnB.lit (.cons (.flat (by kernel_rfl)) (.cons (.flat (by kernel_rfl)) .nil)))) (.cons (At.blk (by kernel_rfl) (RnB.lit (.cons (.flat (by kernel_rfl)) (.cons (.flat (by kernel_rfl)) (.cons (.flat (by kernel_rfl)) (.cons (.flat (by kernel_rfl)) .nil)))))) (.nil _))))) (LRn.stx [1, 2, 3, 4] [pt 0 0, pt 1 0, pt 2 0, pt 3 0] [pt 0 0, pt 1 0, pt 2 0, pt 3 0] (.cons (Rn.ptr _ _ _ (Nat.le_of_ble_eq_true rfl) rfl) (.cons (Rn.ptr _ _ _ (Nat.le_of_ble_eq_true rfl) rfl) (.cons (Rn.ptr _ _ _ (Nat.le_of_ble_eq_true rfl) rfl) (.cons (Rn.ptr _ _ _ (Nat.le_of_ble_eq_true rfl) rfl) .nil)))) (by kernel_rfl) (by kernel_rfl) rfl) rfl rfl) hK
theorem C36 (p0 : Int) (p1 : Int) (p2 : Int) (p3 : Int) (p4 : Int) (p5 : Int) (r : (((Int × Int) × (Int × Int)) × (Int × Int))) (hF : F36 p0 p1 p2 p3 p4 p5 = some r) : PureSim Try.prog 36 [ag [.int .i8 p0, .int .i8 p1, .int .i8 p2, .int .i8 p3, .int .i16 p4, .int .i16 p5]] [] (V36 0 r) (N36 0 r) :=
  PureSim.of_Fin Try.func36 (c := c36) (by kernel_rfl) (by kernel_rfl) 0 rfl [0] [] (by kernel_rfl) (B36 p0 p1 p2 p3 p4 p5 r hF)

-- agonic/agoniclaw06.tame
noncomputable def c38 : Code := Try.f38.code
def F38 (p0 : Int) (p1 : Int) : Option Bool :=
  (
    if decide (p0 ≥ (-1000000)) then
      if decide (p0 ≤ 1000000) then
        if decide (p1 ≥ (-1000000)) then
          some (decide (p1 ≤ 1000000))
        else
          some (false)
      else
        some (false)
    else
      some (false)
  : Option Bool) >>= fun m4 =>
  some m4
def V38 (b : Nat) (r : Bool) : Value := .bool r
def N38 (b : Nat) (r : Bool) : List Blk := []
theorem B38 (p0 : Int) (p1 : Int) (r : Bool) (hF : F38 p0 p1 = some r) : TS Try.prog 0 0 c38 (st 21 [(0, ag [iv p0, iv p1])]) [] (NX Try.prog 0 0 [] (FinP Try.prog Try.f38 0 (V38 0 r) (N38 0 r))) := by
  unfold F38 at hF
  refine TS.seqP (by kernel_rfl) ?_
  refine TS.regionP (by kernel_rfl) ?_
  refine TI.run 2 [1] [0] (a2 := (st 21 [(1, pt 0 0)])) (h2 := [cl 27 [iv p0, iv p1]]) (by kernel_rfl) ?_
  refine TI.done (by kernel_rfl) ?_
  refine NX.sq ?_
  refine TS.seqP (by kernel_rfl) ?_
  have hX := of_do hF
  clear hF
  obtain ⟨m4, hm5, hF⟩ := hX
  have hK : NX Try.prog 0 0 [.sq c38.s2.s2] (FinP Try.prog Try.f38 0 (V38 0 r) (N38 0 r)) .normal (st 21 [(2, .bool m4)]) [.dead] := by
    refine NX.sq ?_
    refine TS.ret' (by kernel_rfl) ?_
    have hF := Option.some.inj hF
    subst hF
    exact ⟨.inr rfl, rfl, .bool m4, by kernel_rfl, WkV.flat0 (by kernel_rfl) (Nat.le_of_ble_eq_true rfl)⟩
  rcases Bool.eq_false_or_eq_true (decide (p0 ≥ (-1000000))) with hc1 | hc1
  · replace hm5 := of_pos hm5 hc1
    rcases Bool.eq_false_or_eq_true (decide (p0 ≤ 1000000)) with hc2 | hc2
    · replace hm5 := of_pos hm5 hc2
      rcases Bool.eq_false_or_eq_true (decide (p1 ≥ (-1000000))) with hc3 | hc3
      · replace hm5 := of_pos hm5 hc3
        have hm5 := Option.some.inj hm5
        subst hm5
        refine TS.regionP (by kernel_rfl) ?_
        refine TI.runA 2 [1, 4] (a2 := (st 21 [(1, pt 0 0), (4, iv p0)])) (by kernel_rfl) ?_
        refine TI.op (q := { val := .bool true }) (q_conv (e := decide (p0 ≥ (-1000000))) (b := true) (by kernel_rfl) hc1) [1, 5] [0] (a2 := (st 21 [(1, pt 0 0), (5, .bool true)])) (h2 := [cl 27 [iv p0, iv p1]]) (by kernel_rfl) ?_
        refine TI.runA 3 [1, 6, 8] (a2 := (st 21 [(1, pt 0 0), (6, .bool true), (8, iv p0)])) (by kernel_rfl) ?_
        refine TI.op (q := { val := .bool true }) (q_conv (e := decide (p0 ≤ 1000000)) (b := true) (by kernel_rfl) hc2) [1, 6, 9] [0] (a2 := (st 21 [(1, pt 0 0), (6, .bool true), (9, .bool true)])) (h2 := [cl 27 [iv p0, iv p1]]) (by kernel_rfl) ?_
        refine TI.runA 4 [1, 11, 13] (a2 := (st 21 [(1, pt 0 0), (11, .bool true), (13, iv p1)])) (by kernel_rfl) ?_
        refine TI.op (q := { val := .bool true }) (q_conv (e := decide (p1 ≥ (-1000000))) (b := true) (by kernel_rfl) hc3) [1, 11, 14] [0] (a2 := (st 21 [(1, pt 0 0), (11, .bool true), (14, .bool true)])) (h2 := [cl 27 [iv p0, iv p1]]) (by kernel_rfl) ?_
        refine TI.run 7 [2] [] (a2 := (st 21 [(2, .bool (decide (p1 ≤ 1000000)))])) (h2 := [.dead]) (by kernel_rfl) ?_
        refine TI.done (by kernel_rfl) ?_
        exact hK
      · replace hm5 := of_neg hm5 hc3
        have hm5 := Option.some.inj hm5
        subst hm5
        refine TS.regionP (by kernel_rfl) ?_
        refine TI.runA 2 [1, 4] (a2 := (st 21 [(1, pt 0 0), (4, iv p0)])) (by kernel_rfl) ?_
        refine TI.op (q := { val := .bool true }) (q_conv (e := decide (p0 ≥ (-1000000))) (b := true) (by kernel_rfl) hc1) [1, 5] [0] (a2 := (st 21 [(1, pt 0 0), (5, .bool true)])) (h2 := [cl 27 [iv p0, iv p1]]) (by kernel_rfl) ?_
        refine TI.runA 3 [1, 6, 8] (a2 := (st 21 [(1, pt 0 0), (6, .bool true), (8, iv p0)])) (by kernel_rfl) ?_
        refine TI.op (q := { val := .bool true }) (q_conv (e := decide (p0 ≤ 1000000)) (b := true) (by kernel_rfl) hc2) [1, 6, 9] [0] (a2 := (st 21 [(1, pt 0 0), (6, .bool true), (9, .bool true)])) (h2 := [cl 27 [iv p0, iv p1]]) (by kernel_rfl) ?_
        refine TI.runA 4 [1, 11, 13] (a2 := (st 21 [(1, pt 0 0), (11, .bool true), (13, iv p1)])) (by kernel_rfl) ?_
        refine TI.op (q := { val := .bool false }) (q_conv (e := decide (p1 ≥ (-1000000))) (b := false) (by kernel_rfl) hc3) [1, 11, 14] [0] (a2 := (st 21 [(1, pt 0 0), (11, .bool true), (14, .bool false)])) (h2 := [cl 27 [iv p0, iv p1]]) (by kernel_rfl) ?_
        refine TI.run 7 [2] [] (a2 := (st 21 [(2, .bool false)])) (h2 := [.dead]) (by kernel_rfl) ?_
        refine TI.done (by kernel_rfl) ?_
        exact hK
    · replace hm5 := of_neg hm5 hc2
      have hm5 := Option.some.inj hm5
      subst hm5
      refine TS.regionP (by kernel_rfl) ?_
      refine TI.runA 2 [1, 4] (a2 := (st 21 [(1, pt 0 0), (4, iv p0)])) (by kernel_rfl) ?_
      refine TI.op (q := { val := .bool true }) (q_conv (e := decide (p0 ≥ (-1000000))) (b := true) (by kernel_rfl) hc1) [1, 5] [0] (a2 := (st 21 [(1, pt 0 0), (5, .bool true)])) (h2 := [cl 27 [iv p0, iv p1]]) (by kernel_rfl) ?_
      refine TI.runA 3 [1, 6, 8] (a2 := (st 21 [(1, pt 0 0), (6, .bool true), (8, iv p0)])) (by kernel_rfl) ?_
      refine TI.op (q := { val := .bool false }) (q_conv (e := decide (p0 ≤ 1000000)) (b := false) (by kernel_rfl) hc2) [1, 6, 9] [0] (a2 := (st 21 [(1, pt 0 0), (6, .bool true), (9, .bool false)])) (h2 := [cl 27 [iv p0, iv p1]]) (by kernel_rfl) ?_
      refine TI.run 12 [2] [] (a2 := (st 21 [(2, .bool false)])) (h2 := [.dead]) (by kernel_rfl) ?_
      refine TI.done (by kernel_rfl) ?_
      exact hK
  · replace hm5 := of_neg hm5 hc1
    have hm5 := Option.some.inj hm5
    subst hm5
    refine TS.regionP (by kernel_rfl) ?_
    refine TI.runA 2 [1, 4] (a2 := (st 21 [(1, pt 0 0), (4, iv p0)])) (by kernel_rfl) ?_
    refine TI.op (q := { val := .bool false }) (q_conv (e := decide (p0 ≥ (-1000000))) (b := false) (by kernel_rfl) hc1) [1, 5] [0] (a2 := (st 21 [(1, pt 0 0), (5, .bool false)])) (h2 := [cl 27 [iv p0, iv p1]]) (by kernel_rfl) ?_
    refine TI.run 16 [2] [] (a2 := (st 21 [(2, .bool false)])) (h2 := [.dead]) (by kernel_rfl) ?_
    refine TI.done (by kernel_rfl) ?_
    exact hK
theorem C38 (p0 : Int) (p1 : Int) (r : Bool) (hF : F38 p0 p1 = some r) : PureSim Try.prog 38 [ag [iv p0, iv p1]] [] (V38 0 r) (N38 0 r) :=
  PureSim.of_Fin Try.func38 (c := c38) (by kernel_rfl) (by kernel_rfl) 0 rfl [0] [] (by kernel_rfl) (B38 p0 p1 r hF)

-- agonic/agoniclaw06.pull
noncomputable def c40 : Code := Try.f40.code
def F40 (p0 : Int) (p1 : Int) (p2 : Int) (p3 : Int) (p4 : Int) (p5 : Int) : Option (Int × Int) :=
  F43 (w64 ((w64 (p4 * p0)) + (w64 (p5 * p2)))) (w64 ((w64 (p4 * p1)) + (w64 (p5 * p3)))) >>= fun r1 =>
  some (r1.1, r1.2)
def V40 (b : Nat) (r : (Int × Int)) : Value := ag [iv r.1, iv r.2]
def N40 (b : Nat) (r : (Int × Int)) : List Blk := []
theorem B40 (p0 : Int) (p1 : Int) (p2 : Int) (p3 : Int) (p4 : Int) (p5 : Int) (r : (Int × Int)) (hF : F40 p0 p1 p2 p3 p4 p5 = some r) : TS Try.prog 0 0 c40 (st 32 [(0, ag [iv p0, iv p1, iv p2, iv p3]), (1, ag [iv p4, iv p5])]) [] (NX Try.prog 0 0 [] (FinP Try.prog Try.f40 0 (V40 0 r) (N40 0 r))) := by
  unfold F40 at hF
  refine TS.seqP (by kernel_rfl) ?_
  refine TS.regionP (by kernel_rfl) ?_
  refine TI.run 3 [2, 3, 4] [0, 1, 2] (a2 := (st 32 [(2, pt 0 0), (3, pt 1 0), (4, pt 2 0)])) (h2 := [cl 25 [iv p0, iv p1, iv p2, iv p3], cl 27 [iv p4, iv p5], cl 23 [iv 0, iv 0]]) (by kernel_rfl) ?_
  refine TI.done (by kernel_rfl) ?_
  refine NX.sq ?_
  refine TS.seqP (by kernel_rfl) ?_
  have hX := of_do hF
  clear hF
  obtain ⟨r1, h2, hF⟩ := hX
  refine TS.regionP (by kernel_rfl) ?_
  refine TI.run 26 [4, 17, 30] [2] (a2 := (st 32 [(4, pt 2 0), (17, iv (w64 ((w64 (p4 * p0)) + (w64 (p5 * p2))))), (30, iv (w64 ((w64 (p4 * p1)) + (w64 (p5 * p3)))))])) (h2 := [.dead, .dead, cl 23 [iv 0, iv 0]]) (by kernel_rfl) ?_
  refine TI.callF (C43 _ _ _ h2) (by kernel_rfl) (by kernel_rfl) ?_
  refine TI.run 1 [4] [2] (a2 := (st 32 [(4, pt 2 0)])) (h2 := [.dead, .dead, cl 23 [iv r1.1, iv r1.2]]) (by kernel_rfl) ?_
  refine TI.done (by kernel_rfl) ?_
  refine NX.sq ?_
  refine TS.ret' (by kernel_rfl) ?_
  have hF := Option.some.inj hF
  subst hF
  exact ⟨.inr rfl, rfl, ag [iv r1.1, iv r1.2], by kernel_rfl, WkV.flat0 (by kernel_rfl) (Nat.le_of_ble_eq_true rfl)⟩
theorem C40 (p0 : Int) (p1 : Int) (p2 : Int) (p3 : Int) (p4 : Int) (p5 : Int) (r : (Int × Int)) (hF : F40 p0 p1 p2 p3 p4 p5 = some r) : PureSim Try.prog 40 [ag [iv p0, iv p1, iv p2, iv p3], ag [iv p4, iv p5]] [] (V40 0 r) (N40 0 r) :=
  PureSim.of_Fin Try.func40 (c := c40) (by kernel_rfl) (by kernel_rfl) 0 rfl [0, 1] [] (by kernel_rfl) (B40 p0 p1 p2 p3 p4 p5 r hF)

-- agonic/agoniclaw06.dot
noncomputable def c41 : Code := Try.f41.code
def F41 (p0 : Int) (p1 : Int) (p2 : Int) (p3 : Int) : Option Int :=
  some (w64 ((w64 (p0 * p2)) + (w64 (p1 * p3))))
def V41 (b : Nat) (r : Int) : Value := iv r
def N41 (b : Nat) (r : Int) : List Blk := []
theorem B41 (p0 : Int) (p1 : Int) (p2 : Int) (p3 : Int) (r : Int) (hF : F41 p0 p1 p2 p3 = some r) : TS Try.prog 0 0 c41 (st 16 [(0, ag [iv p0, iv p1]), (1, ag [iv p2, iv p3])]) [] (NX Try.prog 0 0 [] (FinP Try.prog Try.f41 0 (V41 0 r) (N41 0 r))) := by
  unfold F41 at hF
  refine TS.seqP (by kernel_rfl) ?_
  refine TS.regionP (by kernel_rfl) ?_
  refine TI.run 3 [2, 3] [0, 1] (a2 := (st 16 [(2, pt 0 0), (3, pt 1 0)])) (h2 := [cl 23 [iv p0, iv p1], cl 23 [iv p2, iv p3]]) (by kernel_rfl) ?_
  refine TI.done (by kernel_rfl) ?_
  refine NX.sq ?_
  refine TS.seqP (by kernel_rfl) ?_
  refine TS.regionP (by kernel_rfl) ?_
  refine TI.run 12 [4] [] (a2 := (st 16 [(4, iv (w64 ((w64 (p0 * p2)) + (w64 (p1 * p3)))))])) (h2 := [.dead, .dead]) (by kernel_rfl) ?_
  refine TI.done (by kernel_rfl) ?_
  refine NX.sq ?_
  refine TS.ret' (by kernel_rfl) ?_
  have hF := Option.some.inj hF
  subst hF
  exact ⟨.inr rfl, rfl, iv (w64 ((w64 (p0 * p2)) + (w64 (p1 * p3)))), by kernel_rfl, WkV.flat0 (by kernel_rfl) (Nat.le_of_ble_eq_true rfl)⟩
theorem C41 (p0 : Int) (p1 : Int) (p2 : Int) (p3 : Int) (r : Int) (hF : F41 p0 p1 p2 p3 = some r) : PureSim Try.prog 41 [ag [iv p0, iv p1], ag [iv p2, iv p3]] [] (V41 0 r) (N41 0 r) :=
  PureSim.of_Fin Try.func41 (c := c41) (by kernel_rfl) (by kernel_rfl) 0 rfl [0, 1] [] (by kernel_rfl) (B41 p0 p1 p2 p3 r hF)

-- agonic/agoniclaw06.bundled
noncomputable def c37 : Code := Try.f37.code
def S37_0 (r13 : Int) (r29 : Int) (r1 : ((Int × Int) × (Int × Int) × Int)) (r9 : (Int × Int)) (r11 : (Int × Int)) (r24 : Int) (r26 : Int) : CAct := (st 85 [(2, pt 1 0), (3, .bool (decide ((w64 (2 * (mx r13 (w64 (0 - r13))))) ≤ r29))), (7, pt 4 0), (8, iv (w64 ((w64 (r1.1.1 * r1.2.1.2)) - (w64 (r1.1.2 * r1.2.1.1))))), (9, iv r13), (52, ag [iv r9.1, iv r9.2, iv r11.1, iv r11.2]), (53, iv (w64 ((w64 (r1.1.1 * r1.2.1.2)) - (w64 (r1.1.2 * r1.2.1.1))))), (54, .bool false), (55, .bool false), (56, iv (w64 ((w64 (r1.1.1 * r1.2.1.2)) - (w64 (r1.1.2 * r1.2.1.1))))), (57, .bool true), (58, .bool true), (59, .bool true), (60, pt 4 0), (61, ag [iv r9.1, iv r9.2]), (62, pt 4 0), (63, ag [iv r9.1, iv r9.2]), (64, iv r24), (65, pt 4 2), (66, ag [iv r11.1, iv r11.2]), (67, pt 4 2), (68, ag [iv r11.1, iv r11.2]), (69, iv r26), (70, .bool true), (71, .bool true), (72, .bool true), (73, iv r13), (74, iv r13), (75, iv (w64 (0 - r13))), (76, iv (mx r13 (w64 (0 - r13)))), (77, iv (w64 (2 * (mx r13 (w64 (0 - r13)))))), (78, pt 4 0), (79, ag [iv r9.1, iv r9.2]), (80, pt 4 0), (81, ag [iv r9.1, iv r9.2]), (82, iv r29), (83, .bool (decide ((w64 (2 * (mx r13 (w64 (0 - r13))))) ≤ r29))), (84, .bool (decide ((w64 (2 * (mx r13 (w64 (0 - r13))))) ≤ r29)))])
def S37_1 (r13 : Int) (r21 : Int) (r1 : ((Int × Int) × (Int × Int) × Int)) (r9 : (Int × Int)) (r11 : (Int × Int)) (r16 : Int) (r18 : Int) : CAct := (st 85 [(2, pt 1 0), (3, .bool (decide ((w64 (2 * (mx r13 (w64 (0 - r13))))) ≤ r21))), (7, pt 4 0), (8, iv (w64 ((w64 (r1.1.1 * r1.2.1.2)) - (w64 (r1.1.2 * r1.2.1.1))))), (9, iv r13), (52, ag [iv r9.1, iv r9.2, iv r11.1, iv r11.2]), (53, iv (w64 ((w64 (r1.1.1 * r1.2.1.2)) - (w64 (r1.1.2 * r1.2.1.1))))), (54, .bool true), (55, .bool true), (56, undef), (57, undef), (58, .bool true), (59, .bool true), (60, pt 4 0), (61, ag [iv r9.1, iv r9.2]), (62, pt 4 0), (63, ag [iv r9.1, iv r9.2]), (64, iv r16), (65, pt 4 2), (66, ag [iv r11.1, iv r11.2]), (67, pt 4 2), (68, ag [iv r11.1, iv r11.2]), (69, iv r18), (70, .bool true), (71, .bool true), (72, .bool true), (73, iv r13), (74, iv r13), (75, iv (w64 (0 - r13))), (76, iv (mx r13 (w64 (0 - r13)))), (77, iv (w64 (2 * (mx r13 (w64 (0 - r13)))))), (78, pt 4 0), (79, ag [iv r9.1, iv r9.2]), (80, pt 4 0), (81, ag [iv r9.1, iv r9.2]), (82, iv r21), (83, .bool (decide ((w64 (2 * (mx r13 (w64 (0 - r13))))) ≤ r21))), (84, .bool (decide ((w64 (2 * (mx r13 (w64 (0 - r13))))) ≤ r21)))])
def S37_2 (r1 : ((Int × Int) × (Int × Int) × Int)) (r13 : Int) (r9 : (Int × Int)) (r11 : (Int × Int)) (r24 : Int) (r26 : Int) (r29 : Int) : CAct := (st 85 [(2, pt 1 0), (7, pt 4 0), (8, iv (w64 ((w64 (r1.1.1 * r1.2.1.2)) - (w64 (r1.1.2 * r1.2.1.1))))), (9, iv r13), (52, ag [iv r9.1, iv r9.2, iv r11.1, iv r11.2]), (53, iv (w64 ((w64 (r1.1.1 * r1.2.1.2)) - (w64 (r1.1.2 * r1.2.1.1))))), (54, .bool false), (55, .bool false), (56, iv (w64 ((w64 (r1.1.1 * r1.2.1.2)) - (w64 (r1.1.2 * r1.2.1.1))))), (57, .bool true), (58, .bool true), (59, .bool true), (60, pt 4 0), (61, ag [iv r9.1, iv r9.2]), (62, pt 4 0), (63, ag [iv r9.1, iv r9.2]), (64, iv r24), (65, pt 4 2), (66, ag [iv r11.1, iv r11.2]), (67, pt 4 2), (68, ag [iv r11.1, iv r11.2]), (69, iv r26), (70, .bool true), (71, .bool true), (72, .bool true), (73, iv r13), (74, iv r13), (75, iv (w64 (0 - r13))), (76, iv (mx r13 (w64 (0 - r13)))), (77, iv (w64 (2 * (mx r13 (w64 (0 - r13)))))), (78, pt 4 0), (79, ag [iv r9.1, iv r9.2]), (80, pt 4 0), (81, ag [iv r9.1, iv r9.2]), (82, iv r29), (83, .bool (decide ((w64 (2 * (mx r13 (w64 (0 - r13))))) ≤ r29))), (84, .bool (decide ((w64 (2 * (mx r13 (w64 (0 - r13))))) ≤ r29)))])
def S37_3 (r1 : ((Int × Int) × (Int × Int) × Int)) (r13 : Int) (r9 : (Int × Int)) (r11 : (Int × Int)) (r16 : Int) (r18 : Int) (r21 : Int) : CAct := (st 85 [(2, pt 1 0), (7, pt 4 0), (8, iv (w64 ((w64 (r1.1.1 * r1.2.1.2)) - (w64 (r1.1.2 * r1.2.1.1))))), (9, iv r13), (52, ag [iv r9.1, iv r9.2, iv r11.1, iv r11.2]), (53, iv (w64 ((w64 (r1.1.1 * r1.2.1.2)) - (w64 (r1.1.2 * r1.2.1.1))))), (54, .bool true), (55, .bool true), (56, undef), (57, undef), (58, .bool true), (59, .bool true), (60, pt 4 0), (61, ag [iv r9.1, iv r9.2]), (62, pt 4 0), (63, ag [iv r9.1, iv r9.2]), (64, iv r16), (65, pt 4 2), (66, ag [iv r11.1, iv r11.2]), (67, pt 4 2), (68, ag [iv r11.1, iv r11.2]), (69, iv r18), (70, .bool true), (71, .bool true), (72, .bool true), (73, iv r13), (74, iv r13), (75, iv (w64 (0 - r13))), (76, iv (mx r13 (w64 (0 - r13)))), (77, iv (w64 (2 * (mx r13 (w64 (0 - r13)))))), (78, pt 4 0), (79, ag [iv r9.1, iv r9.2]), (80, pt 4 0), (81, ag [iv r9.1, iv r9.2]), (82, iv r21), (83, .bool (decide ((w64 (2 * (mx r13 (w64 (0 - r13))))) ≤ r21))), (84, .bool (decide ((w64 (2 * (mx r13 (w64 (0 - r13))))) ≤ r21)))])
def S37_4 (r1 : ((Int × Int) × (Int × Int) × Int)) (r13 : Int) (r9 : (Int × Int)) (r11 : (Int × Int)) (r24 : Int) (r26 : Int) (r29 : Int) : CAct := (st 85 [(2, pt 1 0), (7, pt 4 0), (8, iv (w64 ((w64 (r1.1.1 * r1.2.1.2)) - (w64 (r1.1.2 * r1.2.1.1))))), (9, iv r13), (52, ag [iv r9.1, iv r9.2, iv r11.1, iv r11.2]), (53, iv (w64 ((w64 (r1.1.1 * r1.2.1.2)) - (w64 (r1.1.2 * r1.2.1.1))))), (54, .bool false), (55, .bool false), (56, iv (w64 ((w64 (r1.1.1 * r1.2.1.2)) - (w64 (r1.1.2 * r1.2.1.1))))), (57, .bool true), (58, .bool true), (59, .bool true), (60, pt 4 0), (61, ag [iv r9.1, iv r9.2]), (62, pt 4 0), (63, ag [iv r9.1, iv r9.2]), (64, iv r24), (65, pt 4 2), (66, ag [iv r11.1, iv r11.2]), (67, pt 4 2), (68, ag [iv r11.1, iv r11.2]), (69, iv r26), (70, .bool true), (71, .bool true), (72, .bool true), (73, iv r13), (74, iv r13), (75, iv (w64 (0 - r13))), (76, iv (mx r13 (w64 (0 - r13)))), (77, iv (w64 (2 * (mx r13 (w64 (0 - r13)))))), (78, pt 4 0), (79, ag [iv r9.1, iv r9.2]), (80, pt 4 0), (81, ag [iv r9.1, iv r9.2]), (82, iv r29)])
def S37_5 (r1 : ((Int × Int) × (Int × Int) × Int)) (r13 : Int) (r9 : (Int × Int)) (r11 : (Int × Int)) (r24 : Int) (r26 : Int) : CAct := (st 85 [(2, pt 1 0), (7, pt 4 0), (8, iv (w64 ((w64 (r1.1.1 * r1.2.1.2)) - (w64 (r1.1.2 * r1.2.1.1))))), (9, iv r13), (52, ag [iv r9.1, iv r9.2, iv r11.1, iv r11.2]), (53, iv (w64 ((w64 (r1.1.1 * r1.2.1.2)) - (w64 (r1.1.2 * r1.2.1.1))))), (54, .bool false), (55, .bool false), (56, iv (w64 ((w64 (r1.1.1 * r1.2.1.2)) - (w64 (r1.1.2 * r1.2.1.1))))), (57, .bool true), (58, .bool true), (59, .bool true), (60, pt 4 0), (61, ag [iv r9.1, iv r9.2]), (62, pt 4 0), (63, ag [iv r9.1, iv r9.2]), (64, iv r24), (65, pt 4 2), (66, ag [iv r11.1, iv r11.2]), (67, pt 4 2), (68, ag [iv r11.1, iv r11.2]), (69, iv r26), (70, .bool true), (71, .bool true), (72, .bool true), (73, iv r13), (74, iv r13), (75, iv (w64 (0 - r13))), (76, iv (mx r13 (w64 (0 - r13)))), (77, iv (w64 (2 * (mx r13 (w64 (0 - r13)))))), (78, pt 4 0), (79, ag [iv r9.1, iv r9.2]), (80, pt 4 0), (81, ag [iv r9.1, iv r9.2])])
def S37_6 (r1 : ((Int × Int) × (Int × Int) × Int)) (r13 : Int) (r9 : (Int × Int)) (r11 : (Int × Int)) (r24 : Int) (r26 : Int) : CAct := (st 85 [(2, pt 1 0), (3, .bool false), (7, pt 4 0), (8, iv (w64 ((w64 (r1.1.1 * r1.2.1.2)) - (w64 (r1.1.2 * r1.2.1.1))))), (9, iv r13), (52, ag [iv r9.1, iv r9.2, iv r11.1, iv r11.2]), (53, iv (w64 ((w64 (r1.1.1 * r1.2.1.2)) - (w64 (r1.1.2 * r1.2.1.1))))), (54, .bool false), (55, .bool false), (56, iv (w64 ((w64 (r1.1.1 * r1.2.1.2)) - (w64 (r1.1.2 * r1.2.1.1))))), (57, .bool true), (58, .bool true), (59, .bool true), (60, pt 4 0), (61, ag [iv r9.1, iv r9.2]), (62, pt 4 0), (63, ag [iv r9.1, iv r9.2]), (64, iv r24), (65, pt 4 2), (66, ag [iv r11.1, iv r11.2]), (67, pt 4 2), (68, ag [iv r11.1, iv r11.2]), (69, iv r26), (70, .bool false), (71, .bool false), (72, .bool false), (73, undef), (74, undef), (75, undef), (76, undef), (77, undef), (78, undef), (79, undef), (80, undef), (81, undef), (82, undef), (83, undef), (84, .bool false)])
def S37_7 (r1 : ((Int × Int) × (Int × Int) × Int)) (r13 : Int) (r9 : (Int × Int)) (r11 : (Int × Int)) (r16 : Int) (r18 : Int) (r21 : Int) : CAct := (st 85 [(2, pt 1 0), (7, pt 4 0), (8, iv (w64 ((w64 (r1.1.1 * r1.2.1.2)) - (w64 (r1.1.2 * r1.2.1.1))))), (9, iv r13), (52, ag [iv r9.1, iv r9.2, iv r11.1, iv r11.2]), (53, iv (w64 ((w64 (r1.1.1 * r1.2.1.2)) - (w64 (r1.1.2 * r1.2.1.1))))), (54, .bool true), (55, .bool true), (56, undef), (57, undef), (58, .bool true), (59, .bool true), (60, pt 4 0), (61, ag [iv r9.1, iv r9.2]), (62, pt 4 0), (63, ag [iv r9.1, iv r9.2]), (64, iv r16), (65, pt 4 2), (66, ag [iv r11.1, iv r11.2]), (67, pt 4 2), (68, ag [iv r11.1, iv r11.2]), (69, iv r18), (70, .bool true), (71, .bool true), (72, .bool true), (73, iv r13), (74, iv r13), (75, iv (w64 (0 - r13))), (76, iv (mx r13 (w64 (0 - r13)))), (77, iv (w64 (2 * (mx r13 (w64 (0 - r13)))))), (78, pt 4 0), (79, ag [iv r9.1, iv r9.2]), (80, pt 4 0), (81, ag [iv r9.1, iv r9.2]), (82, iv r21)])
def S37_8 (r1 : ((Int × Int) × (Int × Int) × Int)) (r13 : Int) (r9 : (Int × Int)) (r11 : (Int × Int)) (r24 : Int) (r26 : Int) : CAct := (st 85 [(2, pt 1 0), (7, pt 4 0), (8, iv (w64 ((w64 (r1.1.1 * r1.2.1.2)) - (w64 (r1.1.2 * r1.2.1.1))))), (9, iv r13), (52, ag [iv r9.1, iv r9.2, iv r11.1, iv r11.2]), (53, iv (w64 ((w64 (r1.1.1 * r1.2.1.2)) - (w64 (r1.1.2 * r1.2.1.1))))), (54, .bool false), (55, .bool false), (56, iv (w64 ((w64 (r1.1.1 * r1.2.1.2)) - (w64 (r1.1.2 * r1.2.1.1))))), (57, .bool true), (58, .bool true), (59, .bool true), (60, pt 4 0), (61, ag [iv r9.1, iv r9.2]), (62, pt 4 0), (63, ag [iv r9.1, iv r9.2]), (64, iv r24), (65, pt 4 2), (66, ag [iv r11.1, iv r11.2]), (67, pt 4 2), (68, ag [iv r11.1, iv r11.2]), (69, iv r26), (70, .bool false), (71, .bool false), (72, .bool false), (73, undef), (74, undef), (75, undef), (76, undef), (77, undef), (78, undef), (79, undef), (80, undef), (81, undef), (82, undef), (83, undef), (84, .bool false)])
def S37_9 (r1 : ((Int × Int) × (Int × Int) × Int)) (r13 : Int) (r9 : (Int × Int)) (r11 : (Int × Int)) (r16 : Int) (r18 : Int) : CAct := (st 85 [(2, pt 1 0), (7, pt 4 0), (8, iv (w64 ((w64 (r1.1.1 * r1.2.1.2)) - (w64 (r1.1.2 * r1.2.1.1))))), (9, iv r13), (52, ag [iv r9.1, iv r9.2, iv r11.1, iv r11.2]), (53, iv (w64 ((w64 (r1.1.1 * r1.2.1.2)) - (w64 (r1.1.2 * r1.2.1.1))))), (54, .bool true), (55, .bool true), (56, undef), (57, undef), (58, .bool true), (59, .bool true), (60, pt 4 0), (61, ag [iv r9.1, iv r9.2]), (62, pt 4 0), (63, ag [iv r9.1, iv r9.2]), (64, iv r16), (65, pt 4 2), (66, ag [iv r11.1, iv r11.2]), (67, pt 4 2), (68, ag [iv r11.1, iv r11.2]), (69, iv r18), (70, .bool true), (71, .bool true), (72, .bool true), (73, iv r13), (74, iv r13), (75, iv (w64 (0 - r13))), (76, iv (mx r13 (w64 (0 - r13)))), (77, iv (w64 (2 * (mx r13 (w64 (0 - r13)))))), (78, pt 4 0), (79, ag [iv r9.1, iv r9.2]), (80, pt 4 0), (81, ag [iv r9.1, iv r9.2])])
def S37_10 (r1 : ((Int × Int) × (Int × Int) × Int)) (r13 : Int) (r9 : (Int × Int)) (r11 : (Int × Int)) (r16 : Int) (r18 : Int) : CAct := (st 85 [(2, pt 1 0), (3, .bool false), (7, pt 4 0), (8, iv (w64 ((w64 (r1.1.1 * r1.2.1.2)) - (w64 (r1.1.2 * r1.2.1.1))))), (9, iv r13), (52, ag [iv r9.1, iv r9.2, iv r11.1, iv r11.2]), (53, iv (w64 ((w64 (r1.1.1 * r1.2.1.2)) - (w64 (r1.1.2 * r1.2.1.1))))), (54, .bool true), (55, .bool true), (56, undef), (57, undef), (58, .bool true), (59, .bool true), (60, pt 4 0), (61, ag [iv r9.1, iv r9.2]), (62, pt 4 0), (63, ag [iv r9.1, iv r9.2]), (64, iv r16), (65, pt 4 2), (66, ag [iv r11.1, iv r11.2]), (67, pt 4 2), (68, ag [iv r11.1, iv r11.2]), (69, iv r18), (70, .bool false), (71, .bool false), (72, .bool false), (73, undef), (74, undef), (75, undef), (76, undef), (77, undef), (78, undef), (79, undef), (80, undef), (81, undef), (82, undef), (83, undef), (84, .bool false)])
def S37_11 (r1 : ((Int × Int) × (Int × Int) × Int)) (r13 : Int) (r9 : (Int × Int)) (r11 : (Int × Int)) : CAct := (st 85 [(2, pt 1 0), (3, .bool false), (7, pt 4 0), (8, iv (w64 ((w64 (r1.1.1 * r1.2.1.2)) - (w64 (r1.1.2 * r1.2.1.1))))), (9, iv r13), (52, ag [iv r9.1, iv r9.2, iv r11.1, iv r11.2]), (53, iv (w64 ((w64 (r1.1.1 * r1.2.1.2)) - (w64 (r1.1.2 * r1.2.1.1))))), (54, .bool false), (55, .bool false), (56, iv (w64 ((w64 (r1.1.1 * r1.2.1.2)) - (w64 (r1.1.2 * r1.2.1.1))))), (57, .bool false), (58, .bool false), (59, .bool false), (60, undef), (61, undef), (62, undef), (63, undef), (64, undef), (65, undef), (66, undef), (67, undef), (68, undef), (69, undef), (70, undef), (71, .bool false), (72, .bool false), (73, undef), (74, undef), (75, undef), (76, undef), (77, undef), (78, undef), (79, undef), (80, undef), (81, undef), (82, undef), (83, undef), (84, .bool false)])
def S37_12 (r1 : ((Int × Int) × (Int × Int) × Int)) (r13 : Int) (r9 : (Int × Int)) (r11 : (Int × Int)) (r16 : Int) (r18 : Int) : CAct := (st 85 [(2, pt 1 0), (7, pt 4 0), (8, iv (w64 ((w64 (r1.1.1 * r1.2.1.2)) - (w64 (r1.1.2 * r1.2.1.1))))), (9, iv r13), (52, ag [iv r9.1, iv r9.2, iv r11.1, iv r11.2]), (53, iv (w64 ((w64 (r1.1.1 * r1.2.1.2)) - (w64 (r1.1.2 * r1.2.1.1))))), (54, .bool true), (55, .bool true), (56, undef), (57, undef), (58, .bool true), (59, .bool true), (60, pt 4 0), (61, ag [iv r9.1, iv r9.2]), (62, pt 4 0), (63, ag [iv r9.1, iv r9.2]), (64, iv r16), (65, pt 4 2), (66, ag [iv r11.1, iv r11.2]), (67, pt 4 2), (68, ag [iv r11.1, iv r11.2]), (69, iv r18), (70, .bool false), (71, .bool false), (72, .bool false), (73, undef), (74, undef), (75, undef), (76, undef), (77, undef), (78, undef), (79, undef), (80, undef), (81, undef), (82, undef), (83, undef), (84, .bool false)])
def S37_13 (r1 : ((Int × Int) × (Int × Int) × Int)) (r13 : Int) (r9 : (Int × Int)) (r11 : (Int × Int)) : CAct := (st 85 [(2, pt 1 0), (7, pt 4 0), (8, iv (w64 ((w64 (r1.1.1 * r1.2.1.2)) - (w64 (r1.1.2 * r1.2.1.1))))), (9, iv r13), (52, ag [iv r9.1, iv r9.2, iv r11.1, iv r11.2]), (53, iv (w64 ((w64 (r1.1.1 * r1.2.1.2)) - (w64 (r1.1.2 * r1.2.1.1))))), (54, .bool false), (55, .bool false), (56, iv (w64 ((w64 (r1.1.1 * r1.2.1.2)) - (w64 (r1.1.2 * r1.2.1.1))))), (57, .bool false), (58, .bool false), (59, .bool false), (60, undef), (61, undef), (62, undef), (63, undef), (64, undef), (65, undef), (66, undef), (67, undef), (68, undef), (69, undef), (70, undef), (71, .bool false), (72, .bool false), (73, undef), (74, undef), (75, undef), (76, undef), (77, undef), (78, undef), (79, undef), (80, undef), (81, undef), (82, undef), (83, undef), (84, .bool false)])
def S37_14 (r1 : ((Int × Int) × (Int × Int) × Int)) (r13 : Int) (r9 : (Int × Int)) (r11 : (Int × Int)) (r24 : Int) (r26 : Int) : CAct := (st 85 [(2, pt 1 0), (7, pt 4 0), (8, iv (w64 ((w64 (r1.1.1 * r1.2.1.2)) - (w64 (r1.1.2 * r1.2.1.1))))), (9, iv r13), (52, ag [iv r9.1, iv r9.2, iv r11.1, iv r11.2]), (53, iv (w64 ((w64 (r1.1.1 * r1.2.1.2)) - (w64 (r1.1.2 * r1.2.1.1))))), (54, .bool false), (55, .bool false), (56, iv (w64 ((w64 (r1.1.1 * r1.2.1.2)) - (w64 (r1.1.2 * r1.2.1.1))))), (57, .bool true), (58, .bool true), (59, .bool true), (60, pt 4 0), (61, ag [iv r9.1, iv r9.2]), (62, pt 4 0), (63, ag [iv r9.1, iv r9.2]), (64, iv r24), (65, pt 4 2), (66, ag [iv r11.1, iv r11.2]), (67, pt 4 2), (68, ag [iv r11.1, iv r11.2]), (69, iv r26), (70, .bool false)])
def S37_15 (r1 : ((Int × Int) × (Int × Int) × Int)) (r13 : Int) (r9 : (Int × Int)) (r11 : (Int × Int)) (r24 : Int) (r26 : Int) : CAct := (st 85 [(2, pt 1 0), (7, pt 4 0), (8, iv (w64 ((w64 (r1.1.1 * r1.2.1.2)) - (w64 (r1.1.2 * r1.2.1.1))))), (9, iv r13), (52, ag [iv r9.1, iv r9.2, iv r11.1, iv r11.2]), (53, iv (w64 ((w64 (r1.1.1 * r1.2.1.2)) - (w64 (r1.1.2 * r1.2.1.1))))), (54, .bool false), (55, .bool false), (56, iv (w64 ((w64 (r1.1.1 * r1.2.1.2)) - (w64 (r1.1.2 * r1.2.1.1))))), (57, .bool true), (58, .bool true), (59, .bool true), (60, pt 4 0), (61, ag [iv r9.1, iv r9.2]), (62, pt 4 0), (63, ag [iv r9.1, iv r9.2]), (64, iv r24), (65, pt 4 2), (66, ag [iv r11.1, iv r11.2]), (67, pt 4 2), (68, ag [iv r11.1, iv r11.2]), (69, iv r26), (70, .bool true)])
def S37_16 (r1 : ((Int × Int) × (Int × Int) × Int)) (r13 : Int) (r9 : (Int × Int)) (r11 : (Int × Int)) (r24 : Int) (r26 : Int) : CAct := (st 85 [(2, pt 1 0), (7, pt 4 0), (8, iv (w64 ((w64 (r1.1.1 * r1.2.1.2)) - (w64 (r1.1.2 * r1.2.1.1))))), (9, iv r13), (52, ag [iv r9.1, iv r9.2, iv r11.1, iv r11.2]), (53, iv (w64 ((w64 (r1.1.1 * r1.2.1.2)) - (w64 (r1.1.2 * r1.2.1.1))))), (54, .bool false), (55, .bool false), (56, iv (w64 ((w64 (r1.1.1 * r1.2.1.2)) - (w64 (r1.1.2 * r1.2.1.1))))), (57, .bool true), (58, .bool true), (59, .bool true), (60, pt 4 0), (61, ag [iv r9.1, iv r9.2]), (62, pt 4 0), (63, ag [iv r9.1, iv r9.2]), (64, iv r24), (65, pt 4 2), (66, ag [iv r11.1, iv r11.2]), (67, pt 4 2), (68, ag [iv r11.1, iv r11.2]), (69, iv r26)])
def S37_17 (r1 : ((Int × Int) × (Int × Int) × Int)) (r13 : Int) (r9 : (Int × Int)) (r11 : (Int × Int)) (r24 : Int) : CAct := (st 85 [(2, pt 1 0), (7, pt 4 0), (8, iv (w64 ((w64 (r1.1.1 * r1.2.1.2)) - (w64 (r1.1.2 * r1.2.1.1))))), (9, iv r13), (52, ag [iv r9.1, iv r9.2, iv r11.1, iv r11.2]), (53, iv (w64 ((w64 (r1.1.1 * r1.2.1.2)) - (w64 (r1.1.2 * r1.2.1.1))))), (54, .bool false), (55, .bool false), (56, iv (w64 ((w64 (r1.1.1 * r1.2.1.2)) - (w64 (r1.1.2 * r1.2.1.1))))), (57, .bool true), (58, .bool true), (59, .bool true), (60, pt 4 0), (61, ag [iv r9.1, iv r9.2]), (62, pt 4 0), (63, ag [iv r9.1, iv r9.2]), (64, iv r24), (65, pt 4 2), (66, ag [iv r11.1, iv r11.2]), (67, pt 4 2), (68, ag [iv r11.1, iv r11.2])])
def S37_18 (r1 : ((Int × Int) × (Int × Int) × Int)) (r13 : Int) (r9 : (Int × Int)) (r11 : (Int × Int)) (r16 : Int) (r18 : Int) : CAct := (st 85 [(2, pt 1 0), (7, pt 4 0), (8, iv (w64 ((w64 (r1.1.1 * r1.2.1.2)) - (w64 (r1.1.2 * r1.2.1.1))))), (9, iv r13), (52, ag [iv r9.1, iv r9.2, iv r11.1, iv r11.2]), (53, iv (w64 ((w64 (r1.1.1 * r1.2.1.2)) - (w64 (r1.1.2 * r1.2.1.1))))), (54, .bool true), (55, .bool true), (56, undef), (57, undef), (58, .bool true), (59, .bool true), (60, pt 4 0), (61, ag [iv r9.1, iv r9.2]), (62, pt 4 0), (63, ag [iv r9.1, iv r9.2]), (64, iv r16), (65, pt 4 2), (66, ag [iv r11.1, iv r11.2]), (67, pt 4 2), (68, ag [iv r11.1, iv r11.2]), (69, iv r18), (70, .bool false)])
def S37_19 (r1 : ((Int × Int) × (Int × Int) × Int)) (r13 : Int) (r9 : (Int × Int)) (r11 : (Int × Int)) (r16 : Int) (r18 : Int) : CAct := (st 85 [(2, pt 1 0), (7, pt 4 0), (8, iv (w64 ((w64 (r1.1.1 * r1.2.1.2)) - (w64 (r1.1.2 * r1.2.1.1))))), (9, iv r13), (52, ag [iv r9.1, iv r9.2, iv r11.1, iv r11.2]), (53, iv (w64 ((w64 (r1.1.1 * r1.2.1.2)) - (w64 (r1.1.2 * r1.2.1.1))))), (54, .bool true), (55, .bool true), (56, undef), (57, undef), (58, .bool true), (59, .bool true), (60, pt 4 0), (61, ag [iv r9.1, iv r9.2]), (62, pt 4 0), (63, ag [iv r9.1, iv r9.2]), (64, iv r16), (65, pt 4 2), (66, ag [iv r11.1, iv r11.2]), (67, pt 4 2), (68, ag [iv r11.1, iv r11.2]), (69, iv r18), (70, .bool true)])
def S37_20 (r1 : ((Int × Int) × (Int × Int) × Int)) (r13 : Int) (r9 : (Int × Int)) (r11 : (Int × Int)) (r16 : Int) (r18 : Int) : CAct := (st 85 [(2, pt 1 0), (7, pt 4 0), (8, iv (w64 ((w64 (r1.1.1 * r1.2.1.2)) - (w64 (r1.1.2 * r1.2.1.1))))), (9, iv r13), (52, ag [iv r9.1, iv r9.2, iv r11.1, iv r11.2]), (53, iv (w64 ((w64 (r1.1.1 * r1.2.1.2)) - (w64 (r1.1.2 * r1.2.1.1))))), (54, .bool true), (55, .bool true), (56, undef), (57, undef), (58, .bool true), (59, .bool true), (60, pt 4 0), (61, ag [iv r9.1, iv r9.2]), (62, pt 4 0), (63, ag [iv r9.1, iv r9.2]), (64, iv r16), (65, pt 4 2), (66, ag [iv r11.1, iv r11.2]), (67, pt 4 2), (68, ag [iv r11.1, iv r11.2]), (69, iv r18)])
def S37_21 (r1 : ((Int × Int) × (Int × Int) × Int)) (r13 : Int) (r9 : (Int × Int)) (r11 : (Int × Int)) (r16 : Int) : CAct := (st 85 [(2, pt 1 0), (7, pt 4 0), (8, iv (w64 ((w64 (r1.1.1 * r1.2.1.2)) - (w64 (r1.1.2 * r1.2.1.1))))), (9, iv r13), (52, ag [iv r9.1, iv r9.2, iv r11.1, iv r11.2]), (53, iv (w64 ((w64 (r1.1.1 * r1.2.1.2)) - (w64 (r1.1.2 * r1.2.1.1))))), (54, .bool true), (55, .bool true), (56, undef), (57, undef), (58, .bool true), (59, .bool true), (60, pt 4 0), (61, ag [iv r9.1, iv r9.2]), (62, pt 4 0), (63, ag [iv r9.1, iv r9.2]), (64, iv r16), (65, pt 4 2), (66, ag [iv r11.1, iv r11.2]), (67, pt 4 2), (68, ag [iv r11.1, iv r11.2])])
def S37_22 (r1 : ((Int × Int) × (Int × Int) × Int)) (r13 : Int) (r9 : (Int × Int)) (r11 : (Int × Int)) (r24 : Int) : CAct := (st 85 [(2, pt 1 0), (7, pt 4 0), (8, iv (w64 ((w64 (r1.1.1 * r1.2.1.2)) - (w64 (r1.1.2 * r1.2.1.1))))), (9, iv r13), (52, ag [iv r9.1, iv r9.2, iv r11.1, iv r11.2]), (53, iv (w64 ((w64 (r1.1.1 * r1.2.1.2)) - (w64 (r1.1.2 * r1.2.1.1))))), (54, .bool false), (55, .bool false), (56, iv (w64 ((w64 (r1.1.1 * r1.2.1.2)) - (w64 (r1.1.2 * r1.2.1.1))))), (57, .bool true), (58, .bool true), (59, .bool true), (60, pt 4 0), (61, ag [iv r9.1, iv r9.2]), (62, pt 4 0), (63, ag [iv r9.1, iv r9.2]), (64, iv r24)])
def S37_23 (r1 : ((Int × Int) × (Int × Int) × Int)) (r13 : Int) (r9 : (Int × Int)) (r11 : (Int × Int)) : CAct := (st 85 [(2, pt 1 0), (7, pt 4 0), (8, iv (w64 ((w64 (r1.1.1 * r1.2.1.2)) - (w64 (r1.1.2 * r1.2.1.1))))), (9, iv r13), (52, ag [iv r9.1, iv r9.2, iv r11.1, iv r11.2]), (53, iv (w64 ((w64 (r1.1.1 * r1.2.1.2)) - (w64 (r1.1.2 * r1.2.1.1))))), (54, .bool false), (55, .bool false), (56, iv (w64 ((w64 (r1.1.1 * r1.2.1.2)) - (w64 (r1.1.2 * r1.2.1.1))))), (57, .bool true), (58, .bool true), (59, .bool true), (60, pt 4 0), (61, ag [iv r9.1, iv r9.2]), (62, pt 4 0), (63, ag [iv r9.1, iv r9.2])])
def S37_24 (r1 : ((Int × Int) × (Int × Int) × Int)) (r13 : Int) (r9 : (Int × Int)) (r11 : (Int × Int)) (r16 : Int) : CAct := (st 85 [(2, pt 1 0), (7, pt 4 0), (8, iv (w64 ((w64 (r1.1.1 * r1.2.1.2)) - (w64 (r1.1.2 * r1.2.1.1))))), (9, iv r13), (52, ag [iv r9.1, iv r9.2, iv r11.1, iv r11.2]), (53, iv (w64 ((w64 (r1.1.1 * r1.2.1.2)) - (w64 (r1.1.2 * r1.2.1.1))))), (54, .bool true), (55, .bool true), (56, undef), (57, undef), (58, .bool true), (59, .bool true), (60, pt 4 0), (61, ag [iv r9.1, iv r9.2]), (62, pt 4 0), (63, ag [iv r9.1, iv r9.2]), (64, iv r16)])
def S37_25 (r1 : ((Int × Int) × (Int × Int) × Int)) (r13 : Int) (r9 : (Int × Int)) (r11 : (Int × Int)) : CAct := (st 85 [(2, pt 1 0), (7, pt 4 0), (8, iv (w64 ((w64 (r1.1.1 * r1.2.1.2)) - (w64 (r1.1.2 * r1.2.1.1))))), (9, iv r13), (52, ag [iv r9.1, iv r9.2, iv r11.1, iv r11.2]), (53, iv (w64 ((w64 (r1.1.1 * r1.2.1.2)) - (w64 (r1.1.2 * r1.2.1.1))))), (54, .bool true), (55, .bool true), (56, undef), (57, undef), (58, .bool true), (59, .bool true), (60, pt 4 0), (61, ag [iv r9.1, iv r9.2]), (62, pt 4 0), (63, ag [iv r9.1, iv r9.2])])
def S37_26 (r1 : ((Int × Int) × (Int × Int) × Int)) (r13 : Int) (r9 : (Int × Int)) (r11 : (Int × Int)) : CAct := (st 85 [(2, pt 1 0), (7, pt 4 0), (8, iv (w64 ((w64 (r1.1.1 * r1.2.1.2)) - (w64 (r1.1.2 * r1.2.1.1))))), (9, iv r13), (52, ag [iv r9.1, iv r9.2, iv r11.1, iv r11.2]), (53, iv (w64 ((w64 (r1.1.1 * r1.2.1.2)) - (w64 (r1.1.2 * r1.2.1.1))))), (54, .bool false), (55, .bool false), (56, iv (w64 ((w64 (r1.1.1 * r1.2.1.2)) - (w64 (r1.1.2 * r1.2.1.1))))), (57, .bool false)])
def S37_27 (r1 : ((Int × Int) × (Int × Int) × Int)) (r13 : Int) (r9 : (Int × Int)) (r11 : (Int × Int)) : CAct := (st 85 [(2, pt 1 0), (7, pt 4 0), (8, iv (w64 ((w64 (r1.1.1 * r1.2.1.2)) - (w64 (r1.1.2 * r1.2.1.1))))), (9, iv r13), (52, ag [iv r9.1, iv r9.2, iv r11.1, iv r11.2]), (53, iv (w64 ((w64 (r1.1.1 * r1.2.1.2)) - (w64 (r1.1.2 * r1.2.1.1))))), (54, .bool false), (55, .bool false), (56, iv (w64 ((w64 (r1.1.1 * r1.2.1.2)) - (w64 (r1.1.2 * r1.2.1.1))))), (57, .bool true)])
def S37_28 (r1 : ((Int × Int) × (Int × Int) × Int)) (r13 : Int) (r9 : (Int × Int)) (r11 : (Int × Int)) : CAct := (st 85 [(2, pt 1 0), (7, pt 4 0), (8, iv (w64 ((w64 (r1.1.1 * r1.2.1.2)) - (w64 (r1.1.2 * r1.2.1.1))))), (9, iv r13), (52, ag [iv r9.1, iv r9.2, iv r11.1, iv r11.2]), (53, iv (w64 ((w64 (r1.1.1 * r1.2.1.2)) - (w64 (r1.1.2 * r1.2.1.1))))), (54, .bool false), (55, .bool false), (56, iv (w64 ((w64 (r1.1.1 * r1.2.1.2)) - (w64 (r1.1.2 * r1.2.1.1)))))])
def S37_29 (r1 : ((Int × Int) × (Int × Int) × Int)) (r13 : Int) (r9 : (Int × Int)) (r11 : (Int × Int)) : CAct := (st 85 [(2, pt 1 0), (7, pt 4 0), (8, iv (w64 ((w64 (r1.1.1 * r1.2.1.2)) - (w64 (r1.1.2 * r1.2.1.1))))), (9, iv r13), (52, ag [iv r9.1, iv r9.2, iv r11.1, iv r11.2]), (53, iv (w64 ((w64 (r1.1.1 * r1.2.1.2)) - (w64 (r1.1.2 * r1.2.1.1))))), (54, .bool false)])
def S37_30 (r1 : ((Int × Int) × (Int × Int) × Int)) (r13 : Int) (r9 : (Int × Int)) (r11 : (Int × Int)) : CAct := (st 85 [(2, pt 1 0), (7, pt 4 0), (8, iv (w64 ((w64 (r1.1.1 * r1.2.1.2)) - (w64 (r1.1.2 * r1.2.1.1))))), (9, iv r13), (52, ag [iv r9.1, iv r9.2, iv r11.1, iv r11.2]), (53, iv (w64 ((w64 (r1.1.1 * r1.2.1.2)) - (w64 (r1.1.2 * r1.2.1.1))))), (54, .bool true)])
def S37_31 (r1 : ((Int × Int) × (Int × Int) × Int)) (r13 : Int) (r9 : (Int × Int)) (r11 : (Int × Int)) : CAct := (st 85 [(2, pt 1 0), (7, pt 4 0), (8, iv (w64 ((w64 (r1.1.1 * r1.2.1.2)) - (w64 (r1.1.2 * r1.2.1.1))))), (9, iv r13), (52, ag [iv r9.1, iv r9.2, iv r11.1, iv r11.2]), (53, iv (w64 ((w64 (r1.1.1 * r1.2.1.2)) - (w64 (r1.1.2 * r1.2.1.1)))))])
def H37_32 (r1 : ((Int × Int) × (Int × Int) × Int)) (r9 : (Int × Int)) (r11 : (Int × Int)) : List Blk := [.dead, cl 25 [iv 0, iv 0, iv 0, iv 0], cl 27 [iv r1.1.1, iv r1.1.2], cl 27 [iv r1.2.1.1, iv r1.2.1.2], cl 25 [iv r9.1, iv r9.2, iv r11.1, iv r11.2]]
def H37_33 (p0 : Int) (p1 : Int) (p2 : Int) (p3 : Int) (r1 : ((Int × Int) × (Int × Int) × Int)) : List Blk := [cl 25 [iv p0, iv p1, iv p2, iv p3], cl 25 [iv 0, iv 0, iv 0, iv 0], cl 27 [iv r1.1.1, iv r1.1.2], cl 27 [iv r1.2.1.1, iv r1.2.1.2]]
def H37_34 (r9 : (Int × Int)) (r11 : (Int × Int)) : List Blk := [.dead, cl 25 [iv r9.1, iv r9.2, iv r11.1, iv r11.2], .dead, .dead, cl 25 [iv r9.1, iv r9.2, iv r11.1, iv r11.2]]
def S37_35 (r1 : ((Int × Int) × (Int × Int) × Int)) : CAct := (st 85 [(1, pt 0 0), (2, pt 1 0), (4, pt 2 0), (5, pt 3 0), (18, .bool false), (19, ag [iv r1.1.1, iv r1.1.2])])
def H37_36 (r9 : (Int × Int)) (r11 : (Int × Int)) : List Blk := [.dead, cl 25 [iv 0, iv 0, iv 0, iv 0], .dead, .dead, cl 25 [iv r9.1, iv r9.2, iv r11.1, iv r11.2]]
def S37_37  : CAct := (st 85 [(1, pt 0 0), (2, pt 1 0), (4, pt 2 0), (5, pt 3 0), (17, .bool false)])
def S37_38  : CAct := (st 85 [(1, pt 0 0), (2, pt 1 0), (4, pt 2 0), (5, pt 3 0), (27, .bool true)])
def S37_39 (r1 : ((Int × Int) × (Int × Int) × Int)) : CAct := (st 85 [(1, pt 0 0), (2, pt 1 0), (4, pt 2 0), (5, pt 3 0), (16, iv r1.2.2)])
def H37_40 (r9 : (Int × Int)) (r11 : (Int × Int)) : List Blk := [.dead, cl 25 [iv r9.1, iv r9.2, iv r11.1, iv r11.2], .dead, .dead, .dead]
def F37 (p0 : Int) (p1 : Int) (p2 : Int) (p3 : Int) : Option (((Int × Int) × (Int × Int)) × Bool) :=
  F23 p0 p1 p2 p3 >>= fun r1 =>
  (
    if r1.2.2 != 0 then
      some (true)
    else
      F38 r1.1.1 r1.1.2 >>= fun r4 =>
      if r4 then
        F38 r1.2.1.1 r1.2.1.2 >>= fun r6 =>
        if r6 then
          some (false)
        else
          some (true)
      else
        some (true)
  : Option Bool) >>= fun m8 =>
  if m8 then
    some (((p0, p1), (p2, p3)), false)
  else
    F40 p0 p1 p2 p3 r1.1.1 r1.1.2 >>= fun r9 =>
    F40 p0 p1 p2 p3 r1.2.1.1 r1.2.1.2 >>= fun r11 =>
    F41 r9.1 r9.2 r11.1 r11.2 >>= fun r13 =>
    (
      if (w64 ((w64 (r1.1.1 * r1.2.1.2)) - (w64 (r1.1.2 * r1.2.1.1)))) == 1 then
        F41 r9.1 r9.2 r9.1 r9.2 >>= fun r16 =>
        F41 r11.1 r11.2 r11.1 r11.2 >>= fun r18 =>
        if decide (r16 ≤ r18) then
          F41 r9.1 r9.2 r9.1 r9.2 >>= fun r21 =>
          some (decide ((w64 (2 * (mx r13 (w64 (0 - r13))))) ≤ r21))
        else
          some (false)
      else
        if (w64 ((w64 (r1.1.1 * r1.2.1.2)) - (w64 (r1.1.2 * r1.2.1.1)))) == (-1) then
          F41 r9.1 r9.2 r9.1 r9.2 >>= fun r24 =>
          F41 r11.1 r11.2 r11.1 r11.2 >>= fun r26 =>
          if decide (r24 ≤ r26) then
            F41 r9.1 r9.2 r9.1 r9.2 >>= fun r29 =>
            some (decide ((w64 (2 * (mx r13 (w64 (0 - r13))))) ≤ r29))
          else
            some (false)
        else
          some (false)
    : Option Bool) >>= fun m31 =>
    some (((r9.1, r9.2), (r11.1, r11.2)), m31)
def V37 (b : Nat) (r : (((Int × Int) × (Int × Int)) × Bool)) : Value := .tuple ⟨[ag [iv r.1.1.1, iv r.1.1.2, iv r.1.2.1, iv r.1.2.2], .bool r.2]⟩
def N37 (b : Nat) (r : (((Int × Int) × (Int × Int)) × Bool)) : List Blk := []
theorem B37 (p0 : Int) (p1 : Int) (p2 : Int) (p3 : Int) (r : (((Int × Int) × (Int × Int)) × Bool)) (hF : F37 p0 p1 p2 p3 = some r) : TS Try.prog 0 0 c37 (st 85 [(0, ag [iv p0, iv p1, iv p2, iv p3])]) [] (NX Try.prog 0 0 [] (FinP Try.prog Try.f37 0 (V37 0 r) (N37 0 r))) := by
  unfold F37 at hF
  refine TS.seqP (by kernel_rfl) ?_
  refine TS.regionP (by kernel_rfl) ?_
  refine TI.run 3 [1, 2] [0, 1] (a2 := (st 85 [(1, pt 0 0), (2, pt 1 0)])) (h2 := [cl 25 [iv p0, iv p1, iv p2, iv p3], cl 25 [iv 0, iv 0, iv 0, iv 0]]) (by kernel_rfl) ?_
  refine TI.done (by kernel_rfl) ?_
  refine NX.sq ?_
  refine TS.seqP (by kernel_rfl) ?_
  have hX := of_do hF
  clear hF
  obtain ⟨r1, h2, hF⟩ := hX
  refine TS.regionP (by kernel_rfl) ?_
  refine TI.runA 1 [1, 2, 11] (a2 := (st 85 [(1, pt 0 0), (2, pt 1 0), (11, ag [iv p0, iv p1, iv p2, iv p3])])) (by kernel_rfl) ?_
  refine TI.callF (C23 _ _ _ _ _ h2) (by kernel_rfl) (by kernel_rfl) ?_
  refine TI.run 9 [1, 2, 4, 5, 6] [0, 1, 2, 3] (a2 := (st 85 [(1, pt 0 0), (2, pt 1 0), (4, pt 2 0), (5, pt 3 0), (6, iv r1.2.2)])) (h2 := (H37_33 p0 p1 p2 p3 r1)) (by kernel_rfl) ?_
  refine TI.done (by kernel_rfl) ?_
  refine NX.sq ?_
  refine TS.seqP (by kernel_rfl) ?_
  refine TS.seqP (by kernel_rfl) ?_
  have hX := of_do hF
  clear hF
  obtain ⟨m8, hm33, hF⟩ := hX
  have hK : NX Try.prog 0 0 [.sq c37.s2.s2.s1.s2, .sq c37.s2.s2.s2] (FinP Try.prog Try.f37 0 (V37 0 r) (N37 0 r)) .normal (st 85 [(1, pt 0 0), (2, pt 1 0), (4, pt 2 0), (5, pt 3 0), (27, .bool m8)]) (H37_33 p0 p1 p2 p3 r1) := by
    refine NX.sq ?_
    cases m8 with
    | true =>
      replace hF := of_pos hF rfl
      refine TS.condTP (o := (.tmp 27)) (by kernel_rfl) (by kernel_rfl) ?_
      refine TS.seqP (by kernel_rfl) ?_
      refine TS.regionP (by kernel_rfl) ?_
      refine TI.run 3 [2, 3] [1] (a2 := (st 85 [(2, pt 1 0), (3, .bool false)])) (h2 := [.dead, cl 25 [iv p0, iv p1, iv p2, iv p3], .dead, .dead]) (by kernel_rfl) ?_
      refine TI.done (by kernel_rfl) ?_
      refine NX.sq ?_
      refine TS.ret' (by kernel_rfl) ?_
      refine NX.sqR ?_
      have hF := Option.some.inj hF
      subst hF
      exact ⟨.inr rfl, rfl, .tuple ⟨[ag [iv p0, iv p1, iv p2, iv p3], .bool false]⟩, by kernel_rfl, WkV.flat0 (by kernel_rfl) (Nat.le_of_ble_eq_true rfl)⟩
    | false =>
      replace hF := of_neg hF rfl
      refine TS.condFP (o := (.tmp 27)) (by kernel_rfl) (by kernel_rfl) ?_
      refine TS.skip' (by kernel_rfl) ?_
      refine NX.sq ?_
      refine TS.seqP (by kernel_rfl) ?_
      have hX := of_do hF
      clear hF
      obtain ⟨r9, h10, hF⟩ := hX
      have hX := of_do hF
      clear hF
      obtain ⟨r11, h12, hF⟩ := hX
      have hT : ∀ e ∈ ([⟨40, [ag [iv p0, iv p1, iv p2, iv p3], ag [iv r1.1.1, iv r1.1.2]], (H37_33 p0 p1 p2 p3 r1), ag [iv r9.1, iv r9.2], []⟩, ⟨40, [ag [iv p0, iv p1, iv p2, iv p3], ag [iv r1.2.1.1, iv r1.2.1.2]], (H37_33 p0 p1 p2 p3 r1), ag [iv r11.1, iv r11.2], []⟩] : List Entry), PureSim Try.prog e.g e.args e.h e.v e.new := by
        intro e he
        simp only [List.mem_cons, List.not_mem_nil, or_false] at he
        rcases he with rfl | rfl
        · exact PureSim.anyK (C40 _ _ _ _ _ _ _ h10) (by kernel_rfl)
        · exact PureSim.anyK (C40 _ _ _ _ _ _ _ h12) (by kernel_rfl)
      refine TS.drawP [⟨40, [ag [iv p0, iv p1, iv p2, iv p3], ag [iv r1.1.1, iv r1.1.2]], (H37_33 p0 p1 p2 p3 r1), ag [iv r9.1, iv r9.2], []⟩, ⟨40, [ag [iv p0, iv p1, iv p2, iv p3], ag [iv r1.2.1.1, iv r1.2.1.2]], (H37_33 p0 p1 p2 p3 r1), ag [iv r11.1, iv r11.2], []⟩] hT mixed (by kernel_rfl) 8 (by kernel_rfl) [2, 4, 5, 7] [1, 2, 3, 4] (a2 := (st 85 [(2, pt 1 0), (4, pt 2 0), (5, pt 3 0), (7, pt 4 0)])) (h2 := (H37_32 r1 r9 r11)) ?_ ?_
      · refine QJ.run (s1 := (qs (st 85 [(1, pt 0 0), (2, pt 1 0), (4, pt 2 0), (5, pt 3 0), (27, .bool false), (29, ag [iv p0, iv p1, iv p2, iv p3]), (30, ag [iv r1.1.1, iv r1.1.2])]) (H37_33 p0 p1 p2 p3 r1) [] [])) 2 (by kernel_rfl) (by kernel_rfl) ?_
        refine QJ.op (q := { val := ag [iv r9.1, iv r9.2], new := [] }) (by decide) (qOf_call (g := 40) (args := [ag [iv p0, iv p1, iv p2, iv p3], ag [iv r1.1.1, iv r1.1.2]]) (by kernel_rfl) lookC_hit) ?_
        refine QJ.run (s1 := (qs (st 85 [(1, pt 0 0), (2, pt 1 0), (4, pt 2 0), (5, pt 3 0), (27, .bool false), (29, ag [iv p0, iv p1, iv p2, iv p3]), (30, ag [iv r1.1.1, iv r1.1.2]), (31, ag [iv r9.1, iv r9.2]), (32, ag [iv p0, iv p1, iv p2, iv p3]), (33, ag [iv r1.2.1.1, iv r1.2.1.2])]) (H37_33 p0 p1 p2 p3 r1) [] [])) 2 (by kernel_rfl) (by kernel_rfl) ?_
        refine QJ.op (q := { val := ag [iv r11.1, iv r11.2], new := [] }) (by decide) (qOf_call (g := 40) (args := [ag [iv p0, iv p1, iv p2, iv p3], ag [iv r1.2.1.1, iv r1.2.1.2]]) (by kernel_rfl) (lookC_skip (by intro _ ha _; have hr := Option.some.inj (h10.symm.trans (Eq.trans (congr (congr (congr (congr (congr (congrArg F40 (Eq.refl p0)) (Eq.refl p1)) (Eq.refl p2)) (Eq.refl p3)) (show r1.1.1 = r1.2.1.1 from congrArg (leafI 4) ha)) (show r1.1.2 = r1.2.1.2 from congrArg (leafI 5) ha)) h12)); first | (subst hr; rfl) | (cases hr; done) | (cases hr; rfl)) lookC_hit)) ?_
        refine QJ.run (s1 := (qs (st 85 [(1, pt 0 0), (2, pt 1 0), (4, pt 2 0), (5, pt 3 0), (7, pt 4 0), (27, .bool false), (29, ag [iv p0, iv p1, iv p2, iv p3]), (30, ag [iv r1.1.1, iv r1.1.2]), (31, ag [iv r9.1, iv r9.2]), (32, ag [iv p0, iv p1, iv p2, iv p3]), (33, ag [iv r1.2.1.1, iv r1.2.1.2]), (34, ag [iv r11.1, iv r11.2]), (35, ag [iv r9.1, iv r9.2, iv r11.1, iv r11.2])]) [cl 25 [iv p0, iv p1, iv p2, iv p3], cl 25 [iv 0, iv 0, iv 0, iv 0], cl 27 [iv r1.1.1, iv r1.1.2], cl 27 [iv r1.2.1.1, iv r1.2.1.2], cl 25 [iv 0, iv 0, iv 0, iv 0]] [(7, 4, 5)] [])) 2 (by kernel_rfl) (by kernel_rfl) ?_
        refine QJ.done (by kernel_rfl) ⟨rfl, ?_⟩
        refine SJ.last (by kernel_rfl)
      refine TS.seqP (by kernel_rfl) ?_
      have hX := of_do hF
      clear hF
      obtain ⟨r13, h14, hF⟩ := hX
      have hT : ∀ e ∈ ([⟨41, [ag [iv r9.1, iv r9.2], ag [iv r11.1, iv r11.2]], (H37_32 r1 r9 r11), iv r13, []⟩] : List Entry), PureSim Try.prog e.g e.args e.h e.v e.new := by
        intro e he
        simp only [List.mem_cons, List.not_mem_nil, or_false] at he
        rcases he with rfl
        · exact PureSim.anyK (C41 _ _ _ _ _ h14) (by kernel_rfl)
      refine TS.drawP [⟨41, [ag [iv r9.1, iv r9.2], ag [iv r11.1, iv r11.2]], (H37_32 r1 r9 r11), iv r13, []⟩] hT mixed (by kernel_rfl) 16 (by kernel_rfl) [2, 7, 8, 9] [1, 4] (a2 := (st 85 [(2, pt 1 0), (7, pt 4 0), (8, iv (w64 ((w64 (r1.1.1 * r1.2.1.2)) - (w64 (r1.1.2 * r1.2.1.1))))), (9, iv r13)])) (h2 := (H37_36 r9 r11)) ?_ ?_
      · refine QJ.run (s1 := (qs (st 85 [(2, pt 1 0), (4, pt 2 0), (5, pt 3 0), (7, pt 4 0), (36, pt 2 0), (37, iv r1.1.1), (38, pt 3 1), (39, iv r1.2.1.2), (40, iv (w64 (r1.1.1 * r1.2.1.2))), (41, pt 2 1), (42, iv r1.1.2), (43, pt 3 0), (44, iv r1.2.1.1), (45, iv (w64 (r1.1.2 * r1.2.1.1))), (46, iv (w64 ((w64 (r1.1.1 * r1.2.1.2)) - (w64 (r1.1.2 * r1.2.1.1))))), (47, pt 4 0), (48, ag [iv r9.1, iv r9.2]), (49, pt 4 2), (50, ag [iv r11.1, iv r11.2])]) (H37_32 r1 r9 r11) [] [])) 15 (by kernel_rfl) (by kernel_rfl) ?_
        refine QJ.op (q := { val := iv r13, new := [] }) (by decide) (qOf_call (g := 41) (args := [ag [iv r9.1, iv r9.2], ag [iv r11.1, iv r11.2]]) (by kernel_rfl) lookC_hit) ?_
        refine QJ.done (by kernel_rfl) ⟨rfl, ?_⟩
        refine SJ.last (by kernel_rfl)
      refine TS.seqP (by kernel_rfl) ?_
      have hX := of_do hF
      clear hF
      obtain ⟨m31, hm32, hF⟩ := hX
      have hK : NX Try.prog 0 0 [.sq c37.s2.s2.s2.s2.s2.s2] (FinP Try.prog Try.f37 0 (V37 0 r) (N37 0 r)) .normal (st 85 [(2, pt 1 0), (3, .bool m31)]) (H37_40 r9 r11) := by
        refine NX.sq ?_
        refine TS.ret' (by kernel_rfl) ?_
        have hF := Option.some.inj hF
        subst hF
        exact ⟨.inr rfl, rfl, .tuple ⟨[ag [iv r9.1, iv r9.2, iv r11.1, iv r11.2], .bool m31]⟩, by kernel_rfl, WkV.flat0 (by kernel_rfl) (Nat.le_of_ble_eq_true rfl)⟩
      rcases Bool.eq_false_or_eq_true ((w64 ((w64 (r1.1.1 * r1.2.1.2)) - (w64 (r1.1.2 * r1.2.1.1)))) == 1) with hc15 | hc15
      · replace hm32 := of_pos hm32 hc15
        have hX := of_do hm32
        clear hm32
        obtain ⟨r16, h17, hm32⟩ := hX
        have hX := of_do hm32
        clear hm32
        obtain ⟨r18, h19, hm32⟩ := hX
        rcases Bool.eq_false_or_eq_true (decide (r16 ≤ r18)) with hc20 | hc20
        · replace hm32 := of_pos hm32 hc20
          have hX := of_do hm32
          clear hm32
          obtain ⟨r21, h22, hm32⟩ := hX
          have hm32 := Option.some.inj hm32
          subst hm32
          have hT : ∀ e ∈ ([⟨41, [ag [iv r9.1, iv r9.2], ag [iv r9.1, iv r9.2]], (H37_36 r9 r11), iv r16, []⟩, ⟨41, [ag [iv r11.1, iv r11.2], ag [iv r11.1, iv r11.2]], (H37_36 r9 r11), iv r18, []⟩, ⟨41, [ag [iv r9.1, iv r9.2], ag [iv r9.1, iv r9.2]], (H37_36 r9 r11), iv r21, []⟩] : List Entry), PureSim Try.prog e.g e.args e.h e.v e.new := by
            intro e he
            simp only [List.mem_cons, List.not_mem_nil, or_false] at he
            rcases he with rfl | rfl | rfl
            · exact PureSim.anyK (C41 _ _ _ _ _ h17) (by kernel_rfl)
            · exact PureSim.anyK (C41 _ _ _ _ _ h19) (by kernel_rfl)
            · exact PureSim.anyK (C41 _ _ _ _ _ h22) (by kernel_rfl)
          refine TS.draw' (id := 6) (b := true) (ops := c37.s2.s2.s2.s2.s2.s1.rops) (fin := (qs (S37_3 r1 r13 r9 r11 r16 r18 r21) (H37_34 r9 r11) [] [(33, 1)])) (fin2 := (qs (S37_3 r1 r13 r9 r11 r16 r18 r21) (H37_34 r9 r11) [] [(33, 1)])) (a1 := (S37_1 r13 r21 r1 r9 r11 r16 r18)) (h1 := (H37_34 r9 r11)) (a2 := (st 85 [(2, pt 1 0), (3, .bool (decide ((w64 (2 * (mx r13 (w64 (0 - r13))))) ≤ r21)))])) (h2 := (H37_40 r9 r11)) [⟨41, [ag [iv r9.1, iv r9.2], ag [iv r9.1, iv r9.2]], (H37_36 r9 r11), iv r16, []⟩, ⟨41, [ag [iv r11.1, iv r11.2], ag [iv r11.1, iv r11.2]], (H37_36 r9 r11), iv r18, []⟩, ⟨41, [ag [iv r9.1, iv r9.2], ag [iv r9.1, iv r9.2]], (H37_36 r9 r11), iv r21, []⟩] hT mixed (by kernel_rfl) rfl 34 (by kernel_rfl) [(33, 1)] ?_ rfl (.inr ⟨?_, (by kernel_rfl)⟩) ?_ [2, 3] [1] (by kernel_rfl) ?_
          · refine QI.run (s1 := (qs (S37_31 r1 r13 r9 r11) (H37_36 r9 r11) [] [])) 2 (by kernel_rfl) (by kernel_rfl) ?_
            refine QI.op (q := { val := .bool true }) (s1 := (qs (S37_30 r1 r13 r9 r11) (H37_36 r9 r11) [] [])) (by decide) (q_conv (e := (w64 ((w64 (r1.1.1 * r1.2.1.2)) - (w64 (r1.1.2 * r1.2.1.1)))) == 1) (b := true) (by kernel_rfl) hc15) (by kernel_rfl) ?_
            refine QI.run (s1 := (qs (S37_25 r1 r13 r9 r11) (H37_36 r9 r11) [] [])) 9 (by kernel_rfl) (by kernel_rfl) ?_
            refine QI.op (q := { val := iv r16, new := [] }) (s1 := (qs (S37_24 r1 r13 r9 r11 r16) (H37_36 r9 r11) [] [])) (by decide) (qOf_call (g := 41) (args := [ag [iv r9.1, iv r9.2], ag [iv r9.1, iv r9.2]]) (by kernel_rfl) lookC_hit) (by kernel_rfl) ?_
            refine QI.run (s1 := (qs (S37_21 r1 r13 r9 r11 r16) (H37_36 r9 r11) [] [])) 4 (by kernel_rfl) (by kernel_rfl) ?_
            refine QI.op (q := { val := iv r18, new := [] }) (s1 := (qs (S37_20 r1 r13 r9 r11 r16 r18) (H37_36 r9 r11) [] [])) (by decide) (qOf_call (g := 41) (args := [ag [iv r11.1, iv r11.2], ag [iv r11.1, iv r11.2]]) (by kernel_rfl) (lookC_skip (by intro _ ha _; have hr := Option.some.inj (h17.symm.trans (Eq.trans (congr (congr (congr (congrArg F41 (show r9.1 = r11.1 from congrArg (leafI 0) ha)) (show r9.2 = r11.2 from congrArg (leafI 1) ha)) (show r9.1 = r11.1 from congrArg (leafI 2) ha)) (show r9.2 = r11.2 from congrArg (leafI 3) ha)) h19)); first | (subst hr; rfl) | (cases hr; done) | (cases hr; rfl)) lookC_hit)) (by kernel_rfl) ?_
            refine QI.op (q := { val := .bool true }) (s1 := (qs (S37_19 r1 r13 r9 r11 r16 r18) (H37_36 r9 r11) [] [])) (by decide) (q_conv (e := decide (r16 ≤ r18)) (b := true) (by kernel_rfl) hc20) (by kernel_rfl) ?_
            refine QI.run (s1 := (qs (S37_9 r1 r13 r9 r11 r16 r18) (H37_36 r9 r11) [] [])) 11 (by kernel_rfl) (by kernel_rfl) ?_
            refine QI.op (q := { val := iv r21, new := [] }) (s1 := (qs (S37_7 r1 r13 r9 r11 r16 r18 r21) (H37_36 r9 r11) [] [])) (by decide) (qOf_call (g := 41) (args := [ag [iv r9.1, iv r9.2], ag [iv r9.1, iv r9.2]]) (by kernel_rfl) (lookC_skip (by intro _ ha _; have hr := Option.some.inj (h17.symm.trans (Eq.trans (congr (congr (congr (congrArg F41 (Eq.refl r9.1)) (Eq.refl r9.2)) (Eq.refl r9.1)) (Eq.refl r9.2)) h22)); first | (subst hr; rfl) | (cases hr; done) | (cases hr; rfl)) (lookC_skip (by intro _ ha _; have hr := Option.some.inj (h19.symm.trans (Eq.trans (congr (congr (congr (congrArg F41 (show r11.1 = r9.1 from congrArg (leafI 0) ha)) (show r11.2 = r9.2 from congrArg (leafI 1) ha)) (show r11.1 = r9.1 from congrArg (leafI 2) ha)) (show r11.2 = r9.2 from congrArg (leafI 3) ha)) h22)); first | (subst hr; rfl) | (cases hr; done) | (cases hr; rfl)) lookC_hit))) (by kernel_rfl) ?_
            refine QI.run (s1 := (qs (S37_3 r1 r13 r9 r11 r16 r18 r21) (H37_34 r9 r11) [] [(33, 1)])) 3 (by kernel_rfl) (by kernel_rfl) ?_
            exact QI.done (by kernel_rfl)
          · refine QI.run (s1 := (qs (S37_31 r1 r13 r9 r11) (H37_36 r9 r11) [] [])) 2 (by kernel_rfl) (by kernel_rfl) ?_
            refine QI.op (q := { val := .bool true }) (s1 := (qs (S37_30 r1 r13 r9 r11) (H37_36 r9 r11) [] [])) (by decide) (q_conv (e := (w64 ((w64 (r1.1.1 * r1.2.1.2)) - (w64 (r1.1.2 * r1.2.1.1)))) == 1) (b := true) (by kernel_rfl) hc15) (by kernel_rfl) ?_
            refine QI.run (s1 := (qs (S37_25 r1 r13 r9 r11) (H37_36 r9 r11) [] [])) 9 (by kernel_rfl) (by kernel_rfl) ?_
            refine QI.op (q := { val := iv r16, new := [] }) (s1 := (qs (S37_24 r1 r13 r9 r11 r16) (H37_36 r9 r11) [] [])) (by decide) (qOf_call (g := 41) (args := [ag [iv r9.1, iv r9.2], ag [iv r9.1, iv r9.2]]) (by kernel_rfl) lookC_hit) (by kernel_rfl) ?_
            refine QI.run (s1 := (qs (S37_21 r1 r13 r9 r11 r16) (H37_36 r9 r11) [] [])) 4 (by kernel_rfl) (by kernel_rfl) ?_
            refine QI.op (q := { val := iv r18, new := [] }) (s1 := (qs (S37_20 r1 r13 r9 r11 r16 r18) (H37_36 r9 r11) [] [])) (by decide) (qOf_call (g := 41) (args := [ag [iv r11.1, iv r11.2], ag [iv r11.1, iv r11.2]]) (by kernel_rfl) (lookC_skip (by intro _ ha _; have hr := Option.some.inj (h17.symm.trans (Eq.trans (congr (congr (congr (congrArg F41 (show r9.1 = r11.1 from congrArg (leafI 0) ha)) (show r9.2 = r11.2 from congrArg (leafI 1) ha)) (show r9.1 = r11.1 from congrArg (leafI 2) ha)) (show r9.2 = r11.2 from congrArg (leafI 3) ha)) h19)); first | (subst hr; rfl) | (cases hr; done) | (cases hr; rfl)) lookC_hit)) (by kernel_rfl) ?_
            refine QI.op (q := { val := .bool true }) (s1 := (qs (S37_19 r1 r13 r9 r11 r16 r18) (H37_36 r9 r11) [] [])) (by decide) (q_conv (e := decide (r16 ≤ r18)) (b := true) (by kernel_rfl) hc20) (by kernel_rfl) ?_
            refine QI.run (s1 := (qs (S37_9 r1 r13 r9 r11 r16 r18) (H37_36 r9 r11) [] [])) 11 (by kernel_rfl) (by kernel_rfl) ?_
            refine QI.op (q := { val := iv r21, new := [] }) (s1 := (qs (S37_7 r1 r13 r9 r11 r16 r18 r21) (H37_36 r9 r11) [] [])) (by decide) (qOf_call (g := 41) (args := [ag [iv r9.1, iv r9.2], ag [iv r9.1, iv r9.2]]) (by kernel_rfl) (lookC_skip (by intro _ ha _; have hr := Option.some.inj (h17.symm.trans (Eq.trans (congr (congr (congr (congrArg F41 (Eq.refl r9.1)) (Eq.refl r9.2)) (Eq.refl r9.1)) (Eq.refl r9.2)) h22)); first | (subst hr; rfl) | (cases hr; done) | (cases hr; rfl)) (lookC_skip (by intro _ ha _; have hr := Option.some.inj (h19.symm.trans (Eq.trans (congr (congr (congr (congrArg F41 (show r11.1 = r9.1 from congrArg (leafI 0) ha)) (show r11.2 = r9.2 from congrArg (leafI 1) ha)) (show r11.1 = r9.1 from congrArg (leafI 2) ha)) (show r11.2 = r9.2 from congrArg (leafI 3) ha)) h22)); first | (subst hr; rfl) | (cases hr; done) | (cases hr; rfl)) lookC_hit))) (by kernel_rfl) ?_
            refine QI.run (s1 := (qs (S37_3 r1 r13 r9 r11 r16 r18 r21) (H37_34 r9 r11) [] [(33, 1)])) 3 (by kernel_rfl) (by kernel_rfl) ?_
            exact QI.done (by kernel_rfl)
          · refine SI.run (a2 := (S37_1 r13 r21 r1 r9 r11 r16 r18)) (h2 := (H37_34 r9 r11)) 1 (by kernel_rfl) ?_
            exact SI.done (by kernel_rfl)
          exact hK
        · replace hm32 := of_neg hm32 hc20
          have hm32 := Option.some.inj hm32
          subst hm32
          have hT : ∀ e ∈ ([⟨41, [ag [iv r9.1, iv r9.2], ag [iv r9.1, iv r9.2]], (H37_36 r9 r11), iv r16, []⟩, ⟨41, [ag [iv r11.1, iv r11.2], ag [iv r11.1, iv r11.2]], (H37_36 r9 r11), iv r18, []⟩] : List Entry), PureSim Try.prog e.g e.args e.h e.v e.new := by
            intro e he
            simp only [List.mem_cons, List.not_mem_nil, or_false] at he
            rcases he with rfl | rfl
            · exact PureSim.anyK (C41 _ _ _ _ _ h17) (by kernel_rfl)
            · exact PureSim.anyK (C41 _ _ _ _ _ h19) (by kernel_rfl)
          refine TS.draw' (id := 6) (b := true) (ops := c37.s2.s2.s2.s2.s2.s1.rops) (fin := (qs (S37_12 r1 r13 r9 r11 r16 r18) (H37_34 r9 r11) [] [(33, 1)])) (fin2 := (qs (S37_12 r1 r13 r9 r11 r16 r18) (H37_34 r9 r11) [] [(33, 1)])) (a1 := (S37_10 r1 r13 r9 r11 r16 r18)) (h1 := (H37_34 r9 r11)) (a2 := (st 85 [(2, pt 1 0), (3, .bool false)])) (h2 := (H37_40 r9 r11)) [⟨41, [ag [iv r9.1, iv r9.2], ag [iv r9.1, iv r9.2]], (H37_36 r9 r11), iv r16, []⟩, ⟨41, [ag [iv r11.1, iv r11.2], ag [iv r11.1, iv r11.2]], (H37_36 r9 r11), iv r18, []⟩] hT mixed (by kernel_rfl) rfl 34 (by kernel_rfl) [(33, 1)] ?_ rfl (.inr ⟨?_, (by kernel_rfl)⟩) ?_ [2, 3] [1] (by kernel_rfl) ?_
          · refine QI.run (s1 := (qs (S37_31 r1 r13 r9 r11) (H37_36 r9 r11) [] [])) 2 (by kernel_rfl) (by kernel_rfl) ?_
            refine QI.op (q := { val := .bool true }) (s1 := (qs (S37_30 r1 r13 r9 r11) (H37_36 r9 r11) [] [])) (by decide) (q_conv (e := (w64 ((w64 (r1.1.1 * r1.2.1.2)) - (w64 (r1.1.2 * r1.2.1.1)))) == 1) (b := true) (by kernel_rfl) hc15) (by kernel_rfl) ?_
            refine QI.run (s1 := (qs (S37_25 r1 r13 r9 r11) (H37_36 r9 r11) [] [])) 9 (by kernel_rfl) (by kernel_rfl) ?_
            refine QI.op (q := { val := iv r16, new := [] }) (s1 := (qs (S37_24 r1 r13 r9 r11 r16) (H37_36 r9 r11) [] [])) (by decide) (qOf_call (g := 41) (args := [ag [iv r9.1, iv r9.2], ag [iv r9.1, iv r9.2]]) (by kernel_rfl) lookC_hit) (by kernel_rfl) ?_
            refine QI.run (s1 := (qs (S37_21 r1 r13 r9 r11 r16) (H37_36 r9 r11) [] [])) 4 (by kernel_rfl) (by kernel_rfl) ?_
            refine QI.op (q := { val := iv r18, new := [] }) (s1 := (qs (S37_20 r1 r13 r9 r11 r16 r18) (H37_36 r9 r11) [] [])) (by decide) (qOf_call (g := 41) (args := [ag [iv r11.1, iv r11.2], ag [iv r11.1, iv r11.2]]) (by kernel_rfl) (lookC_skip (by intro _ ha _; have hr := Option.some.inj (h17.symm.trans (Eq.trans (congr (congr (congr (congrArg F41 (show r9.1 = r11.1 from congrArg (leafI 0) ha)) (show r9.2 = r11.2 from congrArg (leafI 1) ha)) (show r9.1 = r11.1 from congrArg (leafI 2) ha)) (show r9.2 = r11.2 from congrArg (leafI 3) ha)) h19)); first | (subst hr; rfl) | (cases hr; done) | (cases hr; rfl)) lookC_hit)) (by kernel_rfl) ?_
            refine QI.op (q := { val := .bool false }) (s1 := (qs (S37_18 r1 r13 r9 r11 r16 r18) (H37_36 r9 r11) [] [])) (by decide) (q_conv (e := decide (r16 ≤ r18)) (b := false) (by kernel_rfl) hc20) (by kernel_rfl) ?_
            refine QI.run (s1 := (qs (S37_12 r1 r13 r9 r11 r16 r18) (H37_34 r9 r11) [] [(33, 1)])) 15 (by kernel_rfl) (by kernel_rfl) ?_
            exact QI.done (by kernel_rfl)
          · refine QI.run (s1 := (qs (S37_31 r1 r13 r9 r11) (H37_36 r9 r11) [] [])) 2 (by kernel_rfl) (by kernel_rfl) ?_
            refine QI.op (q := { val := .bool true }) (s1 := (qs (S37_30 r1 r13 r9 r11) (H37_36 r9 r11) [] [])) (by decide) (q_conv (e := (w64 ((w64 (r1.1.1 * r1.2.1.2)) - (w64 (r1.1.2 * r1.2.1.1)))) == 1) (b := true) (by kernel_rfl) hc15) (by kernel_rfl) ?_
            refine QI.run (s1 := (qs (S37_25 r1 r13 r9 r11) (H37_36 r9 r11) [] [])) 9 (by kernel_rfl) (by kernel_rfl) ?_
            refine QI.op (q := { val := iv r16, new := [] }) (s1 := (qs (S37_24 r1 r13 r9 r11 r16) (H37_36 r9 r11) [] [])) (by decide) (qOf_call (g := 41) (args := [ag [iv r9.1, iv r9.2], ag [iv r9.1, iv r9.2]]) (by kernel_rfl) lookC_hit) (by kernel_rfl) ?_
            refine QI.run (s1 := (qs (S37_21 r1 r13 r9 r11 r16) (H37_36 r9 r11) [] [])) 4 (by kernel_rfl) (by kernel_rfl) ?_
            refine QI.op (q := { val := iv r18, new := [] }) (s1 := (qs (S37_20 r1 r13 r9 r11 r16 r18) (H37_36 r9 r11) [] [])) (by decide) (qOf_call (g := 41) (args := [ag [iv r11.1, iv r11.2], ag [iv r11.1, iv r11.2]]) (by kernel_rfl) (lookC_skip (by intro _ ha _; have hr := Option.some.inj (h17.symm.trans (Eq.trans (congr (congr (congr (congrArg F41 (show r9.1 = r11.1 from congrArg (leafI 0) ha)) (show r9.2 = r11.2 from congrArg (leafI 1) ha)) (show r9.1 = r11.1 from congrArg (leafI 2) ha)) (show r9.2 = r11.2 from congrArg (leafI 3) ha)) h19)); first | (subst hr; rfl) | (cases hr; done) | (cases hr; rfl)) lookC_hit)) (by kernel_rfl) ?_
            refine QI.op (q := { val := .bool false }) (s1 := (qs (S37_18 r1 r13 r9 r11 r16 r18) (H37_36 r9 r11) [] [])) (by decide) (q_conv (e := decide (r16 ≤ r18)) (b := false) (by kernel_rfl) hc20) (by kernel_rfl) ?_
            refine QI.run (s1 := (qs (S37_12 r1 r13 r9 r11 r16 r18) (H37_34 r9 r11) [] [(33, 1)])) 15 (by kernel_rfl) (by kernel_rfl) ?_
            exact QI.done (by kernel_rfl)
          · refine SI.run (a2 := (S37_10 r1 r13 r9 r11 r16 r18)) (h2 := (H37_34 r9 r11)) 1 (by kernel_rfl) ?_
            exact SI.done (by kernel_rfl)
          exact hK
      · replace hm32 := of_neg hm32 hc15
        rcases Bool.eq_false_or_eq_true ((w64 ((w64 (r1.1.1 * r1.2.1.2)) - (w64 (r1.1.2 * r1.2.1.1)))) == (-1)) with hc23 | hc23
        · replace hm32 := of_pos hm32 hc23
          have hX := of_do hm32
          clear hm32
          obtain ⟨r24, h25, hm32⟩ := hX
          have hX := of_do hm32
          clear hm32
          obtain ⟨r26, h27, hm32⟩ := hX
          rcases Bool.eq_false_or_eq_true (decide (r24 ≤ r26)) with hc28 | hc28
          · replace hm32 := of_pos hm32 hc28
            have hX := of_do hm32
            clear hm32
            obtain ⟨r29, h30, hm32⟩ := hX
            have hm32 := Option.some.inj hm32
            subst hm32
            have hT : ∀ e ∈ ([⟨41, [ag [iv r9.1, iv r9.2], ag [iv r9.1, iv r9.2]], (H37_36 r9 r11), iv r24, []⟩, ⟨41, [ag [iv r11.1, iv r11.2], ag [iv r11.1, iv r11.2]], (H37_36 r9 r11), iv r26, []⟩, ⟨41, [ag [iv r9.1, iv r9.2], ag [iv r9.1, iv r9.2]], (H37_36 r9 r11), iv r29, []⟩] : List Entry), PureSim Try.prog e.g e.args e.h e.v e.new := by
              intro e he
              simp only [List.mem_cons, List.not_mem_nil, or_false] at he
              rcases he with rfl | rfl | rfl
              · exact PureSim.anyK (C41 _ _ _ _ _ h25) (by kernel_rfl)
              · exact PureSim.anyK (C41 _ _ _ _ _ h27) (by kernel_rfl)
              · exact PureSim.anyK (C41 _ _ _ _ _ h30) (by kernel_rfl)
            refine TS.draw' (id := 6) (b := true) (ops := c37.s2.s2.s2.s2.s2.s1.rops) (fin := (qs (S37_2 r1 r13 r9 r11 r24 r26 r29) (H37_34 r9 r11) [] [(33, 1)])) (fin2 := (qs (S37_2 r1 r13 r9 r11 r24 r26 r29) (H37_34 r9 r11) [] [(33, 1)])) (a1 := (S37_0 r13 r29 r1 r9 r11 r24 r26)) (h1 := (H37_34 r9 r11)) (a2 := (st 85 [(2, pt 1 0), (3, .bool (decide ((w64 (2 * (mx r13 (w64 (0 - r13))))) ≤ r29)))])) (h2 := (H37_40 r9 r11)) [⟨41, [ag [iv r9.1, iv r9.2], ag [iv r9.1, iv r9.2]], (H37_36 r9 r11), iv r24, []⟩, ⟨41, [ag [iv r11.1, iv r11.2], ag [iv r11.1, iv r11.2]], (H37_36 r9 r11), iv r26, []⟩, ⟨41, [ag [iv r9.1, iv r9.2], ag [iv r9.1, iv r9.2]], (H37_36 r9 r11), iv r29, []⟩] hT mixed (by kernel_rfl) rfl 34 (by kernel_rfl) [(33, 1)] ?_ rfl (.inr ⟨?_, (by kernel_rfl)⟩) ?_ [2, 3] [1] (by kernel_rfl) ?_
            · refine QI.run (s1 := (qs (S37_31 r1 r13 r9 r11) (H37_36 r9 r11) [] [])) 2 (by kernel_rfl) (by kernel_rfl) ?_
              refine QI.op (q := { val := .bool false }) (s1 := (qs (S37_29 r1 r13 r9 r11) (H37_36 r9 r11) [] [])) (by decide) (q_conv (e := (w64 ((w64 (r1.1.1 * r1.2.1.2)) - (w64 (r1.1.2 * r1.2.1.1)))) == 1) (b := false) (by kernel_rfl) hc15) (by kernel_rfl) ?_
              refine QI.run (s1 := (qs (S37_28 r1 r13 r9 r11) (H37_36 r9 r11) [] [])) 2 (by kernel_rfl) (by kernel_rfl) ?_
              refine QI.op (q := { val := .bool true }) (s1 := (qs (S37_27 r1 r13 r9 r11) (H37_36 r9 r11) [] [])) (by decide) (q_conv (e := (w64 ((w64 (r1.1.1 * r1.2.1.2)) - (w64 (r1.1.2 * r1.2.1.1)))) == (-1)) (b := true) (by kernel_rfl) hc23) (by kernel_rfl) ?_
              refine QI.run (s1 := (qs (S37_23 r1 r13 r9 r11) (H37_36 r9 r11) [] [])) 6 (by kernel_rfl) (by kernel_rfl) ?_
              refine QI.op (q := { val := iv r24, new := [] }) (s1 := (qs (S37_22 r1 r13 r9 r11 r24) (H37_36 r9 r11) [] [])) (by decide) (qOf_call (g := 41) (args := [ag [iv r9.1, iv r9.2], ag [iv r9.1, iv r9.2]]) (by kernel_rfl) lookC_hit) (by kernel_rfl) ?_
              refine QI.run (s1 := (qs (S37_17 r1 r13 r9 r11 r24) (H37_36 r9 r11) [] [])) 4 (by kernel_rfl) (by kernel_rfl) ?_
              refine QI.op (q := { val := iv r26, new := [] }) (s1 := (qs (S37_16 r1 r13 r9 r11 r24 r26) (H37_36 r9 r11) [] [])) (by decide) (qOf_call (g := 41) (args := [ag [iv r11.1, iv r11.2], ag [iv r11.1, iv r11.2]]) (by kernel_rfl) (lookC_skip (by intro _ ha _; have hr := Option.some.inj (h25.symm.trans (Eq.trans (congr (congr (congr (congrArg F41 (show r9.1 = r11.1 from congrArg (leafI 0) ha)) (show r9.2 = r11.2 from congrArg (leafI 1) ha)) (show r9.1 = r11.1 from congrArg (leafI 2) ha)) (show r9.2 = r11.2 from congrArg (leafI 3) ha)) h27)); first | (subst hr; rfl) | (cases hr; done) | (cases hr; rfl)) lookC_hit)) (by kernel_rfl) ?_
              refine QI.op (q := { val := .bool true }) (s1 := (qs (S37_15 r1 r13 r9 r11 r24 r26) (H37_36 r9 r11) [] [])) (by decide) (q_conv (e := decide (r24 ≤ r26)) (b := true) (by kernel_rfl) hc28) (by kernel_rfl) ?_
              refine QI.run (s1 := (qs (S37_5 r1 r13 r9 r11 r24 r26) (H37_36 r9 r11) [] [])) 11 (by kernel_rfl) (by kernel_rfl) ?_
              refine QI.op (q := { val := iv r29, new := [] }) (s1 := (qs (S37_4 r1 r13 r9 r11 r24 r26 r29) (H37_36 r9 r11) [] [])) (by decide) (qOf_call (g := 41) (args := [ag [iv r9.1, iv r9.2], ag [iv r9.1, iv r9.2]]) (by kernel_rfl) (lookC_skip (by intro _ ha _; have hr := Option.some.inj (h25.symm.trans (Eq.trans (congr (congr (congr (congrArg F41 (Eq.refl r9.1)) (Eq.refl r9.2)) (Eq.refl r9.1)) (Eq.refl r9.2)) h30)); first | (subst hr; rfl) | (cases hr; done) | (cases hr; rfl)) (lookC_skip (by intro _ ha _; have hr := Option.some.inj (h27.symm.trans (Eq.trans (congr (congr (congr (congrArg F41 (show r11.1 = r9.1 from congrArg (leafI 0) ha)) (show r11.2 = r9.2 from congrArg (leafI 1) ha)) (show r11.1 = r9.1 from congrArg (leafI 2) ha)) (show r11.2 = r9.2 from congrArg (leafI 3) ha)) h30)); first | (subst hr; rfl) | (cases hr; done) | (cases hr; rfl)) lookC_hit))) (by kernel_rfl) ?_
              refine QI.run (s1 := (qs (S37_2 r1 r13 r9 r11 r24 r26 r29) (H37_34 r9 r11) [] [(33, 1)])) 3 (by kernel_rfl) (by kernel_rfl) ?_
              exact QI.done (by kernel_rfl)
            · refine QI.run (s1 := (qs (S37_31 r1 r13 r9 r11) (H37_36 r9 r11) [] [])) 2 (by kernel_rfl) (by kernel_rfl) ?_
              refine QI.op (q := { val := .bool false }) (s1 := (qs (S37_29 r1 r13 r9 r11) (H37_36 r9 r11) [] [])) (by decide) (q_conv (e := (w64 ((w64 (r1.1.1 * r1.2.1.2)) - (w64 (r1.1.2 * r1.2.1.1)))) == 1) (b := false) (by kernel_rfl) hc15) (by kernel_rfl) ?_
              refine QI.run (s1 := (qs (S37_28 r1 r13 r9 r11) (H37_36 r9 r11) [] [])) 2 (by kernel_rfl) (by kernel_rfl) ?_
              refine QI.op (q := { val := .bool true }) (s1 := (qs (S37_27 r1 r13 r9 r11) (H37_36 r9 r11) [] [])) (by decide) (q_conv (e := (w64 ((w64 (r1.1.1 * r1.2.1.2)) - (w64 (r1.1.2 * r1.2.1.1)))) == (-1)) (b := true) (by kernel_rfl) hc23) (by kernel_rfl) ?_
              refine QI.run (s1 := (qs (S37_23 r1 r13 r9 r11) (H37_36 r9 r11) [] [])) 6 (by kernel_rfl) (by kernel_rfl) ?_
              refine QI.op (q := { val := iv r24, new := [] }) (s1 := (qs (S37_22 r1 r13 r9 r11 r24) (H37_36 r9 r11) [] [])) (by decide) (qOf_call (g := 41) (args := [ag [iv r9.1, iv r9.2], ag [iv r9.1, iv r9.2]]) (by kernel_rfl) lookC_hit) (by kernel_rfl) ?_
              refine QI.run (s1 := (qs (S37_17 r1 r13 r9 r11 r24) (H37_36 r9 r11) [] [])) 4 (by kernel_rfl) (by kernel_rfl) ?_
              refine QI.op (q := { val := iv r26, new := [] }) (s1 := (qs (S37_16 r1 r13 r9 r11 r24 r26) (H37_36 r9 r11) [] [])) (by decide) (qOf_call (g := 41) (args := [ag [iv r11.1, iv r11.2], ag [iv r11.1, iv r11.2]]) (by kernel_rfl) (lookC_skip (by intro _ ha _; have hr := Option.some.inj (h25.symm.trans (Eq.trans (congr (congr (congr (congrArg F41 (show r9.1 = r11.1 from congrArg (leafI 0) ha)) (show r9.2 = r11.2 from congrArg (leafI 1) ha)) (show r9.1 = r11.1 from congrArg (leafI 2) ha)) (show r9.2 = r11.2 from congrArg (leafI 3) ha)) h27)); first | (subst hr; rfl) | (cases hr; done) | (cases hr; rfl)) lookC_hit)) (by kernel_rfl) ?_
              refine QI.op (q := { val := .bool true }) (s1 := (qs (S37_15 r1 r13 r9 r11 r24 r26) (H37_36 r9 r11) [] [])) (by decide) (q_conv (e := decide (r24 ≤ r26)) (b := true) (by kernel_rfl) hc28) (by kernel_rfl) ?_
              refine QI.run (s1 := (qs (S37_5 r1 r13 r9 r11 r24 r26) (H37_36 r9 r11) [] [])) 11 (by kernel_rfl) (by kernel_rfl) ?_
              refine QI.op (q := { val := iv r29, new := [] }) (s1 := (qs (S37_4 r1 r13 r9 r11 r24 r26 r29) (H37_36 r9 r11) [] [])) (by decide) (qOf_call (g := 41) (args := [ag [iv r9.1, iv r9.2], ag [iv r9.1, iv r9.2]]) (by kernel_rfl) (lookC_skip (by intro _ ha _; have hr := Option.some.inj (h25.symm.trans (Eq.trans (congr (congr (congr (congrArg F41 (Eq.refl r9.1)) (Eq.refl r9.2)) (Eq.refl r9.1)) (Eq.refl r9.2)) h30)); first | (subst hr; rfl) | (cases hr; done) | (cases hr; rfl)) (lookC_skip (by intro _ ha _; have hr := Option.some.inj (h27.symm.trans (Eq.trans (congr (congr (congr (congrArg F41 (show r11.1 = r9.1 from congrArg (leafI 0) ha)) (show r11.2 = r9.2 from congrArg (leafI 1) ha)) (show r11.1 = r9.1 from congrArg (leafI 2) ha)) (show r11.2 = r9.2 from congrArg (leafI 3) ha)) h30)); first | (subst hr; rfl) | (cases hr; done) | (cases hr; rfl)) lookC_hit))) (by kernel_rfl) ?_
              refine QI.run (s1 := (qs (S37_2 r1 r13 r9 r11 r24 r26 r29) (H37_34 r9 r11) [] [(33, 1)])) 3 (by kernel_rfl) (by kernel_rfl) ?_
              exact QI.done (by kernel_rfl)
            · refine SI.run (a2 := (S37_0 r13 r29 r1 r9 r11 r24 r26)) (h2 := (H37_34 r9 r11)) 1 (by kernel_rfl) ?_
              exact SI.done (by kernel_rfl)
            exact hK
          · replace hm32 := of_neg hm32 hc28
            have hm32 := Option.some.inj hm32
            subst hm32
            have hT : ∀ e ∈ ([⟨41, [ag [iv r9.1, iv r9.2], ag [iv r9.1, iv r9.2]], (H37_36 r9 r11), iv r24, []⟩, ⟨41, [ag [iv r11.1, iv r11.2], ag [iv r11.1, iv r11.2]], (H37_36 r9 r11), iv r26, []⟩] : List Entry), PureSim Try.prog e.g e.args e.h e.v e.new := by
              intro e he
              simp only [List.mem_cons, List.not_mem_nil, or_false] at he
              rcases he with rfl | rfl
              · exact PureSim.anyK (C41 _ _ _ _ _ h25) (by kernel_rfl)
              · exact PureSim.anyK (C41 _ _ _ _ _ h27) (by kernel_rfl)
            refine TS.draw' (id := 6) (b := true) (ops := c37.s2.s2.s2.s2.s2.s1.rops) (fin := (qs (S37_8 r1 r13 r9 r11 r24 r26) (H37_34 r9 r11) [] [(33, 1)])) (fin2 := (qs (S37_8 r1 r13 r9 r11 r24 r26) (H37_34 r9 r11) [] [(33, 1)])) (a1 := (S37_6 r1 r13 r9 r11 r24 r26)) (h1 := (H37_34 r9 r11)) (a2 := (st 85 [(2, pt 1 0), (3, .bool false)])) (h2 := (H37_40 r9 r11)) [⟨41, [ag [iv r9.1, iv r9.2], ag [iv r9.1, iv r9.2]], (H37_36 r9 r11), iv r24, []⟩, ⟨41, [ag [iv r11.1, iv r11.2], ag [iv r11.1, iv r11.2]], (H37_36 r9 r11), iv r26, []⟩] hT mixed (by kernel_rfl) rfl 34 (by kernel_rfl) [(33, 1)] ?_ rfl (.inr ⟨?_, (by kernel_rfl)⟩) ?_ [2, 3] [1] (by kernel_rfl) ?_
            · refine QI.run (s1 := (qs (S37_31 r1 r13 r9 r11) (H37_36 r9 r11) [] [])) 2 (by kernel_rfl) (by kernel_rfl) ?_
              refine QI.op (q := { val := .bool false }) (s1 := (qs (S37_29 r1 r13 r9 r11) (H37_36 r9 r11) [] [])) (by decide) (q_conv (e := (w64 ((w64 (r1.1.1 * r1.2.1.2)) - (w64 (r1.1.2 * r1.2.1.1)))) == 1) (b := false) (by kernel_rfl) hc15) (by kernel_rfl) ?_
              refine QI.run (s1 := (qs (S37_28 r1 r13 r9 r11) (H37_36 r9 r11) [] [])) 2 (by kernel_rfl) (by kernel_rfl) ?_
              refine QI.op (q := { val := .bool true }) (s1 := (qs (S37_27 r1 r13 r9 r11) (H37_36 r9 r11) [] [])) (by decide) (q_conv (e := (w64 ((w64 (r1.1.1 * r1.2.1.2)) - (w64 (r1.1.2 * r1.2.1.1)))) == (-1)) (b := true) (by kernel_rfl) hc23) (by kernel_rfl) ?_
              refine QI.run (s1 := (qs (S37_23 r1 r13 r9 r11) (H37_36 r9 r11) [] [])) 6 (by kernel_rfl) (by kernel_rfl) ?_
              refine QI.op (q := { val := iv r24, new := [] }) (s1 := (qs (S37_22 r1 r13 r9 r11 r24) (H37_36 r9 r11) [] [])) (by decide) (qOf_call (g := 41) (args := [ag [iv r9.1, iv r9.2], ag [iv r9.1, iv r9.2]]) (by kernel_rfl) lookC_hit) (by kernel_rfl) ?_
              refine QI.run (s1 := (qs (S37_17 r1 r13 r9 r11 r24) (H37_36 r9 r11) [] [])) 4 (by kernel_rfl) (by kernel_rfl) ?_
              refine QI.op (q := { val := iv r26, new := [] }) (s1 := (qs (S37_16 r1 r13 r9 r11 r24 r26) (H37_36 r9 r11) [] [])) (by decide) (qOf_call (g := 41) (args := [ag [iv r11.1, iv r11.2], ag [iv r11.1, iv r11.2]]) (by kernel_rfl) (lookC_skip (by intro _ ha _; have hr := Option.some.inj (h25.symm.trans (Eq.trans (congr (congr (congr (congrArg F41 (show r9.1 = r11.1 from congrArg (leafI 0) ha)) (show r9.2 = r11.2 from congrArg (leafI 1) ha)) (show r9.1 = r11.1 from congrArg (leafI 2) ha)) (show r9.2 = r11.2 from congrArg (leafI 3) ha)) h27)); first | (subst hr; rfl) | (cases hr; done) | (cases hr; rfl)) lookC_hit)) (by kernel_rfl) ?_
              refine QI.op (q := { val := .bool false }) (s1 := (qs (S37_14 r1 r13 r9 r11 r24 r26) (H37_36 r9 r11) [] [])) (by decide) (q_conv (e := decide (r24 ≤ r26)) (b := false) (by kernel_rfl) hc28) (by kernel_rfl) ?_
              refine QI.run (s1 := (qs (S37_8 r1 r13 r9 r11 r24 r26) (H37_34 r9 r11) [] [(33, 1)])) 15 (by kernel_rfl) (by kernel_rfl) ?_
              exact QI.done (by kernel_rfl)
            · refine QI.run (s1 := (qs (S37_31 r1 r13 r9 r11) (H37_36 r9 r11) [] [])) 2 (by kernel_rfl) (by kernel_rfl) ?_
              refine QI.op (q := { val := .bool false }) (s1 := (qs (S37_29 r1 r13 r9 r11) (H37_36 r9 r11) [] [])) (by decide) (q_conv (e := (w64 ((w64 (r1.1.1 * r1.2.1.2)) - (w64 (r1.1.2 * r1.2.1.1)))) == 1) (b := false) (by kernel_rfl) hc15) (by kernel_rfl) ?_
              refine QI.run (s1 := (qs (S37_28 r1 r13 r9 r11) (H37_36 r9 r11) [] [])) 2 (by kernel_rfl) (by kernel_rfl) ?_
              refine QI.op (q := { val := .bool true }) (s1 := (qs (S37_27 r1 r13 r9 r11) (H37_36 r9 r11) [] [])) (by decide) (q_conv (e := (w64 ((w64 (r1.1.1 * r1.2.1.2)) - (w64 (r1.1.2 * r1.2.1.1)))) == (-1)) (b := true) (by kernel_rfl) hc23) (by kernel_rfl) ?_
              refine QI.run (s1 := (qs (S37_23 r1 r13 r9 r11) (H37_36 r9 r11) [] [])) 6 (by kernel_rfl) (by kernel_rfl) ?_
              refine QI.op (q := { val := iv r24, new := [] }) (s1 := (qs (S37_22 r1 r13 r9 r11 r24) (H37_36 r9 r11) [] [])) (by decide) (qOf_call (g := 41) (args := [ag [iv r9.1, iv r9.2], ag [iv r9.1, iv r9.2]]) (by kernel_rfl) lookC_hit) (by kernel_rfl) ?_
              refine QI.run (s1 := (qs (S37_17 r1 r13 r9 r11 r24) (H37_36 r9 r11) [] [])) 4 (by kernel_rfl) (by kernel_rfl) ?_
              refine QI.op (q := { val := iv r26, new := [] }) (s1 := (qs (S37_16 r1 r13 r9 r11 r24 r26) (H37_36 r9 r11) [] [])) (by decide) (qOf_call (g := 41) (args := [ag [iv r11.1, iv r11.2], ag [iv r11.1, iv r11.2]]) (by kernel_rfl) (lookC_skip (by intro _ ha _; have hr := Option.some.inj (h25.symm.trans (Eq.trans (congr (congr (congr (congrArg F41 (show r9.1 = r11.1 from congrArg (leafI 0) ha)) (show r9.2 = r11.2 from congrArg (leafI 1) ha)) (show r9.1 = r11.1 from congrArg (leafI 2) ha)) (show r9.2 = r11.2 from congrArg (leafI 3) ha)) h27)); first | (subst hr; rfl) | (cases hr; done) | (cases hr; rfl)) lookC_hit)) (by kernel_rfl) ?_
              refine QI.op (q := { val := .bool false }) (s1 := (qs (S37_14 r1 r13 r9 r11 r24 r26) (H37_36 r9 r11) [] [])) (by decide) (q_conv (e := decide (r24 ≤ r26)) (b := false) (by kernel_rfl) hc28) (by kernel_rfl) ?_
              refine QI.run (s1 := (qs (S37_8 r1 r13 r9 r11 r24 r26) (H37_34 r9 r11) [] [(33, 1)])) 15 (by kernel_rfl) (by kernel_rfl) ?_
              exact QI.done (by kernel_rfl)
            · refine SI.run (a2 := (S37_6 r1 r13 r9 r11 r24 r26)) (h2 := (H37_34 r9 r11)) 1 (by kernel_rfl) ?_
              exact SI.done (by kernel_rfl)
            exact hK
        · replace hm32 := of_neg hm32 hc23
          have hm32 := Option.some.inj hm32
          subst hm32
          refine TS.draw' (id := 6) (b := true) (ops := c37.s2.s2.s2.s2.s2.s1.rops) (fin := (qs (S37_13 r1 r13 r9 r11) (H37_34 r9 r11) [] [(33, 1)])) (fin2 := (qs (S37_13 r1 r13 r9 r11) (H37_34 r9 r11) [] [(33, 1)])) (a1 := (S37_11 r1 r13 r9 r11)) (h1 := (H37_34 r9 r11)) (a2 := (st 85 [(2, pt 1 0), (3, .bool false)])) (h2 := (H37_40 r9 r11)) [] (fun e he => by cases he) mixed (by kernel_rfl) rfl 34 (by kernel_rfl) [(33, 1)] ?_ rfl (.inr ⟨?_, (by kernel_rfl)⟩) ?_ [2, 3] [1] (by kernel_rfl) ?_
          · refine QI.run (s1 := (qs (S37_31 r1 r13 r9 r11) (H37_36 r9 r11) [] [])) 2 (by kernel_rfl) (by kernel_rfl) ?_
            refine QI.op (q := { val := .bool false }) (s1 := (qs (S37_29 r1 r13 r9 r11) (H37_36 r9 r11) [] [])) (by decide) (q_conv (e := (w64 ((w64 (r1.1.1 * r1.2.1.2)) - (w64 (r1.1.2 * r1.2.1.1)))) == 1) (b := false) (by kernel_rfl) hc15) (by kernel_rfl) ?_
            refine QI.run (s1 := (qs (S37_28 r1 r13 r9 r11) (H37_36 r9 r11) [] [])) 2 (by kernel_rfl) (by kernel_rfl) ?_
            refine QI.op (q := { val := .bool false }) (s1 := (qs (S37_26 r1 r13 r9 r11) (H37_36 r9 r11) [] [])) (by decide) (q_conv (e := (w64 ((w64 (r1.1.1 * r1.2.1.2)) - (w64 (r1.1.2 * r1.2.1.1)))) == (-1)) (b := false) (by kernel_rfl) hc23) (by kernel_rfl) ?_
            refine QI.run (s1 := (qs (S37_13 r1 r13 r9 r11) (H37_34 r9 r11) [] [(33, 1)])) 28 (by kernel_rfl) (by kernel_rfl) ?_
            exact QI.done (by kernel_rfl)
          · refine QI.run (s1 := (qs (S37_31 r1 r13 r9 r11) (H37_36 r9 r11) [] [])) 2 (by kernel_rfl) (by kernel_rfl) ?_
            refine QI.op (q := { val := .bool false }) (s1 := (qs (S37_29 r1 r13 r9 r11) (H37_36 r9 r11) [] [])) (by decide) (q_conv (e := (w64 ((w64 (r1.1.1 * r1.2.1.2)) - (w64 (r1.1.2 * r1.2.1.1)))) == 1) (b := false) (by kernel_rfl) hc15) (by kernel_rfl) ?_
            refine QI.run (s1 := (qs (S37_28 r1 r13 r9 r11) (H37_36 r9 r11) [] [])) 2 (by kernel_rfl) (by kernel_rfl) ?_
            refine QI.op (q := { val := .bool false }) (s1 := (qs (S37_26 r1 r13 r9 r11) (H37_36 r9 r11) [] [])) (by decide) (q_conv (e := (w64 ((w64 (r1.1.1 * r1.2.1.2)) - (w64 (r1.1.2 * r1.2.1.1)))) == (-1)) (b := false) (by kernel_rfl) hc23) (by kernel_rfl) ?_
            refine QI.run (s1 := (qs (S37_13 r1 r13 r9 r11) (H37_34 r9 r11) [] [(33, 1)])) 28 (by kernel_rfl) (by kernel_rfl) ?_
            exact QI.done (by kernel_rfl)
          · refine SI.run (a2 := (S37_11 r1 r13 r9 r11)) (h2 := (H37_34 r9 r11)) 1 (by kernel_rfl) ?_
            exact SI.done (by kernel_rfl)
          exact hK
  rcases Bool.eq_false_or_eq_true (r1.2.2 != 0) with hc3 | hc3
  · replace hm33 := of_pos hm33 hc3
    have hm33 := Option.some.inj hm33
    subst hm33
    refine TS.regionP (by kernel_rfl) ?_
    refine TI.runA 1 [1, 2, 4, 5, 16] (a2 := (S37_39 r1)) (by kernel_rfl) ?_
    refine TI.op (q := { val := .bool true }) (q_conv (e := r1.2.2 != 0) (b := true) (by kernel_rfl) hc3) [1, 2, 4, 5, 17] [0, 1, 2, 3] (a2 := (st 85 [(1, pt 0 0), (2, pt 1 0), (4, pt 2 0), (5, pt 3 0), (17, .bool true)])) (h2 := (H37_33 p0 p1 p2 p3 r1)) (by kernel_rfl) ?_
    refine TI.runA 10 [1, 2, 4, 5, 27] (a2 := (S37_38)) (by kernel_rfl) ?_
    refine TI.done (by kernel_rfl) ?_
    exact hK
  · replace hm33 := of_neg hm33 hc3
    have hX := of_do hm33
    clear hm33
    obtain ⟨r4, h5, hm33⟩ := hX
    cases r4 with
    | true =>
      replace hm33 := of_pos hm33 rfl
      have hX := of_do hm33
      clear hm33
      obtain ⟨r6, h7, hm33⟩ := hX
      cases r6 with
      | true =>
        replace hm33 := of_pos hm33 rfl
        have hm33 := Option.some.inj hm33
        subst hm33
        refine TS.regionP (by kernel_rfl) ?_
        refine TI.runA 1 [1, 2, 4, 5, 16] (a2 := (S37_39 r1)) (by kernel_rfl) ?_
        refine TI.op (q := { val := .bool false }) (q_conv (e := r1.2.2 != 0) (b := false) (by kernel_rfl) hc3) [1, 2, 4, 5, 17] [0, 1, 2, 3] (a2 := (S37_37)) (h2 := (H37_33 p0 p1 p2 p3 r1)) (by kernel_rfl) ?_
        refine TI.runA 2 [1, 2, 4, 5, 18, 19] (a2 := (S37_35 r1)) (by kernel_rfl) ?_
        refine TI.callF (C38 _ _ _ h5) (by kernel_rfl) (by kernel_rfl) ?_
        refine TI.runA 4 [1, 2, 4, 5, 23, 24] (a2 := (st 85 [(1, pt 0 0), (2, pt 1 0), (4, pt 2 0), (5, pt 3 0), (23, .bool false), (24, ag [iv r1.2.1.1, iv r1.2.1.2])])) (by kernel_rfl) ?_
        refine TI.callF (C38 _ _ _ h7) (by kernel_rfl) (by kernel_rfl) ?_
        refine TI.runA 2 [1, 2, 4, 5, 27] (a2 := (st 85 [(1, pt 0 0), (2, pt 1 0), (4, pt 2 0), (5, pt 3 0), (27, .bool false)])) (by kernel_rfl) ?_
        refine TI.done (by kernel_rfl) ?_
        exact hK
      | false =>
        replace hm33 := of_neg hm33 rfl
        have hm33 := Option.some.inj hm33
        subst hm33
        refine TS.regionP (by kernel_rfl) ?_
        refine TI.runA 1 [1, 2, 4, 5, 16] (a2 := (S37_39 r1)) (by kernel_rfl) ?_
        refine TI.op (q := { val := .bool false }) (q_conv (e := r1.2.2 != 0) (b := false) (by kernel_rfl) hc3) [1, 2, 4, 5, 17] [0, 1, 2, 3] (a2 := (S37_37)) (h2 := (H37_33 p0 p1 p2 p3 r1)) (by kernel_rfl) ?_
        refine TI.runA 2 [1, 2, 4, 5, 18, 19] (a2 := (S37_35 r1)) (by kernel_rfl) ?_
        refine TI.callF (C38 _ _ _ h5) (by kernel_rfl) (by kernel_rfl) ?_
        refine TI.runA 4 [1, 2, 4, 5, 23, 24] (a2 := (st 85 [(1, pt 0 0), (2, pt 1 0), (4, pt 2 0), (5, pt 3 0), (23, .bool false), (24, ag [iv r1.2.1.1, iv r1.2.1.2])])) (by kernel_rfl) ?_
        refine TI.callF (C38 _ _ _ h7) (by kernel_rfl) (by kernel_rfl) ?_
        refine TI.runA 2 [1, 2, 4, 5, 27] (a2 := (S37_38)) (by kernel_rfl) ?_
        refine TI.done (by kernel_rfl) ?_
        exact hK
    | false =>
      replace hm33 := of_neg hm33 rfl
      have hm33 := Option.some.inj hm33
      subst hm33
      refine TS.regionP (by kernel_rfl) ?_
      refine TI.runA 1 [1, 2, 4, 5, 16] (a2 := (S37_39 r1)) (by kernel_rfl) ?_
      refine TI.op (q := { val := .bool false }) (q_conv (e := r1.2.2 != 0) (b := false) (by kernel_rfl) hc3) [1, 2, 4, 5, 17] [0, 1, 2, 3] (a2 := (S37_37)) (h2 := (H37_33 p0 p1 p2 p3 r1)) (by kernel_rfl) ?_
      refine TI.runA 2 [1, 2, 4, 5, 18, 19] (a2 := (S37_35 r1)) (by kernel_rfl) ?_
      refine TI.callF (C38 _ _ _ h5) (by kernel_rfl) (by kernel_rfl) ?_
      refine TI.runA 7 [1, 2, 4, 5, 27] (a2 := (S37_38)) (by kernel_rfl) ?_
      refine TI.done (by kernel_rfl) ?_
      exact hK
theorem C37 (p0 : Int) (p1 : Int) (p2 : Int) (p3 : Int) (r : (((Int × Int) × (Int × Int)) × Bool)) (hF : F37 p0 p1 p2 p3 = some r) : PureSim Try.prog 37 [ag [iv p0, iv p1, iv p2, iv p3]] [] (V37 0 r) (N37 0 r) :=
  PureSim.of_Fin Try.func37 (c := c37) (by kernel_rfl) (by kernel_rfl) 0 rfl [0] [] (by kernel_rfl) (B37 p0 p1 p2 p3 r hF)

-- agonic/agoniclaw06.choice
noncomputable def c44 : Code := Try.f44.code
def F44 (p0 : Int) (p1 : Int) : Option (Int × Int) :=
  some (p0, p1)
def V44 (b : Nat) (r : (Int × Int)) : Value := ag [iv r.1, iv r.2]
def N44 (b : Nat) (r : (Int × Int)) : List Blk := []
theorem B44 (p0 : Int) (p1 : Int) (r : (Int × Int)) (hF : F44 p0 p1 = some r) : TS Try.prog 0 0 c44 (st 8 [(0, iv p0), (1, iv p1)]) [] (NX Try.prog 0 0 [] (FinP Try.prog Try.f44 0 (V44 0 r) (N44 0 r))) := by
  unfold F44 at hF
  refine TS.seqP (by kernel_rfl) ?_
  refine TS.regionP (by kernel_rfl) ?_
  refine TI.run 1 [0, 1, 4] [0] (a2 := (st 8 [(0, iv p0), (1, iv p1), (4, pt 0 0)])) (h2 := [cl 27 [iv 0, iv 0]]) (by kernel_rfl) ?_
  refine TI.done (by kernel_rfl) ?_
  refine NX.sq ?_
  refine TS.seqP (by kernel_rfl) ?_
  refine TS.regionP (by kernel_rfl) ?_
  refine TI.run 4 [4] [0] (a2 := (st 8 [(4, pt 0 0)])) (h2 := [cl 27 [iv p0, iv p1]]) (by kernel_rfl) ?_
  refine TI.done (by kernel_rfl) ?_
  refine NX.sq ?_
  refine TS.ret' (by kernel_rfl) ?_
  have hF := Option.some.inj hF
  subst hF
  exact ⟨.inr rfl, rfl, ag [iv p0, iv p1], by kernel_rfl, WkV.flat0 (by kernel_rfl) (Nat.le_of_ble_eq_true rfl)⟩
theorem C44 (p0 : Int) (p1 : Int) (r : (Int × Int)) (hF : F44 p0 p1 = some r) : PureSim Try.prog 44 [iv p0, iv p1] [] (V44 0 r) (N44 0 r) :=
  PureSim.of_Fin Try.func44 (c := c44) (by kernel_rfl) (by kernel_rfl) 0 rfl [0, 1] [] (by kernel_rfl) (B44 p0 p1 r hF)

-- agonic/agoniclaw06.plus
noncomputable def c39 : Code := Try.f39.code
def F39 (p0 : Int) (p1 : Int) (p2 : Int) (p3 : Int) : Option (Int × Int) :=
  F43 (w64 (p0 + p2)) (w64 (p1 + p3)) >>= fun r1 =>
  some (r1.1, r1.2)
def V39 (b : Nat) (r : (Int × Int)) : Value := ag [iv r.1, iv r.2]
def N39 (b : Nat) (r : (Int × Int)) : List Blk := []
theorem B39 (p0 : Int) (p1 : Int) (p2 : Int) (p3 : Int) (r : (Int × Int)) (hF : F39 p0 p1 p2 p3 = some r) : TS Try.prog 0 0 c39 (st 16 [(0, ag [iv p0, iv p1]), (1, ag [iv p2, iv p3])]) [] (NX Try.prog 0 0 [] (FinP Try.prog Try.f39 0 (V39 0 r) (N39 0 r))) := by
  unfold F39 at hF
  refine TS.seqP (by kernel_rfl) ?_
  refine TS.regionP (by kernel_rfl) ?_
  refine TI.run 3 [2, 3, 4] [0, 1, 2] (a2 := (st 16 [(2, pt 0 0), (3, pt 1 0), (4, pt 2 0)])) (h2 := [cl 23 [iv p0, iv p1], cl 23 [iv p2, iv p3], cl 23 [iv 0, iv 0]]) (by kernel_rfl) ?_
  refine TI.done (by kernel_rfl) ?_
  refine NX.sq ?_
  refine TS.seqP (by kernel_rfl) ?_
  have hX := of_do hF
  clear hF
  obtain ⟨r1, h2, hF⟩ := hX
  refine TS.regionP (by kernel_rfl) ?_
  refine TI.run 10 [4, 9, 14] [2] (a2 := (st 16 [(4, pt 2 0), (9, iv (w64 (p0 + p2))), (14, iv (w64 (p1 + p3)))])) (h2 := [.dead, .dead, cl 23 [iv 0, iv 0]]) (by kernel_rfl) ?_
  refine TI.callF (C43 _ _ _ h2) (by kernel_rfl) (by kernel_rfl) ?_
  refine TI.run 1 [4] [2] (a2 := (st 16 [(4, pt 2 0)])) (h2 := [.dead, .dead, cl 23 [iv r1.1, iv r1.2]]) (by kernel_rfl) ?_
  refine TI.done (by kernel_rfl) ?_
  refine NX.sq ?_
  refine TS.ret' (by kernel_rfl) ?_
  have hF := Option.some.inj hF
  subst hF
  exact ⟨.inr rfl, rfl, ag [iv r1.1, iv r1.2], by kernel_rfl, WkV.flat0 (by kernel_rfl) (Nat.le_of_ble_eq_true rfl)⟩
theorem C39 (p0 : Int) (p1 : Int) (p2 : Int) (p3 : Int) (r : (Int × Int)) (hF : F39 p0 p1 p2 p3 = some r) : PureSim Try.prog 39 [ag [iv p0, iv p1], ag [iv p2, iv p3]] [] (V39 0 r) (N39 0 r) :=
  PureSim.of_Fin Try.func39 (c := c39) (by kernel_rfl) (by kernel_rfl) 0 rfl [0, 1] [] (by kernel_rfl) (B39 p0 p1 p2 p3 r hF)

end Go.Proofs.Ytenjelagfbceeaa
