/- What functions of the program compute, and that they do. -/
import Derived.Test.YtenjelagfbceeaaGB
set_option linter.unusedVariables false
set_option linter.unusedSimpArgs false
set_option maxRecDepth 100000
set_option maxHeartbeats 4000000
namespace Go.Proofs.Ytenjelagfbceeaa
open Go Go.Cl
def e41 (x : (Int × Int)) : List Value := [.int .i64 x.1, .int .i64 x.2]
-- (agonic/magnet.Kit).reduced
noncomputable def c50 : Code := Try.f50.code
def F50 (p0 : Int) (p1 : Int) (p2 : Int) (p3 : Int) : Option Bool :=
  F72 p0 p1 p2 p3 >>= fun r1 =>
  F63 p0 p1 >>= fun r3 =>
  F63 p2 p3 >>= fun r5 =>
  (
    if decide (r3 ≤ r5) then
      F63 p0 p1 >>= fun r8 =>
      some (decide ((w64 (2 * (mx r1 (w64 (0 - r1))))) ≤ r8))
    else
      some (false)
  : Option Bool) >>= fun m10 =>
  some m10
def V50 (b : Nat) (r : Bool) : Value := .bool r
def N50 (b : Nat) (r : Bool) : List Blk := []
theorem B50 (p0 : Int) (p1 : Int) (p2 : Int) (p3 : Int) (r : Bool) (hF : F50 p0 p1 p2 p3 = some r) : TS Try.prog 0 0 c50 (st 27 [(0, ag [iv p0, iv p1, iv p2, iv p3])]) [] (NX Try.prog 0 0 [] (FinP Try.prog Try.f50 0 (V50 0 r) (N50 0 r))) := by
  unfold F50 at hF
  refine TS.sq (TS.rg (TI.rn 2 [1] [0] (st 27 [(1, pt 0 0)]) [cl 25 [iv p0, iv p1, iv p2, iv p3]] (TI.dn (NX.sq (TS.sq ?_)))))
  have hX := of_do hF
  clear hF
  obtain ⟨r1, h2, hF⟩ := hX
  refine TS.rg (TI.ra 4 [1, 5, 7] (st 27 [(1, pt 0 0), (5, ag [iv p0, iv p1]), (7, ag [iv p2, iv p3])]) (TI.cf (C72 _ _ _ _ _ h2) (TI.ra 1 [1, 3] (st 27 [(1, pt 0 0), (3, iv r1)]) (TI.dn (NX.sq (TS.sq ?_))))))
  have hX := of_do hF
  clear hF
  obtain ⟨r3, h4, hF⟩ := hX
  have hX := of_do hF
  clear hF
  obtain ⟨r5, h6, hF⟩ := hX
  have hX := of_do hF
  clear hF
  obtain ⟨m10, hm11, hF⟩ := hX
  have hK : NX Try.prog 0 0 [.sq c50.s2.s2.s2] (FinP Try.prog Try.f50 0 (V50 0 r) (N50 0 r)) .normal (st 27 [(2, .bool m10)]) [.dead] := by
    refine NX.sq (TS.rt ?_)
    have hF := Option.some.inj hF
    subst hF
    exact ⟨.inr rfl, rfl, .bool m10, by kernel_rfl, WkV.flat0 (by kernel_rfl) (Nat.le_of_ble_eq_true rfl)⟩
  rcases Bool.eq_false_or_eq_true (decide (r3 ≤ r5)) with hc7 | hc7
  · replace hm11 := of_pos hm11 hc7
    have hX := of_do hm11
    clear hm11
    obtain ⟨r8, h9, hm11⟩ := hX
    have hm11 := Option.some.inj hm11
    subst hm11
    have hT : ∀ e ∈ ([⟨63, [ag [iv p0, iv p1]], [cl 25 [iv p0, iv p1, iv p2, iv p3]], iv r3, []⟩, ⟨63, [ag [iv p2, iv p3]], [cl 25 [iv p0, iv p1, iv p2, iv p3]], iv r5, []⟩, ⟨63, [ag [iv p0, iv p1]], [cl 25 [iv p0, iv p1, iv p2, iv p3]], iv r8, []⟩] : List Entry), PureSim Try.prog e.g e.args e.h e.v e.new := by
      intro e he
      simp only [List.mem_cons, List.not_mem_nil, or_false] at he
      rcases he with rfl | rfl | rfl
      · exact PureSim.ak (C63 _ _ _ h4)
      · exact PureSim.ak (C63 _ _ _ h6)
      · exact PureSim.ak (C63 _ _ _ h9)
    refine TS.dp [⟨63, [ag [iv p0, iv p1]], [cl 25 [iv p0, iv p1, iv p2, iv p3]], iv r3, []⟩, ⟨63, [ag [iv p2, iv p3]], [cl 25 [iv p0, iv p1, iv p2, iv p3]], iv r5, []⟩, ⟨63, [ag [iv p0, iv p1]], [cl 25 [iv p0, iv p1, iv p2, iv p3]], iv r8, []⟩] hT mixed 16 [2] [] (st 27 [(2, .bool (decide ((w64 (2 * (mx r1 (w64 (0 - r1))))) ≤ r8)))]) [.dead] ?_ ?_
    · refine QJ.rn (qs (st 27 [(1, pt 0 0), (3, iv r1), (9, pt 0 0), (10, ag [iv p0, iv p1])]) [cl 25 [iv p0, iv p1, iv p2, iv p3]] [] []) 2 (QJ.o { val := iv r3, new := [] } (qOf_call (g := 63) (args := [ag [iv p0, iv p1]]) (by kernel_rfl) lookC_hit) (QJ.rn (qs (st 27 [(1, pt 0 0), (3, iv r1), (9, pt 0 0), (10, ag [iv p0, iv p1]), (11, iv r3), (12, pt 0 2), (13, ag [iv p2, iv p3])]) [cl 25 [iv p0, iv p1, iv p2, iv p3]] [] []) 2 ?_))
      refine QJ.o { val := iv r5, new := [] } (qOf_call (g := 63) (args := [ag [iv p2, iv p3]]) (by kernel_rfl) (lookC_skip (by intro _ ha _; have hr := Option.some.inj (h4.symm.trans (Eq.trans (congr (congrArg F63 (show p0 = p2 from congrArg (leafI 0) ha)) (show p1 = p3 from congrArg (leafI 1) ha)) h6)); first | (subst hr; rfl) | (cases hr; done) | (cases hr; rfl)) lookC_hit)) (QJ.o { val := .bool true } (q_conv (e := decide (r3 ≤ r5)) (b := true) (by kernel_rfl) hc7) (QJ.rn (qs (st 27 [(1, pt 0 0), (3, iv r1), (9, pt 0 0), (10, ag [iv p0, iv p1]), (11, iv r3), (12, pt 0 2), (13, ag [iv p2, iv p3]), (14, iv r5), (15, .bool true), (16, .bool true), (17, iv r1), (18, iv r1), (19, iv (w64 (0 - r1))), (20, iv (mx r1 (w64 (0 - r1)))), (21, iv (w64 (2 * (mx r1 (w64 (0 - r1)))))), (22, pt 0 0), (23, ag [iv p0, iv p1])]) [cl 25 [iv p0, iv p1, iv p2, iv p3]] [] []) 8 ?_))
      exact QJ.o { val := iv r8, new := [] } (qOf_call (g := 63) (args := [ag [iv p0, iv p1]]) (by kernel_rfl) (lookC_skip (by intro _ ha _; have hr := Option.some.inj (h4.symm.trans (Eq.trans (congr (congrArg F63 (Eq.refl p0)) (Eq.refl p1)) h9)); first | (subst hr; rfl) | (cases hr; done) | (cases hr; rfl)) (lookC_skip (by intro _ ha _; have hr := Option.some.inj (h6.symm.trans (Eq.trans (congr (congrArg F63 (show p2 = p0 from congrArg (leafI 0) ha)) (show p3 = p1 from congrArg (leafI 1) ha)) h9)); first | (subst hr; rfl) | (cases hr; done) | (cases hr; rfl)) lookC_hit))) (QJ.dn ⟨rfl, SJ.la⟩)
    exact hK
  · replace hm11 := of_neg hm11 hc7
    have hm11 := Option.some.inj hm11
    subst hm11
    have hT : ∀ e ∈ ([⟨63, [ag [iv p0, iv p1]], [cl 25 [iv p0, iv p1, iv p2, iv p3]], iv r3, []⟩, ⟨63, [ag [iv p2, iv p3]], [cl 25 [iv p0, iv p1, iv p2, iv p3]], iv r5, []⟩] : List Entry), PureSim Try.prog e.g e.args e.h e.v e.new := by
      intro e he
      simp only [List.mem_cons, List.not_mem_nil, or_false] at he
      rcases he with rfl | rfl
      · exact PureSim.ak (C63 _ _ _ h4)
      · exact PureSim.ak (C63 _ _ _ h6)
    refine TS.dp [⟨63, [ag [iv p0, iv p1]], [cl 25 [iv p0, iv p1, iv p2, iv p3]], iv r3, []⟩, ⟨63, [ag [iv p2, iv p3]], [cl 25 [iv p0, iv p1, iv p2, iv p3]], iv r5, []⟩] hT mixed 16 [2] [] (st 27 [(2, .bool false)]) [.dead] ?_ ?_
    · refine QJ.rn (qs (st 27 [(1, pt 0 0), (3, iv r1), (9, pt 0 0), (10, ag [iv p0, iv p1])]) [cl 25 [iv p0, iv p1, iv p2, iv p3]] [] []) 2 (QJ.o { val := iv r3, new := [] } (qOf_call (g := 63) (args := [ag [iv p0, iv p1]]) (by kernel_rfl) lookC_hit) (QJ.rn (qs (st 27 [(1, pt 0 0), (3, iv r1), (9, pt 0 0), (10, ag [iv p0, iv p1]), (11, iv r3), (12, pt 0 2), (13, ag [iv p2, iv p3])]) [cl 25 [iv p0, iv p1, iv p2, iv p3]] [] []) 2 ?_))
      exact QJ.o { val := iv r5, new := [] } (qOf_call (g := 63) (args := [ag [iv p2, iv p3]]) (by kernel_rfl) (lookC_skip (by intro _ ha _; have hr := Option.some.inj (h4.symm.trans (Eq.trans (congr (congrArg F63 (show p0 = p2 from congrArg (leafI 0) ha)) (show p1 = p3 from congrArg (leafI 1) ha)) h6)); first | (subst hr; rfl) | (cases hr; done) | (cases hr; rfl)) lookC_hit)) (QJ.o { val := .bool false } (q_conv (e := decide (r3 ≤ r5)) (b := false) (by kernel_rfl) hc7) (QJ.rn (qs (st 27 [(1, pt 0 0), (3, iv r1), (9, pt 0 0), (10, ag [iv p0, iv p1]), (11, iv r3), (12, pt 0 2), (13, ag [iv p2, iv p3]), (14, iv r5), (15, .bool false), (16, .bool false), (17, undef), (18, undef), (19, undef), (20, undef), (21, undef), (22, undef), (23, undef), (24, undef)]) [cl 25 [iv p0, iv p1, iv p2, iv p3]] [] []) 9 (QJ.dn ⟨rfl, SJ.la⟩)))
    exact hK
theorem C50 (p0 : Int) (p1 : Int) (p2 : Int) (p3 : Int) (r : Bool) (hF : F50 p0 p1 p2 p3 = some r) : PureSim Try.prog 50 [ag [iv p0, iv p1, iv p2, iv p3]] [] (V50 0 r) (N50 0 r) :=
  PureSim.of_Fin Try.func50 (c := c50) (by kernel_rfl) (by kernel_rfl) 0 rfl [0] [] (by kernel_rfl) (B50 p0 p1 p2 p3 r hF)

-- (agonic/magnet.bundles).nearest
noncomputable def c67 : Code := Try.f67.code
def H67_0 (p8 : Int) (p9 : Int) (r1 : ((Int × Int) × (Int × Int) × (Int × Int) × (Int × Int) × (Int × Int) × (Int × Int))) : List Blk := [.dead, cl 23 [iv p8, iv p9], .dead, .dead, .dead, .dead, .dead, cl 23 [iv r1.2.2.2.2.2.1, iv r1.2.2.2.2.2.2]]
def H67_1 (p8 : Int) (p9 : Int) (r1 : ((Int × Int) × (Int × Int) × (Int × Int) × (Int × Int) × (Int × Int) × (Int × Int))) : List Blk := [.dead, cl 23 [iv p8, iv p9], .dead, .dead, .dead, .dead, cl 23 [iv r1.2.2.2.2.1.1, iv r1.2.2.2.2.1.2]]
def H67_2 (p8 : Int) (p9 : Int) (r1 : ((Int × Int) × (Int × Int) × (Int × Int) × (Int × Int) × (Int × Int) × (Int × Int))) : List Blk := [.dead, cl 23 [iv p8, iv p9], .dead, .dead, .dead, cl 23 [iv r1.2.2.2.1.1, iv r1.2.2.2.1.2]]
def H67_3 (p8 : Int) (p9 : Int) (r1 : ((Int × Int) × (Int × Int) × (Int × Int) × (Int × Int) × (Int × Int) × (Int × Int))) : List Blk := [.dead, cl 23 [iv p8, iv p9], .dead, .dead, cl 23 [iv r1.2.2.1.1, iv r1.2.2.1.2]]
def H67_4 (p8 : Int) (p9 : Int) (r1 : ((Int × Int) × (Int × Int) × (Int × Int) × (Int × Int) × (Int × Int) × (Int × Int))) : List Blk := [.dead, cl 23 [iv p8, iv p9], .dead, cl 23 [iv r1.2.1.1, iv r1.2.1.2]]
def F67 (p0 : Int) (p1 : Int) (p2 : Int) (p3 : Int) (p4 : Int) (p5 : Int) (p6 : Int) (p7 : Int) (p8 : Int) (p9 : Int) : Option Bool :=
  F80 p0 p1 p2 p3 p4 p5 p6 p7 >>= fun r1 =>
  F72 p8 p9 r1.1.1 r1.1.2 >>= fun r3 =>
  F63 r1.1.1 r1.1.2 >>= fun r5 =>
  if decide ((w64 (2 * r3)) > r5) then
    some false
  else
    F72 p8 p9 r1.2.1.1 r1.2.1.2 >>= fun r8 =>
    F63 r1.2.1.1 r1.2.1.2 >>= fun r10 =>
    if decide ((w64 (2 * r8)) > r10) then
      some false
    else
      F72 p8 p9 r1.2.2.1.1 r1.2.2.1.2 >>= fun r13 =>
      F63 r1.2.2.1.1 r1.2.2.1.2 >>= fun r15 =>
      if decide ((w64 (2 * r13)) > r15) then
        some false
      else
        F72 p8 p9 r1.2.2.2.1.1 r1.2.2.2.1.2 >>= fun r18 =>
        F63 r1.2.2.2.1.1 r1.2.2.2.1.2 >>= fun r20 =>
        if decide ((w64 (2 * r18)) > r20) then
          some false
        else
          F72 p8 p9 r1.2.2.2.2.1.1 r1.2.2.2.2.1.2 >>= fun r23 =>
          F63 r1.2.2.2.2.1.1 r1.2.2.2.2.1.2 >>= fun r25 =>
          if decide ((w64 (2 * r23)) > r25) then
            some false
          else
            F72 p8 p9 r1.2.2.2.2.2.1 r1.2.2.2.2.2.2 >>= fun r28 =>
            F63 r1.2.2.2.2.2.1 r1.2.2.2.2.2.2 >>= fun r30 =>
            if decide ((w64 (2 * r28)) > r30) then
              some false
            else
              some true
def V67 (b : Nat) (r : Bool) : Value := .bool r
def N67 (b : Nat) (r : Bool) : List Blk := []
theorem B67 (p0 : Int) (p1 : Int) (p2 : Int) (p3 : Int) (p4 : Int) (p5 : Int) (p6 : Int) (p7 : Int) (p8 : Int) (p9 : Int) (r : Bool) (hF : F67 p0 p1 p2 p3 p4 p5 p6 p7 p8 p9 = some r) : TS Try.prog 0 0 c67 (st 20 [(0, ag [iv p0, iv p1, iv p2, iv p3, iv p4, iv p5, iv p6, iv p7]), (1, ag [iv p8, iv p9])]) [] (NX Try.prog 0 0 [] (FinP Try.prog Try.f67 0 (V67 0 r) (N67 0 r))) := by
  unfold F67 at hF
  refine TS.sq (TS.rg (TI.rn 3 [2, 3] [0, 1] (st 20 [(2, pt 0 0), (3, pt 1 0)]) [cl 108 [iv p0, iv p1, iv p2, iv p3, iv p4, iv p5, iv p6, iv p7], cl 23 [iv p8, iv p9]] (TI.dn (NX.sq (TS.sq (TS.sq ?_))))))
  have hX := of_do hF
  clear hF
  obtain ⟨r1, h2, hF⟩ := hX
  refine TS.rg (TI.rn 1 [3, 7] [1] (st 20 [(3, pt 1 0), (7, ag [iv p0, iv p1, iv p2, iv p3, iv p4, iv p5, iv p6, iv p7])]) [.dead, cl 23 [iv p8, iv p9]] (TI.cf (C80 _ _ _ _ _ _ _ _ _ h2) (TI.ra 1 [3, 8, 9] (st 20 [(3, pt 1 0), (8, ag [iv r1.1.1, iv r1.1.2, iv r1.2.1.1, iv r1.2.1.2, iv r1.2.2.1.1, iv r1.2.2.1.2, iv r1.2.2.2.1.1, iv r1.2.2.2.1.2, iv r1.2.2.2.2.1.1, iv r1.2.2.2.2.1.2, iv r1.2.2.2.2.2.1, iv r1.2.2.2.2.2.2]), (9, iv 0)]) (TI.dn (NX.sq (TS.bk 0 (TS.lp (TL.round ?_))))))))
  refine TS.sq (TS.rg (TI.ra 1 [3, 8, 9, 10] (st 20 [(3, pt 1 0), (8, ag [iv r1.1.1, iv r1.1.2, iv r1.2.1.1, iv r1.2.1.2, iv r1.2.2.1.1, iv r1.2.2.1.2, iv r1.2.2.2.1.1, iv r1.2.2.2.1.2, iv r1.2.2.2.2.1.1, iv r1.2.2.2.2.1.2, iv r1.2.2.2.2.2.1, iv r1.2.2.2.2.2.2]), (9, iv 0), (10, .bool true)]) (TI.dn (NX.sq (TS.sq (TS.cdT (.tmp 10) (TS.sk (NX.sq ?_))))))))
  refine TS.sq (TS.bk 1 (TS.sq (TS.rg (TI.rn 3 [3, 6, 8, 9] [1, 2] (st 20 [(3, pt 1 0), (6, pt 2 0), (8, ag [iv r1.1.1, iv r1.1.2, iv r1.2.1.1, iv r1.2.1.2, iv r1.2.2.1.1, iv r1.2.2.1.2, iv r1.2.2.2.1.1, iv r1.2.2.2.1.2, iv r1.2.2.2.2.1.1, iv r1.2.2.2.2.1.2, iv r1.2.2.2.2.2.1, iv r1.2.2.2.2.2.2]), (9, iv 0)]) [.dead, cl 23 [iv p8, iv p9], cl 23 [iv r1.1.1, iv r1.1.2]] (TI.dn (NX.sq (TS.sq ?_)))))))
  have hX := of_do hF
  clear hF
  obtain ⟨r3, h4, hF⟩ := hX
  have hX := of_do hF
  clear hF
  obtain ⟨r5, h6, hF⟩ := hX
  have hT : ∀ e ∈ ([⟨72, [ag [iv p8, iv p9], ag [iv r1.1.1, iv r1.1.2]], [.dead, cl 23 [iv p8, iv p9], cl 23 [iv r1.1.1, iv r1.1.2]], iv r3, []⟩, ⟨63, [ag [iv r1.1.1, iv r1.1.2]], [.dead, cl 23 [iv p8, iv p9], cl 23 [iv r1.1.1, iv r1.1.2]], iv r5, []⟩] : List Entry), PureSim Try.prog e.g e.args e.h e.v e.new := by
    intro e he
    simp only [List.mem_cons, List.not_mem_nil, or_false] at he
    rcases he with rfl | rfl
    · exact PureSim.ak (C72 _ _ _ _ _ h4)
    · exact PureSim.ak (C63 _ _ _ h6)
  refine TS.dp [⟨72, [ag [iv p8, iv p9], ag [iv r1.1.1, iv r1.1.2]], [.dead, cl 23 [iv p8, iv p9], cl 23 [iv r1.1.1, iv r1.1.2]], iv r3, []⟩, ⟨63, [ag [iv r1.1.1, iv r1.1.2]], [.dead, cl 23 [iv p8, iv p9], cl 23 [iv r1.1.1, iv r1.1.2]], iv r5, []⟩] hT mixed 6 [3, 8, 9, 18] [1] (st 20 [(3, pt 1 0), (8, ag [iv r1.1.1, iv r1.1.2, iv r1.2.1.1, iv r1.2.1.2, iv r1.2.2.1.1, iv r1.2.2.1.2, iv r1.2.2.2.1.1, iv r1.2.2.2.1.2, iv r1.2.2.2.2.1.1, iv r1.2.2.2.2.1.2, iv r1.2.2.2.2.2.1, iv r1.2.2.2.2.2.2]), (9, iv 0), (18, .bool (decide ((w64 (2 * r3)) > r5)))]) [.dead, cl 23 [iv p8, iv p9], .dead] ?_ ?_
  · exact QJ.rn (qs (st 20 [(3, pt 1 0), (6, pt 2 0), (8, ag [iv r1.1.1, iv r1.1.2, iv r1.2.1.1, iv r1.2.1.2, iv r1.2.2.1.1, iv r1.2.2.1.2, iv r1.2.2.2.1.1, iv r1.2.2.2.1.2, iv r1.2.2.2.2.1.1, iv r1.2.2.2.2.1.2, iv r1.2.2.2.2.2.1, iv r1.2.2.2.2.2.2]), (9, iv 0), (12, ag [iv p8, iv p9]), (13, ag [iv r1.1.1, iv r1.1.2])]) [.dead, cl 23 [iv p8, iv p9], cl 23 [iv r1.1.1, iv r1.1.2]] [] []) 2 (QJ.o { val := iv r3, new := [] } (qOf_call (g := 72) (args := [ag [iv p8, iv p9], ag [iv r1.1.1, iv r1.1.2]]) (by kernel_rfl) lookC_hit) (QJ.rn (qs (st 20 [(3, pt 1 0), (6, pt 2 0), (8, ag [iv r1.1.1, iv r1.1.2, iv r1.2.1.1, iv r1.2.1.2, iv r1.2.2.1.1, iv r1.2.2.1.2, iv r1.2.2.2.1.1, iv r1.2.2.2.1.2, iv r1.2.2.2.2.1.1, iv r1.2.2.2.2.1.2, iv r1.2.2.2.2.2.1, iv r1.2.2.2.2.2.2]), (9, iv 0), (12, ag [iv p8, iv p9]), (13, ag [iv r1.1.1, iv r1.1.2]), (14, iv r3), (15, iv (w64 (2 * r3))), (16, ag [iv r1.1.1, iv r1.1.2])]) [.dead, cl 23 [iv p8, iv p9], cl 23 [iv r1.1.1, iv r1.1.2]] [] []) 2 (QJ.o { val := iv r5, new := [] } (qOf_call (g := 63) (args := [ag [iv r1.1.1, iv r1.1.2]]) (by kernel_rfl) (lookC_skip (fun hg => absurd (show (72 : Nat) = 63 from hg) (by decide)) lookC_hit)) (QJ.dn ⟨rfl, SJ.la⟩))))
  refine TS.cd (.tmp 18) (decide ((w64 (2 * r3)) > r5)) (fun hc7 => ?_) (fun hc7 => ?_)
  · replace hF := of_pos hF hc7
    refine TS.sq (TS.rg (TI.rn 1 [4] [] (st 20 [(4, .bool false)]) [.dead, .dead, .dead] (TI.dn (NX.sq (TS.rt (NX.bkR (NX.sqR ?_)))))))
    refine Rd.out (by simp) (NX.bkR (NX.sqR ?_))
    have hF := Option.some.inj hF
    subst hF
    exact ⟨.inr rfl, rfl, .bool false, by kernel_rfl, WkV.flat0 (by kernel_rfl) (Nat.le_of_ble_eq_true rfl)⟩
  · replace hF := of_neg hF hc7
    refine TS.sk (NX.bk (NX.sq (TS.rg (TI.ra 2 [3, 8, 9] (st 20 [(3, pt 1 0), (8, ag [iv r1.1.1, iv r1.1.2, iv r1.2.1.1, iv r1.2.1.2, iv r1.2.2.1.1, iv r1.2.2.1.2, iv r1.2.2.2.1.1, iv r1.2.2.2.1.2, iv r1.2.2.2.2.1.1, iv r1.2.2.2.2.1.2, iv r1.2.2.2.2.2.1, iv r1.2.2.2.2.2.2]), (9, iv 1)]) (TI.dn ?_)))))
    refine Rd.again Wk.refl (TL.round (TS.sq (TS.rg (TI.ra 1 [3, 8, 9, 10] (st 20 [(3, pt 1 0), (8, ag [iv r1.1.1, iv r1.1.2, iv r1.2.1.1, iv r1.2.1.2, iv r1.2.2.1.1, iv r1.2.2.1.2, iv r1.2.2.2.1.1, iv r1.2.2.2.1.2, iv r1.2.2.2.2.1.1, iv r1.2.2.2.2.1.2, iv r1.2.2.2.2.2.1, iv r1.2.2.2.2.2.2]), (9, iv 1), (10, .bool true)]) (TI.dn (NX.sq (TS.sq (TS.cdT (.tmp 10) (TS.sk ?_)))))))))
    refine NX.sq (TS.sq (TS.bk 1 (TS.sq (TS.rg (TI.rn 3 [3, 6, 8, 9] [1, 3] (st 20 [(3, pt 1 0), (6, pt 3 0), (8, ag [iv r1.1.1, iv r1.1.2, iv r1.2.1.1, iv r1.2.1.2, iv r1.2.2.1.1, iv r1.2.2.1.2, iv r1.2.2.2.1.1, iv r1.2.2.2.1.2, iv r1.2.2.2.2.1.1, iv r1.2.2.2.2.1.2, iv r1.2.2.2.2.2.1, iv r1.2.2.2.2.2.2]), (9, iv 1)]) (H67_4 p8 p9 r1) (TI.dn (NX.sq (TS.sq ?_))))))))
    have hX := of_do hF
    clear hF
    obtain ⟨r8, h9, hF⟩ := hX
    have hX := of_do hF
    clear hF
    obtain ⟨r10, h11, hF⟩ := hX
    have hT : ∀ e ∈ ([⟨72, [ag [iv p8, iv p9], ag [iv r1.2.1.1, iv r1.2.1.2]], (H67_4 p8 p9 r1), iv r8, []⟩, ⟨63, [ag [iv r1.2.1.1, iv r1.2.1.2]], (H67_4 p8 p9 r1), iv r10, []⟩] : List Entry), PureSim Try.prog e.g e.args e.h e.v e.new := by
      intro e he
      simp only [List.mem_cons, List.not_mem_nil, or_false] at he
      rcases he with rfl | rfl
      · exact PureSim.ak (C72 _ _ _ _ _ h9)
      · exact PureSim.ak (C63 _ _ _ h11)
    refine TS.dp [⟨72, [ag [iv p8, iv p9], ag [iv r1.2.1.1, iv r1.2.1.2]], (H67_4 p8 p9 r1), iv r8, []⟩, ⟨63, [ag [iv r1.2.1.1, iv r1.2.1.2]], (H67_4 p8 p9 r1), iv r10, []⟩] hT mixed 6 [3, 8, 9, 18] [1] (st 20 [(3, pt 1 0), (8, ag [iv r1.1.1, iv r1.1.2, iv r1.2.1.1, iv r1.2.1.2, iv r1.2.2.1.1, iv r1.2.2.1.2, iv r1.2.2.2.1.1, iv r1.2.2.2.1.2, iv r1.2.2.2.2.1.1, iv r1.2.2.2.2.1.2, iv r1.2.2.2.2.2.1, iv r1.2.2.2.2.2.2]), (9, iv 1), (18, .bool (decide ((w64 (2 * r8)) > r10)))]) [.dead, cl 23 [iv p8, iv p9], .dead, .dead] ?_ ?_
    · exact QJ.rn (qs (st 20 [(3, pt 1 0), (6, pt 3 0), (8, ag [iv r1.1.1, iv r1.1.2, iv r1.2.1.1, iv r1.2.1.2, iv r1.2.2.1.1, iv r1.2.2.1.2, iv r1.2.2.2.1.1, iv r1.2.2.2.1.2, iv r1.2.2.2.2.1.1, iv r1.2.2.2.2.1.2, iv r1.2.2.2.2.2.1, iv r1.2.2.2.2.2.2]), (9, iv 1), (12, ag [iv p8, iv p9]), (13, ag [iv r1.2.1.1, iv r1.2.1.2])]) (H67_4 p8 p9 r1) [] []) 2 (QJ.o { val := iv r8, new := [] } (qOf_call (g := 72) (args := [ag [iv p8, iv p9], ag [iv r1.2.1.1, iv r1.2.1.2]]) (by kernel_rfl) lookC_hit) (QJ.rn (qs (st 20 [(3, pt 1 0), (6, pt 3 0), (8, ag [iv r1.1.1, iv r1.1.2, iv r1.2.1.1, iv r1.2.1.2, iv r1.2.2.1.1, iv r1.2.2.1.2, iv r1.2.2.2.1.1, iv r1.2.2.2.1.2, iv r1.2.2.2.2.1.1, iv r1.2.2.2.2.1.2, iv r1.2.2.2.2.2.1, iv r1.2.2.2.2.2.2]), (9, iv 1), (12, ag [iv p8, iv p9]), (13, ag [iv r1.2.1.1, iv r1.2.1.2]), (14, iv r8), (15, iv (w64 (2 * r8))), (16, ag [iv r1.2.1.1, iv r1.2.1.2])]) (H67_4 p8 p9 r1) [] []) 2 (QJ.o { val := iv r10, new := [] } (qOf_call (g := 63) (args := [ag [iv r1.2.1.1, iv r1.2.1.2]]) (by kernel_rfl) (lookC_skip (fun hg => absurd (show (72 : Nat) = 63 from hg) (by decide)) lookC_hit)) (QJ.dn ⟨rfl, SJ.la⟩))))
    refine TS.cd (.tmp 18) (decide ((w64 (2 * r8)) > r10)) (fun hc12 => ?_) (fun hc12 => ?_)
    · replace hF := of_pos hF hc12
      refine TS.sq (TS.rg (TI.rn 1 [4] [] (st 20 [(4, .bool false)]) [.dead, .dead, .dead, .dead] (TI.dn (NX.sq (TS.rt (NX.bkR (NX.sqR ?_)))))))
      refine Rd.out (by simp) (NX.bkR (NX.sqR ?_))
      have hF := Option.some.inj hF
      subst hF
      exact ⟨.inr rfl, rfl, .bool false, by kernel_rfl, WkV.flat0 (by kernel_rfl) (Nat.le_of_ble_eq_true rfl)⟩
    · replace hF := of_neg hF hc12
      refine TS.sk (NX.bk (NX.sq (TS.rg (TI.ra 2 [3, 8, 9] (st 20 [(3, pt 1 0), (8, ag [iv r1.1.1, iv r1.1.2, iv r1.2.1.1, iv r1.2.1.2, iv r1.2.2.1.1, iv r1.2.2.1.2, iv r1.2.2.2.1.1, iv r1.2.2.2.1.2, iv r1.2.2.2.2.1.1, iv r1.2.2.2.2.1.2, iv r1.2.2.2.2.2.1, iv r1.2.2.2.2.2.2]), (9, iv 2)]) (TI.dn ?_)))))
      refine Rd.again Wk.refl (TL.round (TS.sq (TS.rg (TI.ra 1 [3, 8, 9, 10] (st 20 [(3, pt 1 0), (8, ag [iv r1.1.1, iv r1.1.2, iv r1.2.1.1, iv r1.2.1.2, iv r1.2.2.1.1, iv r1.2.2.1.2, iv r1.2.2.2.1.1, iv r1.2.2.2.1.2, iv r1.2.2.2.2.1.1, iv r1.2.2.2.2.1.2, iv r1.2.2.2.2.2.1, iv r1.2.2.2.2.2.2]), (9, iv 2), (10, .bool true)]) (TI.dn (NX.sq (TS.sq (TS.cdT (.tmp 10) (TS.sk ?_)))))))))
      refine NX.sq (TS.sq (TS.bk 1 (TS.sq (TS.rg (TI.rn 3 [3, 6, 8, 9] [1, 4] (st 20 [(3, pt 1 0), (6, pt 4 0), (8, ag [iv r1.1.1, iv r1.1.2, iv r1.2.1.1, iv r1.2.1.2, iv r1.2.2.1.1, iv r1.2.2.1.2, iv r1.2.2.2.1.1, iv r1.2.2.2.1.2, iv r1.2.2.2.2.1.1, iv r1.2.2.2.2.1.2, iv r1.2.2.2.2.2.1, iv r1.2.2.2.2.2.2]), (9, iv 2)]) (H67_3 p8 p9 r1) (TI.dn (NX.sq (TS.sq ?_))))))))
      have hX := of_do hF
      clear hF
      obtain ⟨r13, h14, hF⟩ := hX
      have hX := of_do hF
      clear hF
      obtain ⟨r15, h16, hF⟩ := hX
      have hT : ∀ e ∈ ([⟨72, [ag [iv p8, iv p9], ag [iv r1.2.2.1.1, iv r1.2.2.1.2]], (H67_3 p8 p9 r1), iv r13, []⟩, ⟨63, [ag [iv r1.2.2.1.1, iv r1.2.2.1.2]], (H67_3 p8 p9 r1), iv r15, []⟩] : List Entry), PureSim Try.prog e.g e.args e.h e.v e.new := by
        intro e he
        simp only [List.mem_cons, List.not_mem_nil, or_false] at he
        rcases he with rfl | rfl
        · exact PureSim.ak (C72 _ _ _ _ _ h14)
        · exact PureSim.ak (C63 _ _ _ h16)
      refine TS.dp [⟨72, [ag [iv p8, iv p9], ag [iv r1.2.2.1.1, iv r1.2.2.1.2]], (H67_3 p8 p9 r1), iv r13, []⟩, ⟨63, [ag [iv r1.2.2.1.1, iv r1.2.2.1.2]], (H67_3 p8 p9 r1), iv r15, []⟩] hT mixed 6 [3, 8, 9, 18] [1] (st 20 [(3, pt 1 0), (8, ag [iv r1.1.1, iv r1.1.2, iv r1.2.1.1, iv r1.2.1.2, iv r1.2.2.1.1, iv r1.2.2.1.2, iv r1.2.2.2.1.1, iv r1.2.2.2.1.2, iv r1.2.2.2.2.1.1, iv r1.2.2.2.2.1.2, iv r1.2.2.2.2.2.1, iv r1.2.2.2.2.2.2]), (9, iv 2), (18, .bool (decide ((w64 (2 * r13)) > r15)))]) [.dead, cl 23 [iv p8, iv p9], .dead, .dead, .dead] ?_ ?_
      · exact QJ.rn (qs (st 20 [(3, pt 1 0), (6, pt 4 0), (8, ag [iv r1.1.1, iv r1.1.2, iv r1.2.1.1, iv r1.2.1.2, iv r1.2.2.1.1, iv r1.2.2.1.2, iv r1.2.2.2.1.1, iv r1.2.2.2.1.2, iv r1.2.2.2.2.1.1, iv r1.2.2.2.2.1.2, iv r1.2.2.2.2.2.1, iv r1.2.2.2.2.2.2]), (9, iv 2), (12, ag [iv p8, iv p9]), (13, ag [iv r1.2.2.1.1, iv r1.2.2.1.2])]) (H67_3 p8 p9 r1) [] []) 2 (QJ.o { val := iv r13, new := [] } (qOf_call (g := 72) (args := [ag [iv p8, iv p9], ag [iv r1.2.2.1.1, iv r1.2.2.1.2]]) (by kernel_rfl) lookC_hit) (QJ.rn (qs (st 20 [(3, pt 1 0), (6, pt 4 0), (8, ag [iv r1.1.1, iv r1.1.2, iv r1.2.1.1, iv r1.2.1.2, iv r1.2.2.1.1, iv r1.2.2.1.2, iv r1.2.2.2.1.1, iv r1.2.2.2.1.2, iv r1.2.2.2.2.1.1, iv r1.2.2.2.2.1.2, iv r1.2.2.2.2.2.1, iv r1.2.2.2.2.2.2]), (9, iv 2), (12, ag [iv p8, iv p9]), (13, ag [iv r1.2.2.1.1, iv r1.2.2.1.2]), (14, iv r13), (15, iv (w64 (2 * r13))), (16, ag [iv r1.2.2.1.1, iv r1.2.2.1.2])]) (H67_3 p8 p9 r1) [] []) 2 (QJ.o { val := iv r15, new := [] } (qOf_call (g := 63) (args := [ag [iv r1.2.2.1.1, iv r1.2.2.1.2]]) (by kernel_rfl) (lookC_skip (fun hg => absurd (show (72 : Nat) = 63 from hg) (by decide)) lookC_hit)) (QJ.dn ⟨rfl, SJ.la⟩))))
      refine TS.cd (.tmp 18) (decide ((w64 (2 * r13)) > r15)) (fun hc17 => ?_) (fun hc17 => ?_)
      · replace hF := of_pos hF hc17
        refine TS.sq (TS.rg (TI.rn 1 [4] [] (st 20 [(4, .bool false)]) [.dead, .dead, .dead, .dead, .dead] (TI.dn (NX.sq (TS.rt (NX.bkR (NX.sqR ?_)))))))
        refine Rd.out (by simp) (NX.bkR (NX.sqR ?_))
        have hF := Option.some.inj hF
        subst hF
        exact ⟨.inr rfl, rfl, .bool false, by kernel_rfl, WkV.flat0 (by kernel_rfl) (Nat.le_of_ble_eq_true rfl)⟩
      · replace hF := of_neg hF hc17
        refine TS.sk (NX.bk (NX.sq (TS.rg (TI.ra 2 [3, 8, 9] (st 20 [(3, pt 1 0), (8, ag [iv r1.1.1, iv r1.1.2, iv r1.2.1.1, iv r1.2.1.2, iv r1.2.2.1.1, iv r1.2.2.1.2, iv r1.2.2.2.1.1, iv r1.2.2.2.1.2, iv r1.2.2.2.2.1.1, iv r1.2.2.2.2.1.2, iv r1.2.2.2.2.2.1, iv r1.2.2.2.2.2.2]), (9, iv 3)]) (TI.dn ?_)))))
        refine Rd.again Wk.refl (TL.round (TS.sq (TS.rg (TI.ra 1 [3, 8, 9, 10] (st 20 [(3, pt 1 0), (8, ag [iv r1.1.1, iv r1.1.2, iv r1.2.1.1, iv r1.2.1.2, iv r1.2.2.1.1, iv r1.2.2.1.2, iv r1.2.2.2.1.1, iv r1.2.2.2.1.2, iv r1.2.2.2.2.1.1, iv r1.2.2.2.2.1.2, iv r1.2.2.2.2.2.1, iv r1.2.2.2.2.2.2]), (9, iv 3), (10, .bool true)]) (TI.dn (NX.sq (TS.sq (TS.cdT (.tmp 10) (TS.sk ?_)))))))))
        refine NX.sq (TS.sq (TS.bk 1 (TS.sq (TS.rg (TI.rn 3 [3, 6, 8, 9] [1, 5] (st 20 [(3, pt 1 0), (6, pt 5 0), (8, ag [iv r1.1.1, iv r1.1.2, iv r1.2.1.1, iv r1.2.1.2, iv r1.2.2.1.1, iv r1.2.2.1.2, iv r1.2.2.2.1.1, iv r1.2.2.2.1.2, iv r1.2.2.2.2.1.1, iv r1.2.2.2.2.1.2, iv r1.2.2.2.2.2.1, iv r1.2.2.2.2.2.2]), (9, iv 3)]) (H67_2 p8 p9 r1) (TI.dn (NX.sq (TS.sq ?_))))))))
        have hX := of_do hF
        clear hF
        obtain ⟨r18, h19, hF⟩ := hX
        have hX := of_do hF
        clear hF
        obtain ⟨r20, h21, hF⟩ := hX
        have hT : ∀ e ∈ ([⟨72, [ag [iv p8, iv p9], ag [iv r1.2.2.2.1.1, iv r1.2.2.2.1.2]], (H67_2 p8 p9 r1), iv r18, []⟩, ⟨63, [ag [iv r1.2.2.2.1.1, iv r1.2.2.2.1.2]], (H67_2 p8 p9 r1), iv r20, []⟩] : List Entry), PureSim Try.prog e.g e.args e.h e.v e.new := by
          intro e he
          simp only [List.mem_cons, List.not_mem_nil, or_false] at he
          rcases he with rfl | rfl
          · exact PureSim.ak (C72 _ _ _ _ _ h19)
          · exact PureSim.ak (C63 _ _ _ h21)
        refine TS.dp [⟨72, [ag [iv p8, iv p9], ag [iv r1.2.2.2.1.1, iv r1.2.2.2.1.2]], (H67_2 p8 p9 r1), iv r18, []⟩, ⟨63, [ag [iv r1.2.2.2.1.1, iv r1.2.2.2.1.2]], (H67_2 p8 p9 r1), iv r20, []⟩] hT mixed 6 [3, 8, 9, 18] [1] (st 20 [(3, pt 1 0), (8, ag [iv r1.1.1, iv r1.1.2, iv r1.2.1.1, iv r1.2.1.2, iv r1.2.2.1.1, iv r1.2.2.1.2, iv r1.2.2.2.1.1, iv r1.2.2.2.1.2, iv r1.2.2.2.2.1.1, iv r1.2.2.2.2.1.2, iv r1.2.2.2.2.2.1, iv r1.2.2.2.2.2.2]), (9, iv 3), (18, .bool (decide ((w64 (2 * r18)) > r20)))]) [.dead, cl 23 [iv p8, iv p9], .dead, .dead, .dead, .dead] ?_ ?_
        · exact QJ.rn (qs (st 20 [(3, pt 1 0), (6, pt 5 0), (8, ag [iv r1.1.1, iv r1.1.2, iv r1.2.1.1, iv r1.2.1.2, iv r1.2.2.1.1, iv r1.2.2.1.2, iv r1.2.2.2.1.1, iv r1.2.2.2.1.2, iv r1.2.2.2.2.1.1, iv r1.2.2.2.2.1.2, iv r1.2.2.2.2.2.1, iv r1.2.2.2.2.2.2]), (9, iv 3), (12, ag [iv p8, iv p9]), (13, ag [iv r1.2.2.2.1.1, iv r1.2.2.2.1.2])]) (H67_2 p8 p9 r1) [] []) 2 (QJ.o { val := iv r18, new := [] } (qOf_call (g := 72) (args := [ag [iv p8, iv p9], ag [iv r1.2.2.2.1.1, iv r1.2.2.2.1.2]]) (by kernel_rfl) lookC_hit) (QJ.rn (qs (st 20 [(3, pt 1 0), (6, pt 5 0), (8, ag [iv r1.1.1, iv r1.1.2, iv r1.2.1.1, iv r1.2.1.2, iv r1.2.2.1.1, iv r1.2.2.1.2, iv r1.2.2.2.1.1, iv r1.2.2.2.1.2, iv r1.2.2.2.2.1.1, iv r1.2.2.2.2.1.2, iv r1.2.2.2.2.2.1, iv r1.2.2.2.2.2.2]), (9, iv 3), (12, ag [iv p8, iv p9]), (13, ag [iv r1.2.2.2.1.1, iv r1.2.2.2.1.2]), (14, iv r18), (15, iv (w64 (2 * r18))), (16, ag [iv r1.2.2.2.1.1, iv r1.2.2.2.1.2])]) (H67_2 p8 p9 r1) [] []) 2 (QJ.o { val := iv r20, new := [] } (qOf_call (g := 63) (args := [ag [iv r1.2.2.2.1.1, iv r1.2.2.2.1.2]]) (by kernel_rfl) (lookC_skip (fun hg => absurd (show (72 : Nat) = 63 from hg) (by decide)) lookC_hit)) (QJ.dn ⟨rfl, SJ.la⟩))))
        refine TS.cd (.tmp 18) (decide ((w64 (2 * r18)) > r20)) (fun hc22 => ?_) (fun hc22 => ?_)
        · replace hF := of_pos hF hc22
          refine TS.sq (TS.rg (TI.rn 1 [4] [] (st 20 [(4, .bool false)]) [.dead, .dead, .dead, .dead, .dead, .dead] (TI.dn (NX.sq (TS.rt (NX.bkR (NX.sqR ?_)))))))
          refine Rd.out (by simp) (NX.bkR (NX.sqR ?_))
          have hF := Option.some.inj hF
          subst hF
          exact ⟨.inr rfl, rfl, .bool false, by kernel_rfl, WkV.flat0 (by kernel_rfl) (Nat.le_of_ble_eq_true rfl)⟩
        · replace hF := of_neg hF hc22
          refine TS.sk (NX.bk (NX.sq (TS.rg (TI.ra 2 [3, 8, 9] (st 20 [(3, pt 1 0), (8, ag [iv r1.1.1, iv r1.1.2, iv r1.2.1.1, iv r1.2.1.2, iv r1.2.2.1.1, iv r1.2.2.1.2, iv r1.2.2.2.1.1, iv r1.2.2.2.1.2, iv r1.2.2.2.2.1.1, iv r1.2.2.2.2.1.2, iv r1.2.2.2.2.2.1, iv r1.2.2.2.2.2.2]), (9, iv 4)]) (TI.dn ?_)))))
          refine Rd.again Wk.refl (TL.round (TS.sq (TS.rg (TI.ra 1 [3, 8, 9, 10] (st 20 [(3, pt 1 0), (8, ag [iv r1.1.1, iv r1.1.2, iv r1.2.1.1, iv r1.2.1.2, iv r1.2.2.1.1, iv r1.2.2.1.2, iv r1.2.2.2.1.1, iv r1.2.2.2.1.2, iv r1.2.2.2.2.1.1, iv r1.2.2.2.2.1.2, iv r1.2.2.2.2.2.1, iv r1.2.2.2.2.2.2]), (9, iv 4), (10, .bool true)]) (TI.dn (NX.sq (TS.sq (TS.cdT (.tmp 10) (TS.sk ?_)))))))))
          refine NX.sq (TS.sq (TS.bk 1 (TS.sq (TS.rg (TI.rn 3 [3, 6, 8, 9] [1, 6] (st 20 [(3, pt 1 0), (6, pt 6 0), (8, ag [iv r1.1.1, iv r1.1.2, iv r1.2.1.1, iv r1.2.1.2, iv r1.2.2.1.1, iv r1.2.2.1.2, iv r1.2.2.2.1.1, iv r1.2.2.2.1.2, iv r1.2.2.2.2.1.1, iv r1.2.2.2.2.1.2, iv r1.2.2.2.2.2.1, iv r1.2.2.2.2.2.2]), (9, iv 4)]) (H67_1 p8 p9 r1) (TI.dn (NX.sq (TS.sq ?_))))))))
          have hX := of_do hF
          clear hF
          obtain ⟨r23, h24, hF⟩ := hX
          have hX := of_do hF
          clear hF
          obtain ⟨r25, h26, hF⟩ := hX
          have hT : ∀ e ∈ ([⟨72, [ag [iv p8, iv p9], ag [iv r1.2.2.2.2.1.1, iv r1.2.2.2.2.1.2]], (H67_1 p8 p9 r1), iv r23, []⟩, ⟨63, [ag [iv r1.2.2.2.2.1.1, iv r1.2.2.2.2.1.2]], (H67_1 p8 p9 r1), iv r25, []⟩] : List Entry), PureSim Try.prog e.g e.args e.h e.v e.new := by
            intro e he
            simp only [List.mem_cons, List.not_mem_nil, or_false] at he
            rcases he with rfl | rfl
            · exact PureSim.ak (C72 _ _ _ _ _ h24)
            · exact PureSim.ak (C63 _ _ _ h26)
          refine TS.dp [⟨72, [ag [iv p8, iv p9], ag [iv r1.2.2.2.2.1.1, iv r1.2.2.2.2.1.2]], (H67_1 p8 p9 r1), iv r23, []⟩, ⟨63, [ag [iv r1.2.2.2.2.1.1, iv r1.2.2.2.2.1.2]], (H67_1 p8 p9 r1), iv r25, []⟩] hT mixed 6 [3, 8, 9, 18] [1] (st 20 [(3, pt 1 0), (8, ag [iv r1.1.1, iv r1.1.2, iv r1.2.1.1, iv r1.2.1.2, iv r1.2.2.1.1, iv r1.2.2.1.2, iv r1.2.2.2.1.1, iv r1.2.2.2.1.2, iv r1.2.2.2.2.1.1, iv r1.2.2.2.2.1.2, iv r1.2.2.2.2.2.1, iv r1.2.2.2.2.2.2]), (9, iv 4), (18, .bool (decide ((w64 (2 * r23)) > r25)))]) [.dead, cl 23 [iv p8, iv p9], .dead, .dead, .dead, .dead, .dead] ?_ ?_
          · exact QJ.rn (qs (st 20 [(3, pt 1 0), (6, pt 6 0), (8, ag [iv r1.1.1, iv r1.1.2, iv r1.2.1.1, iv r1.2.1.2, iv r1.2.2.1.1, iv r1.2.2.1.2, iv r1.2.2.2.1.1, iv r1.2.2.2.1.2, iv r1.2.2.2.2.1.1, iv r1.2.2.2.2.1.2, iv r1.2.2.2.2.2.1, iv r1.2.2.2.2.2.2]), (9, iv 4), (12, ag [iv p8, iv p9]), (13, ag [iv r1.2.2.2.2.1.1, iv r1.2.2.2.2.1.2])]) (H67_1 p8 p9 r1) [] []) 2 (QJ.o { val := iv r23, new := [] } (qOf_call (g := 72) (args := [ag [iv p8, iv p9], ag [iv r1.2.2.2.2.1.1, iv r1.2.2.2.2.1.2]]) (by kernel_rfl) lookC_hit) (QJ.rn (qs (st 20 [(3, pt 1 0), (6, pt 6 0), (8, ag [iv r1.1.1, iv r1.1.2, iv r1.2.1.1, iv r1.2.1.2, iv r1.2.2.1.1, iv r1.2.2.1.2, iv r1.2.2.2.1.1, iv r1.2.2.2.1.2, iv r1.2.2.2.2.1.1, iv r1.2.2.2.2.1.2, iv r1.2.2.2.2.2.1, iv r1.2.2.2.2.2.2]), (9, iv 4), (12, ag [iv p8, iv p9]), (13, ag [iv r1.2.2.2.2.1.1, iv r1.2.2.2.2.1.2]), (14, iv r23), (15, iv (w64 (2 * r23))), (16, ag [iv r1.2.2.2.2.1.1, iv r1.2.2.2.2.1.2])]) (H67_1 p8 p9 r1) [] []) 2 (QJ.o { val := iv r25, new := [] } (qOf_call (g := 63) (args := [ag [iv r1.2.2.2.2.1.1, iv r1.2.2.2.2.1.2]]) (by kernel_rfl) (lookC_skip (fun hg => absurd (show (72 : Nat) = 63 from hg) (by decide)) lookC_hit)) (QJ.dn ⟨rfl, SJ.la⟩))))
          refine TS.cd (.tmp 18) (decide ((w64 (2 * r23)) > r25)) (fun hc27 => ?_) (fun hc27 => ?_)
          · replace hF := of_pos hF hc27
            refine TS.sq (TS.rg (TI.rn 1 [4] [] (st 20 [(4, .bool false)]) [.dead, .dead, .dead, .dead, .dead, .dead, .dead] (TI.dn (NX.sq (TS.rt (NX.bkR (NX.sqR ?_)))))))
            refine Rd.out (by simp) (NX.bkR (NX.sqR ?_))
            have hF := Option.some.inj hF
            subst hF
            exact ⟨.inr rfl, rfl, .bool false, by kernel_rfl, WkV.flat0 (by kernel_rfl) (Nat.le_of_ble_eq_true rfl)⟩
          · replace hF := of_neg hF hc27
            refine TS.sk (NX.bk (NX.sq (TS.rg (TI.ra 2 [3, 8, 9] (st 20 [(3, pt 1 0), (8, ag [iv r1.1.1, iv r1.1.2, iv r1.2.1.1, iv r1.2.1.2, iv r1.2.2.1.1, iv r1.2.2.1.2, iv r1.2.2.2.1.1, iv r1.2.2.2.1.2, iv r1.2.2.2.2.1.1, iv r1.2.2.2.2.1.2, iv r1.2.2.2.2.2.1, iv r1.2.2.2.2.2.2]), (9, iv 5)]) (TI.dn ?_)))))
            refine Rd.again Wk.refl (TL.round (TS.sq (TS.rg (TI.ra 1 [3, 8, 9, 10] (st 20 [(3, pt 1 0), (8, ag [iv r1.1.1, iv r1.1.2, iv r1.2.1.1, iv r1.2.1.2, iv r1.2.2.1.1, iv r1.2.2.1.2, iv r1.2.2.2.1.1, iv r1.2.2.2.1.2, iv r1.2.2.2.2.1.1, iv r1.2.2.2.2.1.2, iv r1.2.2.2.2.2.1, iv r1.2.2.2.2.2.2]), (9, iv 5), (10, .bool true)]) (TI.dn (NX.sq (TS.sq (TS.cdT (.tmp 10) (TS.sk ?_)))))))))
            refine NX.sq (TS.sq (TS.bk 1 (TS.sq (TS.rg (TI.rn 3 [3, 6, 8, 9] [1, 7] (st 20 [(3, pt 1 0), (6, pt 7 0), (8, ag [iv r1.1.1, iv r1.1.2, iv r1.2.1.1, iv r1.2.1.2, iv r1.2.2.1.1, iv r1.2.2.1.2, iv r1.2.2.2.1.1, iv r1.2.2.2.1.2, iv r1.2.2.2.2.1.1, iv r1.2.2.2.2.1.2, iv r1.2.2.2.2.2.1, iv r1.2.2.2.2.2.2]), (9, iv 5)]) (H67_0 p8 p9 r1) (TI.dn (NX.sq (TS.sq ?_))))))))
            have hX := of_do hF
            clear hF
            obtain ⟨r28, h29, hF⟩ := hX
            have hX := of_do hF
            clear hF
            obtain ⟨r30, h31, hF⟩ := hX
            have hT : ∀ e ∈ ([⟨72, [ag [iv p8, iv p9], ag [iv r1.2.2.2.2.2.1, iv r1.2.2.2.2.2.2]], (H67_0 p8 p9 r1), iv r28, []⟩, ⟨63, [ag [iv r1.2.2.2.2.2.1, iv r1.2.2.2.2.2.2]], (H67_0 p8 p9 r1), iv r30, []⟩] : List Entry), PureSim Try.prog e.g e.args e.h e.v e.new := by
              intro e he
              simp only [List.mem_cons, List.not_mem_nil, or_false] at he
              rcases he with rfl | rfl
              · exact PureSim.ak (C72 _ _ _ _ _ h29)
              · exact PureSim.ak (C63 _ _ _ h31)
            refine TS.dp [⟨72, [ag [iv p8, iv p9], ag [iv r1.2.2.2.2.2.1, iv r1.2.2.2.2.2.2]], (H67_0 p8 p9 r1), iv r28, []⟩, ⟨63, [ag [iv r1.2.2.2.2.2.1, iv r1.2.2.2.2.2.2]], (H67_0 p8 p9 r1), iv r30, []⟩] hT mixed 6 [3, 8, 9, 18] [1] (st 20 [(3, pt 1 0), (8, ag [iv r1.1.1, iv r1.1.2, iv r1.2.1.1, iv r1.2.1.2, iv r1.2.2.1.1, iv r1.2.2.1.2, iv r1.2.2.2.1.1, iv r1.2.2.2.1.2, iv r1.2.2.2.2.1.1, iv r1.2.2.2.2.1.2, iv r1.2.2.2.2.2.1, iv r1.2.2.2.2.2.2]), (9, iv 5), (18, .bool (decide ((w64 (2 * r28)) > r30)))]) [.dead, cl 23 [iv p8, iv p9], .dead, .dead, .dead, .dead, .dead, .dead] ?_ ?_
            · exact QJ.rn (qs (st 20 [(3, pt 1 0), (6, pt 7 0), (8, ag [iv r1.1.1, iv r1.1.2, iv r1.2.1.1, iv r1.2.1.2, iv r1.2.2.1.1, iv r1.2.2.1.2, iv r1.2.2.2.1.1, iv r1.2.2.2.1.2, iv r1.2.2.2.2.1.1, iv r1.2.2.2.2.1.2, iv r1.2.2.2.2.2.1, iv r1.2.2.2.2.2.2]), (9, iv 5), (12, ag [iv p8, iv p9]), (13, ag [iv r1.2.2.2.2.2.1, iv r1.2.2.2.2.2.2])]) (H67_0 p8 p9 r1) [] []) 2 (QJ.o { val := iv r28, new := [] } (qOf_call (g := 72) (args := [ag [iv p8, iv p9], ag [iv r1.2.2.2.2.2.1, iv r1.2.2.2.2.2.2]]) (by kernel_rfl) lookC_hit) (QJ.rn (qs (st 20 [(3, pt 1 0), (6, pt 7 0), (8, ag [iv r1.1.1, iv r1.1.2, iv r1.2.1.1, iv r1.2.1.2, iv r1.2.2.1.1, iv r1.2.2.1.2, iv r1.2.2.2.1.1, iv r1.2.2.2.1.2, iv r1.2.2.2.2.1.1, iv r1.2.2.2.2.1.2, iv r1.2.2.2.2.2.1, iv r1.2.2.2.2.2.2]), (9, iv 5), (12, ag [iv p8, iv p9]), (13, ag [iv r1.2.2.2.2.2.1, iv r1.2.2.2.2.2.2]), (14, iv r28), (15, iv (w64 (2 * r28))), (16, ag [iv r1.2.2.2.2.2.1, iv r1.2.2.2.2.2.2])]) (H67_0 p8 p9 r1) [] []) 2 (QJ.o { val := iv r30, new := [] } (qOf_call (g := 63) (args := [ag [iv r1.2.2.2.2.2.1, iv r1.2.2.2.2.2.2]]) (by kernel_rfl) (lookC_skip (fun hg => absurd (show (72 : Nat) = 63 from hg) (by decide)) lookC_hit)) (QJ.dn ⟨rfl, SJ.la⟩))))
            refine TS.cd (.tmp 18) (decide ((w64 (2 * r28)) > r30)) (fun hc32 => ?_) (fun hc32 => ?_)
            · replace hF := of_pos hF hc32
              refine TS.sq (TS.rg (TI.rn 1 [4] [] (st 20 [(4, .bool false)]) [.dead, .dead, .dead, .dead, .dead, .dead, .dead, .dead] (TI.dn (NX.sq (TS.rt (NX.bkR (NX.sqR ?_)))))))
              refine Rd.out (by simp) (NX.bkR (NX.sqR ?_))
              have hF := Option.some.inj hF
              subst hF
              exact ⟨.inr rfl, rfl, .bool false, by kernel_rfl, WkV.flat0 (by kernel_rfl) (Nat.le_of_ble_eq_true rfl)⟩
            · replace hF := of_neg hF hc32
              refine TS.sk (NX.bk (NX.sq (TS.rg (TI.ra 2 [3, 8, 9] (st 20 [(3, pt 1 0), (8, ag [iv r1.1.1, iv r1.1.2, iv r1.2.1.1, iv r1.2.1.2, iv r1.2.2.1.1, iv r1.2.2.1.2, iv r1.2.2.2.1.1, iv r1.2.2.2.1.2, iv r1.2.2.2.2.1.1, iv r1.2.2.2.2.1.2, iv r1.2.2.2.2.2.1, iv r1.2.2.2.2.2.2]), (9, iv 6)]) (TI.dn ?_)))))
              refine Rd.again Wk.refl (TL.round (TS.sq (TS.rg (TI.ra 1 [3, 8, 9, 10] (st 20 [(3, pt 1 0), (8, ag [iv r1.1.1, iv r1.1.2, iv r1.2.1.1, iv r1.2.1.2, iv r1.2.2.1.1, iv r1.2.2.1.2, iv r1.2.2.2.1.1, iv r1.2.2.2.1.2, iv r1.2.2.2.2.1.1, iv r1.2.2.2.2.1.2, iv r1.2.2.2.2.2.1, iv r1.2.2.2.2.2.2]), (9, iv 6), (10, .bool false)]) (TI.dn (NX.sq (TS.sq (TS.cdF (.tmp 10) (TS.ex 0 ?_)))))))))
              refine NX.sqX ?_
              refine Rd.out (by simp) (NX.bkX (NX.sq (TS.sq (TS.rg (TI.rn 1 [4] [] (st 20 [(4, .bool true)]) [.dead, .dead, .dead, .dead, .dead, .dead, .dead, .dead] (TI.dn (NX.sq (TS.rt ?_))))))))
              have hF := Option.some.inj hF
              subst hF
              exact ⟨.inr rfl, rfl, .bool true, by kernel_rfl, WkV.flat0 (by kernel_rfl) (Nat.le_of_ble_eq_true rfl)⟩
theorem C67 (p0 : Int) (p1 : Int) (p2 : Int) (p3 : Int) (p4 : Int) (p5 : Int) (p6 : Int) (p7 : Int) (p8 : Int) (p9 : Int) (r : Bool) (hF : F67 p0 p1 p2 p3 p4 p5 p6 p7 p8 p9 = some r) : PureSim Try.prog 67 [ag [iv p0, iv p1, iv p2, iv p3, iv p4, iv p5, iv p6, iv p7], ag [iv p8, iv p9]] [] (V67 0 r) (N67 0 r) :=
  PureSim.of_Fin Try.func67 (c := c67) (by kernel_rfl) (by kernel_rfl) 0 rfl [0, 1] [] (by kernel_rfl) (B67 p0 p1 p2 p3 p4 p5 p6 p7 p8 p9 r hF)

-- agonic/magnet.Verify
noncomputable def c32 : Code := Try.f32.code
def H32_0 (p0 : Int) (p1 : Int) (p2 : Int) (p3 : Int) (p8 : Int) (p9 : Int) (p10 : Int) (p11 : Int) (r4 : (Int × Int)) (r6 : (Int × Int)) (p4 : Int) (p5 : Int) (p6 : Int) (p7 : Int) : List Blk := [cl 25 [iv p0, iv p1, iv p2, iv p3], .dead, .dead, cl 23 [iv p8, iv p9], cl 27 [iv p10, iv p11], .dead, cl 108 [iv r4.1, iv r4.2, iv r6.1, iv r6.2, iv p4, iv p5, iv p6, iv p7]]
def S32_1 (p4 : Int) (p7 : Int) (p5 : Int) (p6 : Int) : CAct := (st 81 [(5, pt 0 0), (8, pt 3 0), (9, pt 4 0), (12, pt 6 0), (13, iv (w64 ((w64 (p4 * p7)) - (w64 (p5 * p6))))), (46, iv (w64 ((w64 (p4 * p7)) - (w64 (p5 * p6)))))])
def H32_2 (p0 : Int) (p1 : Int) (p2 : Int) (p3 : Int) (p4 : Int) (p5 : Int) (p6 : Int) (p7 : Int) (p8 : Int) (p9 : Int) (p10 : Int) (p11 : Int) : List Blk := [cl 25 [iv p0, iv p1, iv p2, iv p3], cl 27 [iv p4, iv p5], cl 27 [iv p6, iv p7], cl 23 [iv p8, iv p9], cl 27 [iv p10, iv p11], .dead]
def S32_3 (p4 : Int) (p7 : Int) (p5 : Int) (p6 : Int) : CAct := (st 81 [(5, pt 0 0), (8, pt 3 0), (9, pt 4 0), (12, pt 6 0), (13, iv (w64 ((w64 (p4 * p7)) - (w64 (p5 * p6))))), (47, .bool false)])
def S32_4 (p4 : Int) (p7 : Int) (p5 : Int) (p6 : Int) : CAct := (st 81 [(5, pt 0 0), (8, pt 3 0), (9, pt 4 0), (12, pt 6 0), (13, iv (w64 ((w64 (p4 * p7)) - (w64 (p5 * p6))))), (47, .bool true)])
def S32_5 (p4 : Int) (p7 : Int) (p5 : Int) (p6 : Int) : CAct := (st 81 [(5, pt 0 0), (8, pt 3 0), (9, pt 4 0), (12, pt 6 0), (48, .bool true), (49, iv (w64 ((w64 (p4 * p7)) - (w64 (p5 * p6)))))])
def S32_6 (r4 : (Int × Int)) (r6 : (Int × Int)) : CAct := (st 81 [(5, pt 0 0), (8, pt 3 0), (9, pt 4 0), (12, pt 6 0), (66, .bool false), (68, ag [iv r4.1, iv r4.2, iv r6.1, iv r6.2])])
def S32_7 (r4 : (Int × Int)) : CAct := (st 81 [(5, pt 0 0), (8, pt 3 0), (9, pt 4 0), (12, pt 6 0), (52, .bool false), (55, ag [iv r4.1, iv r4.2])])
def S32_8 (r6 : (Int × Int)) : CAct := (st 81 [(5, pt 0 0), (8, pt 3 0), (9, pt 4 0), (12, pt 6 0), (59, .bool false), (62, ag [iv r6.1, iv r6.2])])
def S32_9  : CAct := (st 81 [(5, pt 0 0), (8, pt 3 0), (9, pt 4 0), (12, pt 6 0), (48, .bool true), (50, .bool false)])
def S32_10  : CAct := (st 81 [(5, pt 0 0), (8, pt 3 0), (9, pt 4 0), (12, pt 6 0), (45, .bool false)])
def S32_11  : CAct := (st 81 [(5, pt 0 0), (8, pt 3 0), (9, pt 4 0), (12, pt 6 0), (45, .bool true)])
def F32 (p0 : Int) (p1 : Int) (p2 : Int) (p3 : Int) (p4 : Int) (p5 : Int) (p6 : Int) (p7 : Int) (p8 : Int) (p9 : Int) (p10 : Int) (p11 : Int) : Option Int :=
  F52 p0 p1 p2 p3 p8 p9 ([(p10, p11), (p4, p5), (p6, p7)]) >>= fun r1 =>
  if r1 != 0 then
    some r1
  else
    F54 p0 p1 p2 p3 p4 p5 >>= fun r4 =>
    F54 p0 p1 p2 p3 p6 p7 >>= fun r6 =>
    (
      if (w64 ((w64 (p4 * p7)) - (w64 (p5 * p6)))) != 1 then
        if (w64 ((w64 (p4 * p7)) - (w64 (p5 * p6)))) != (-1) then
          some (true)
        else
          F58 r4.1 r4.2 2000 >>= fun r10 =>
          if r10 then
            F58 r6.1 r6.2 2000 >>= fun r12 =>
            if r12 then
              F50 r4.1 r4.2 r6.1 r6.2 >>= fun r14 =>
              if r14 then
                some (false)
              else
                some (true)
            else
              some (true)
          else
            some (true)
      else
        F58 r4.1 r4.2 2000 >>= fun r16 =>
        if r16 then
          F58 r6.1 r6.2 2000 >>= fun r18 =>
          if r18 then
            F50 r4.1 r4.2 r6.1 r6.2 >>= fun r20 =>
            if r20 then
              some (false)
            else
              some (true)
          else
            some (true)
        else
          some (true)
    : Option Bool) >>= fun m22 =>
    if m22 then
      some 5
    else
      F54 p0 p1 p2 p3 p10 p11 >>= fun r23 =>
      F53 p8 p9 1 r23.1 r23.2 >>= fun r25 =>
      F67 r4.1 r4.2 r6.1 r6.2 p4 p5 p6 p7 r25.1 r25.2 >>= fun r27 =>
      (
        if r27 then
          some (false)
        else
          some (true)
      : Option Bool) >>= fun m29 =>
      if m29 then
        some 12
      else
        some 0
def V32 (b : Nat) (r : Int) : Value := iv r
def N32 (b : Nat) (r : Int) : List Blk := []
theorem B32 (p0 : Int) (p1 : Int) (p2 : Int) (p3 : Int) (p4 : Int) (p5 : Int) (p6 : Int) (p7 : Int) (p8 : Int) (p9 : Int) (p10 : Int) (p11 : Int) (r : Int) (hF : F32 p0 p1 p2 p3 p4 p5 p6 p7 p8 p9 p10 p11 = some r) : TS Try.prog 0 0 c32 (st 81 [(0, ag [iv p0, iv p1, iv p2, iv p3]), (1, ag [iv p4, iv p5]), (2, ag [iv p6, iv p7]), (3, ag [iv p8, iv p9]), (4, ag [iv p10, iv p11])]) [] (NX Try.prog 0 0 [] (FinP Try.prog Try.f32 0 (V32 0 r) (N32 0 r))) := by
  unfold F32 at hF
  refine TS.sq (TS.rg (TI.rn 6 [5, 6, 7, 8, 9] [0, 1, 2, 3, 4] (st 81 [(5, pt 0 0), (6, pt 1 0), (7, pt 2 0), (8, pt 3 0), (9, pt 4 0)]) [cl 25 [iv p0, iv p1, iv p2, iv p3], cl 27 [iv p4, iv p5], cl 27 [iv p6, iv p7], cl 23 [iv p8, iv p9], cl 27 [iv p10, iv p11]] (TI.dn (NX.sq (TS.sq (TS.sq ?_))))))
  have hX := of_do hF
  clear hF
  obtain ⟨r1, h2, hF⟩ := hX
  refine TS.rg (TI.rn 6 [5, 6, 7, 8, 9, 14, 15, 19] [0, 1, 2, 3, 4, 5] (st 81 [(5, pt 0 0), (6, pt 1 0), (7, pt 2 0), (8, pt 3 0), (9, pt 4 0), (14, ag [iv p0, iv p1, iv p2, iv p3]), (15, ag [iv p8, iv p9]), (19, .slice (some ⟨5, 0, none⟩) 3 3)]) [cl 25 [iv p0, iv p1, iv p2, iv p3], cl 27 [iv p4, iv p5], cl 27 [iv p6, iv p7], cl 23 [iv p8, iv p9], cl 27 [iv p10, iv p11], cl 27 [iv p10, iv p11, iv p4, iv p5, iv p6, iv p7]] (TI.cp 52 [ag [iv p0, iv p1, iv p2, iv p3], ag [iv p8, iv p9], .slice (some ⟨5, 0, none⟩) 3 3] (iv r1) [] (PureSim.ren (hc := [accB 27 (List.length ([(p10, p11), (p4, p5), (p6, p7)])) (List.flatMap e27 ([(p10, p11), (p4, p5), (p6, p7)]))]) (fun i => List.getD [(5, 0)] i (0, 0)) (C52 _ _ _ _ _ _ _ _ h2) (.cons (At.accU (by kernel_rfl) rfl (fun _ => rfl)) (.nil _)) (.cons (.flat (by kernel_rfl)) (.cons (.flat (by kernel_rfl)) (.cons (Rn.any _ _ _ _ _ _ (Nat.le_of_ble_eq_true rfl) rfl rfl (by decide)) .nil))) (.flat (by kernel_rfl)) newflat_nil) (TI.rn 1 [5, 6, 7, 8, 9, 11] [0, 1, 2, 3, 4] (st 81 [(5, pt 0 0), (6, pt 1 0), (7, pt 2 0), (8, pt 3 0), (9, pt 4 0), (11, iv r1)]) (H32_2 p0 p1 p2 p3 p4 p5 p6 p7 p8 p9 p10 p11) (TI.dn (NX.sq (TS.sq (TS.rg (TI.ra 2 [5, 6, 7, 8, 9, 11, 22] (st 81 [(5, pt 0 0), (6, pt 1 0), (7, pt 2 0), (8, pt 3 0), (9, pt 4 0), (11, iv r1), (22, .bool (r1 != 0))]) ?_))))))))
  refine TI.dn (NX.sq ?_)
  refine TS.cd (.tmp 22) (r1 != 0) (fun hc3 => ?_) (fun hc3 => ?_)
  · replace hF := of_pos hF hc3
    refine TS.sq (TS.rg (TI.rn 2 [10] [] (st 81 [(10, iv r1)]) [.dead, .dead, .dead, .dead, .dead, .dead] (TI.dn (NX.sq (TS.rt (NX.sqR ?_))))))
    have hF := Option.some.inj hF
    subst hF
    exact ⟨.inr rfl, rfl, iv r1, by kernel_rfl, WkV.flat0 (by kernel_rfl) (Nat.le_of_ble_eq_true rfl)⟩
  · replace hF := of_neg hF hc3
    refine TS.sk (NX.sq (TS.sq ?_))
    have hX := of_do hF
    clear hF
    obtain ⟨r4, h5, hF⟩ := hX
    have hX := of_do hF
    clear hF
    obtain ⟨r6, h7, hF⟩ := hX
    have hT : ∀ e ∈ ([⟨54, [ag [iv p0, iv p1, iv p2, iv p3], ag [iv p4, iv p5]], (H32_2 p0 p1 p2 p3 p4 p5 p6 p7 p8 p9 p10 p11), ag [iv r4.1, iv r4.2], []⟩, ⟨54, [ag [iv p0, iv p1, iv p2, iv p3], ag [iv p6, iv p7]], (H32_2 p0 p1 p2 p3 p4 p5 p6 p7 p8 p9 p10 p11), ag [iv r6.1, iv r6.2], []⟩] : List Entry), PureSim Try.prog e.g e.args e.h e.v e.new := by
      intro e he
      simp only [List.mem_cons, List.not_mem_nil, or_false] at he
      rcases he with rfl | rfl
      · exact PureSim.ak (C54 _ _ _ _ _ _ _ h5)
      · exact PureSim.ak (C54 _ _ _ _ _ _ _ h7)
    refine TS.dp [⟨54, [ag [iv p0, iv p1, iv p2, iv p3], ag [iv p4, iv p5]], (H32_2 p0 p1 p2 p3 p4 p5 p6 p7 p8 p9 p10 p11), ag [iv r4.1, iv r4.2], []⟩, ⟨54, [ag [iv p0, iv p1, iv p2, iv p3], ag [iv p6, iv p7]], (H32_2 p0 p1 p2 p3 p4 p5 p6 p7 p8 p9 p10 p11), ag [iv r6.1, iv r6.2], []⟩] hT mixed 11 [5, 6, 7, 8, 9, 12] [0, 1, 2, 3, 4, 6] (st 81 [(5, pt 0 0), (6, pt 1 0), (7, pt 2 0), (8, pt 3 0), (9, pt 4 0), (12, pt 6 0)]) [cl 25 [iv p0, iv p1, iv p2, iv p3], cl 27 [iv p4, iv p5], cl 27 [iv p6, iv p7], cl 23 [iv p8, iv p9], cl 27 [iv p10, iv p11], .dead, cl 108 [iv r4.1, iv r4.2, iv r6.1, iv r6.2, iv p4, iv p5, iv p6, iv p7]] ?_ ?_
    · refine QJ.rn (qs (st 81 [(5, pt 0 0), (6, pt 1 0), (7, pt 2 0), (8, pt 3 0), (9, pt 4 0), (11, iv r1), (22, .bool (r1 != 0)), (24, ag [iv p0, iv p1, iv p2, iv p3]), (25, ag [iv p4, iv p5])]) (H32_2 p0 p1 p2 p3 p4 p5 p6 p7 p8 p9 p10 p11) [] []) 2 (QJ.o { val := ag [iv r4.1, iv r4.2], new := [] } (qOf_call (g := 54) (args := [ag [iv p0, iv p1, iv p2, iv p3], ag [iv p4, iv p5]]) (by kernel_rfl) lookC_hit) (QJ.rn (qs (st 81 [(5, pt 0 0), (6, pt 1 0), (7, pt 2 0), (8, pt 3 0), (9, pt 4 0), (11, iv r1), (22, .bool (r1 != 0)), (24, ag [iv p0, iv p1, iv p2, iv p3]), (25, ag [iv p4, iv p5]), (26, ag [iv r4.1, iv r4.2]), (27, ag [iv p0, iv p1, iv p2, iv p3]), (28, ag [iv p6, iv p7])]) (H32_2 p0 p1 p2 p3 p4 p5 p6 p7 p8 p9 p10 p11) [] []) 2 ?_))
      exact QJ.o { val := ag [iv r6.1, iv r6.2], new := [] } (qOf_call (g := 54) (args := [ag [iv p0, iv p1, iv p2, iv p3], ag [iv p6, iv p7]]) (by kernel_rfl) (lookC_skip (by intro _ ha _; have hr := Option.some.inj (h5.symm.trans (Eq.trans (congr (congr (congr (congr (congr (congrArg F54 (Eq.refl p0)) (Eq.refl p1)) (Eq.refl p2)) (Eq.refl p3)) (show p4 = p6 from congrArg (leafI 4) ha)) (show p5 = p7 from congrArg (leafI 5) ha)) h7)); first | (subst hr; rfl) | (cases hr; done) | (cases hr; rfl)) lookC_hit)) (QJ.rn (qs (st 81 [(5, pt 0 0), (6, pt 1 0), (7, pt 2 0), (8, pt 3 0), (9, pt 4 0), (11, iv r1), (12, pt 6 0), (22, .bool (r1 != 0)), (24, ag [iv p0, iv p1, iv p2, iv p3]), (25, ag [iv p4, iv p5]), (26, ag [iv r4.1, iv r4.2]), (27, ag [iv p0, iv p1, iv p2, iv p3]), (28, ag [iv p6, iv p7]), (29, ag [iv r6.1, iv r6.2]), (30, ag [iv r4.1, iv r4.2, iv r6.1, iv r6.2]), (31, ag [iv p4, iv p5]), (32, ag [iv p6, iv p7]), (33, ag [iv r4.1, iv r4.2, iv r6.1, iv r6.2, iv p4, iv p5, iv p6, iv p7])]) [cl 25 [iv p0, iv p1, iv p2, iv p3], cl 27 [iv p4, iv p5], cl 27 [iv p6, iv p7], cl 23 [iv p8, iv p9], cl 27 [iv p10, iv p11], .dead, cl 108 [iv 0, iv 0, iv 0, iv 0, iv 0, iv 0, iv 0, iv 0]] [(10, 6, 7)] []) 5 (QJ.dn ⟨rfl, SJ.la⟩))
    refine TS.sq (TS.rg (TI.rn 12 [5, 8, 9, 12, 13] [0, 3, 4, 6] (st 81 [(5, pt 0 0), (8, pt 3 0), (9, pt 4 0), (12, pt 6 0), (13, iv (w64 ((w64 (p4 * p7)) - (w64 (p5 * p6)))))]) (H32_0 p0 p1 p2 p3 p8 p9 p10 p11 r4 r6 p4 p5 p6 p7) (TI.dn (NX.sq (TS.sq (TS.bk 0 (TS.sq ?_)))))))
    have hX := of_do hF
    clear hF
    obtain ⟨m22, hm31, hF⟩ := hX
    have hK : NX Try.prog 0 0 [.sq c32.s2.s2.s2.s2.s1.bd.s2, .bk 0, .sq c32.s2.s2.s2.s2.s2] (FinP Try.prog Try.f32 0 (V32 0 r) (N32 0 r)) .normal (st 81 [(5, pt 0 0), (8, pt 3 0), (9, pt 4 0), (12, pt 6 0), (45, .bool m22)]) (H32_0 p0 p1 p2 p3 p8 p9 p10 p11 r4 r6 p4 p5 p6 p7) := by
      refine NX.sq ?_
      cases m22 with
      | true =>
        replace hF := of_pos hF rfl
        refine TS.cdT (.tmp 45) (TS.sq (TS.rg (TI.rn 1 [10] [] (st 81 [(10, iv 5)]) [.dead, .dead, .dead, .dead, .dead, .dead, .dead] (TI.dn (NX.sq (TS.rt (NX.bkR (NX.sqR ?_))))))))
        have hF := Option.some.inj hF
        subst hF
        exact ⟨.inr rfl, rfl, iv 5, by kernel_rfl, WkV.flat0 (by kernel_rfl) (Nat.le_of_ble_eq_true rfl)⟩
      | false =>
        replace hF := of_neg hF rfl
        refine TS.cdF (.tmp 45) (TS.sq ?_)
        have hX := of_do hF
        clear hF
        obtain ⟨r23, h24, hF⟩ := hX
        have hX := of_do hF
        clear hF
        obtain ⟨r25, h26, hF⟩ := hX
        have hX := of_do hF
        clear hF
        obtain ⟨r27, h28, hF⟩ := hX
        have hX := of_do hF
        clear hF
        obtain ⟨m29, hm30, hF⟩ := hX
        have hK : NX Try.prog 0 0 [.sq c32.s2.s2.s2.s2.s1.bd.s2.el.s2, .bk 0, .sq c32.s2.s2.s2.s2.s2] (FinP Try.prog Try.f32 0 (V32 0 r) (N32 0 r)) .normal (st 81 [(72, .bool m29)]) [.dead, .dead, .dead, .dead, .dead, .dead, .dead] := by
          refine NX.sq ?_
          cases m29 with
          | true =>
            replace hF := of_pos hF rfl
            refine TS.cdT (.tmp 72) (TS.sq (TS.rg (TI.ra 1 [10] (st 81 [(10, iv 12)]) (TI.dn (NX.sq (TS.rt (NX.bkR (NX.sqR ?_))))))))
            have hF := Option.some.inj hF
            subst hF
            exact ⟨.inr rfl, rfl, iv 12, by kernel_rfl, WkV.flat0 (by kernel_rfl) (Nat.le_of_ble_eq_true rfl)⟩
          | false =>
            replace hF := of_neg hF rfl
            refine TS.cdF (.tmp 72) (TS.sk (NX.bk (NX.sq (TS.sq (TS.rg (TI.ra 1 [10] (st 81 [(10, iv 0)]) (TI.dn (NX.sq ?_))))))))
            refine TS.rt ?_
            have hF := Option.some.inj hF
            subst hF
            exact ⟨.inr rfl, rfl, iv 0, by kernel_rfl, WkV.flat0 (by kernel_rfl) (Nat.le_of_ble_eq_true rfl)⟩
        cases r27 with
        | true =>
          replace hm30 := of_pos hm30 rfl
          have hm30 := Option.some.inj hm30
          subst hm30
          have hT : ∀ e ∈ ([⟨54, [ag [iv p0, iv p1, iv p2, iv p3], ag [iv p10, iv p11]], (H32_0 p0 p1 p2 p3 p8 p9 p10 p11 r4 r6 p4 p5 p6 p7), ag [iv r23.1, iv r23.2], []⟩, ⟨53, [ag [iv p8, iv p9], iv 1, ag [iv r23.1, iv r23.2]], (H32_0 p0 p1 p2 p3 p8 p9 p10 p11 r4 r6 p4 p5 p6 p7), ag [iv r25.1, iv r25.2], []⟩, ⟨67, [ag [iv r4.1, iv r4.2, iv r6.1, iv r6.2, iv p4, iv p5, iv p6, iv p7], ag [iv r25.1, iv r25.2]], (H32_0 p0 p1 p2 p3 p8 p9 p10 p11 r4 r6 p4 p5 p6 p7), .bool true, []⟩] : List Entry), PureSim Try.prog e.g e.args e.h e.v e.new := by
            intro e he
            simp only [List.mem_cons, List.not_mem_nil, or_false] at he
            rcases he with rfl | rfl | rfl
            · exact PureSim.ak (C54 _ _ _ _ _ _ _ h24)
            · exact PureSim.ak (C53 _ _ _ _ _ _ h26)
            · exact PureSim.ak (C67 _ _ _ _ _ _ _ _ _ _ _ h28)
          refine TS.dp [⟨54, [ag [iv p0, iv p1, iv p2, iv p3], ag [iv p10, iv p11]], (H32_0 p0 p1 p2 p3 p8 p9 p10 p11 r4 r6 p4 p5 p6 p7), ag [iv r23.1, iv r23.2], []⟩, ⟨53, [ag [iv p8, iv p9], iv 1, ag [iv r23.1, iv r23.2]], (H32_0 p0 p1 p2 p3 p8 p9 p10 p11 r4 r6 p4 p5 p6 p7), ag [iv r25.1, iv r25.2], []⟩, ⟨67, [ag [iv r4.1, iv r4.2, iv r6.1, iv r6.2, iv p4, iv p5, iv p6, iv p7], ag [iv r25.1, iv r25.2]], (H32_0 p0 p1 p2 p3 p8 p9 p10 p11 r4 r6 p4 p5 p6 p7), .bool true, []⟩] hT mixed 6 [72] [] (st 81 [(72, .bool false)]) [.dead, .dead, .dead, .dead, .dead, .dead, .dead] ?_ ?_
          · exact QJ.rn (qs (st 81 [(5, pt 0 0), (8, pt 3 0), (9, pt 4 0), (12, pt 6 0), (45, .bool false), (73, ag [iv r4.1, iv r4.2, iv r6.1, iv r6.2, iv p4, iv p5, iv p6, iv p7]), (74, ag [iv p8, iv p9]), (75, ag [iv p0, iv p1, iv p2, iv p3]), (76, ag [iv p10, iv p11])]) (H32_0 p0 p1 p2 p3 p8 p9 p10 p11 r4 r6 p4 p5 p6 p7) [] []) 4 (QJ.o { val := ag [iv r23.1, iv r23.2], new := [] } (qOf_call (g := 54) (args := [ag [iv p0, iv p1, iv p2, iv p3], ag [iv p10, iv p11]]) (by kernel_rfl) lookC_hit) (QJ.o { val := ag [iv r25.1, iv r25.2], new := [] } (qOf_call (g := 53) (args := [ag [iv p8, iv p9], iv 1, ag [iv r23.1, iv r23.2]]) (by kernel_rfl) (lookC_skip (fun hg => absurd (show (54 : Nat) = 53 from hg) (by decide)) lookC_hit)) (QJ.dn ⟨rfl, (SJ.o { val := .bool true, new := [] } (qOf_call (g := 67) (args := [ag [iv r4.1, iv r4.2, iv r6.1, iv r6.2, iv p4, iv p5, iv p6, iv p7], ag [iv r25.1, iv r25.2]]) (by kernel_rfl) (lookC_skip (fun hg => absurd (show (54 : Nat) = 67 from hg) (by decide)) (lookC_skip (fun hg => absurd (show (53 : Nat) = 67 from hg) (by decide)) lookC_hit))) SJ.la)⟩)))
          exact hK
        | false =>
          replace hm30 := of_neg hm30 rfl
          have hm30 := Option.some.inj hm30
          subst hm30
          have hT : ∀ e ∈ ([⟨54, [ag [iv p0, iv p1, iv p2, iv p3], ag [iv p10, iv p11]], (H32_0 p0 p1 p2 p3 p8 p9 p10 p11 r4 r6 p4 p5 p6 p7), ag [iv r23.1, iv r23.2], []⟩, ⟨53, [ag [iv p8, iv p9], iv 1, ag [iv r23.1, iv r23.2]], (H32_0 p0 p1 p2 p3 p8 p9 p10 p11 r4 r6 p4 p5 p6 p7), ag [iv r25.1, iv r25.2], []⟩, ⟨67, [ag [iv r4.1, iv r4.2, iv r6.1, iv r6.2, iv p4, iv p5, iv p6, iv p7], ag [iv r25.1, iv r25.2]], (H32_0 p0 p1 p2 p3 p8 p9 p10 p11 r4 r6 p4 p5 p6 p7), .bool false, []⟩] : List Entry), PureSim Try.prog e.g e.args e.h e.v e.new := by
            intro e he
            simp only [List.mem_cons, List.not_mem_nil, or_false] at he
            rcases he with rfl | rfl | rfl
            · exact PureSim.ak (C54 _ _ _ _ _ _ _ h24)
            · exact PureSim.ak (C53 _ _ _ _ _ _ h26)
            · exact PureSim.ak (C67 _ _ _ _ _ _ _ _ _ _ _ h28)
          refine TS.dp [⟨54, [ag [iv p0, iv p1, iv p2, iv p3], ag [iv p10, iv p11]], (H32_0 p0 p1 p2 p3 p8 p9 p10 p11 r4 r6 p4 p5 p6 p7), ag [iv r23.1, iv r23.2], []⟩, ⟨53, [ag [iv p8, iv p9], iv 1, ag [iv r23.1, iv r23.2]], (H32_0 p0 p1 p2 p3 p8 p9 p10 p11 r4 r6 p4 p5 p6 p7), ag [iv r25.1, iv r25.2], []⟩, ⟨67, [ag [iv r4.1, iv r4.2, iv r6.1, iv r6.2, iv p4, iv p5, iv p6, iv p7], ag [iv r25.1, iv r25.2]], (H32_0 p0 p1 p2 p3 p8 p9 p10 p11 r4 r6 p4 p5 p6 p7), .bool false, []⟩] hT mixed 6 [72] [] (st 81 [(72, .bool true)]) [.dead, .dead, .dead, .dead, .dead, .dead, .dead] ?_ ?_
          · exact QJ.rn (qs (st 81 [(5, pt 0 0), (8, pt 3 0), (9, pt 4 0), (12, pt 6 0), (45, .bool false), (73, ag [iv r4.1, iv r4.2, iv r6.1, iv r6.2, iv p4, iv p5, iv p6, iv p7]), (74, ag [iv p8, iv p9]), (75, ag [iv p0, iv p1, iv p2, iv p3]), (76, ag [iv p10, iv p11])]) (H32_0 p0 p1 p2 p3 p8 p9 p10 p11 r4 r6 p4 p5 p6 p7) [] []) 4 (QJ.o { val := ag [iv r23.1, iv r23.2], new := [] } (qOf_call (g := 54) (args := [ag [iv p0, iv p1, iv p2, iv p3], ag [iv p10, iv p11]]) (by kernel_rfl) lookC_hit) (QJ.o { val := ag [iv r25.1, iv r25.2], new := [] } (qOf_call (g := 53) (args := [ag [iv p8, iv p9], iv 1, ag [iv r23.1, iv r23.2]]) (by kernel_rfl) (lookC_skip (fun hg => absurd (show (54 : Nat) = 53 from hg) (by decide)) lookC_hit)) (QJ.dn ⟨rfl, (SJ.o { val := .bool false, new := [] } (qOf_call (g := 67) (args := [ag [iv r4.1, iv r4.2, iv r6.1, iv r6.2, iv p4, iv p5, iv p6, iv p7], ag [iv r25.1, iv r25.2]]) (by kernel_rfl) (lookC_skip (fun hg => absurd (show (54 : Nat) = 67 from hg) (by decide)) (lookC_skip (fun hg => absurd (show (53 : Nat) = 67 from hg) (by decide)) lookC_hit))) SJ.la)⟩)))
          exact hK
    rcases Bool.eq_false_or_eq_true ((w64 ((w64 (p4 * p7)) - (w64 (p5 * p6)))) != 1) with hc8 | hc8
    · replace hm31 := of_pos hm31 hc8
      rcases Bool.eq_false_or_eq_true ((w64 ((w64 (p4 * p7)) - (w64 (p5 * p6)))) != (-1)) with hc9 | hc9
      · replace hm31 := of_pos hm31 hc9
        have hm31 := Option.some.inj hm31
        subst hm31
        exact TS.rg (TI.ra 1 [5, 8, 9, 12, 13, 46] (S32_1 p4 p7 p5 p6) (TI.o { val := .bool true } (q_conv (e := (w64 ((w64 (p4 * p7)) - (w64 (p5 * p6)))) != 1) (b := true) (by kernel_rfl) hc8) [5, 8, 9, 12, 13, 47] [0, 3, 4, 6] (S32_4 p4 p7 p5 p6) (H32_0 p0 p1 p2 p3 p8 p9 p10 p11 r4 r6 p4 p5 p6 p7) (TI.ra 2 [5, 8, 9, 12, 48, 49] (S32_5 p4 p7 p5 p6) (TI.o { val := .bool true } (q_conv (e := (w64 ((w64 (p4 * p7)) - (w64 (p5 * p6)))) != (-1)) (b := true) (by kernel_rfl) hc9) [5, 8, 9, 12, 48, 50] [0, 3, 4, 6] (st 81 [(5, pt 0 0), (8, pt 3 0), (9, pt 4 0), (12, pt 6 0), (48, .bool true), (50, .bool true)]) (H32_0 p0 p1 p2 p3 p8 p9 p10 p11 r4 r6 p4 p5 p6 p7) (TI.ra 22 [5, 8, 9, 12, 45] (S32_11) (TI.dn hK))))))
      · replace hm31 := of_neg hm31 hc9
        have hX := of_do hm31
        clear hm31
        obtain ⟨r10, h11, hm31⟩ := hX
        cases r10 with
        | true =>
          replace hm31 := of_pos hm31 rfl
          have hX := of_do hm31
          clear hm31
          obtain ⟨r12, h13, hm31⟩ := hX
          cases r12 with
          | true =>
            replace hm31 := of_pos hm31 rfl
            have hX := of_do hm31
            clear hm31
            obtain ⟨r14, h15, hm31⟩ := hX
            cases r14 with
            | true =>
              replace hm31 := of_pos hm31 rfl
              have hm31 := Option.some.inj hm31
              subst hm31
              refine TS.rg (TI.ra 1 [5, 8, 9, 12, 13, 46] (S32_1 p4 p7 p5 p6) (TI.o { val := .bool true } (q_conv (e := (w64 ((w64 (p4 * p7)) - (w64 (p5 * p6)))) != 1) (b := true) (by kernel_rfl) hc8) [5, 8, 9, 12, 13, 47] [0, 3, 4, 6] (S32_4 p4 p7 p5 p6) (H32_0 p0 p1 p2 p3 p8 p9 p10 p11 r4 r6 p4 p5 p6 p7) (TI.ra 2 [5, 8, 9, 12, 48, 49] (S32_5 p4 p7 p5 p6) (TI.o { val := .bool false } (q_conv (e := (w64 ((w64 (p4 * p7)) - (w64 (p5 * p6)))) != (-1)) (b := false) (by kernel_rfl) hc9) [5, 8, 9, 12, 48, 50] [0, 3, 4, 6] (S32_9) (H32_0 p0 p1 p2 p3 p8 p9 p10 p11 r4 r6 p4 p5 p6 p7) (TI.ra 5 [5, 8, 9, 12, 52, 55] (S32_7 r4) (TI.cf (C58 _ _ _ _ h11) (TI.ra 6 [5, 8, 9, 12, 59, 62] (S32_8 r6) (TI.cf (C58 _ _ _ _ h13) ?_))))))))
              exact TI.ra 5 [5, 8, 9, 12, 66, 68] (S32_6 r4 r6) (TI.cf (C50 _ _ _ _ _ h15) (TI.ra 3 [5, 8, 9, 12, 45] (S32_10) (TI.dn hK)))
            | false =>
              replace hm31 := of_neg hm31 rfl
              have hm31 := Option.some.inj hm31
              subst hm31
              refine TS.rg (TI.ra 1 [5, 8, 9, 12, 13, 46] (S32_1 p4 p7 p5 p6) (TI.o { val := .bool true } (q_conv (e := (w64 ((w64 (p4 * p7)) - (w64 (p5 * p6)))) != 1) (b := true) (by kernel_rfl) hc8) [5, 8, 9, 12, 13, 47] [0, 3, 4, 6] (S32_4 p4 p7 p5 p6) (H32_0 p0 p1 p2 p3 p8 p9 p10 p11 r4 r6 p4 p5 p6 p7) (TI.ra 2 [5, 8, 9, 12, 48, 49] (S32_5 p4 p7 p5 p6) (TI.o { val := .bool false } (q_conv (e := (w64 ((w64 (p4 * p7)) - (w64 (p5 * p6)))) != (-1)) (b := false) (by kernel_rfl) hc9) [5, 8, 9, 12, 48, 50] [0, 3, 4, 6] (S32_9) (H32_0 p0 p1 p2 p3 p8 p9 p10 p11 r4 r6 p4 p5 p6 p7) (TI.ra 5 [5, 8, 9, 12, 52, 55] (S32_7 r4) (TI.cf (C58 _ _ _ _ h11) (TI.ra 6 [5, 8, 9, 12, 59, 62] (S32_8 r6) (TI.cf (C58 _ _ _ _ h13) ?_))))))))
              exact TI.ra 5 [5, 8, 9, 12, 66, 68] (S32_6 r4 r6) (TI.cf (C50 _ _ _ _ _ h15) (TI.ra 3 [5, 8, 9, 12, 45] (S32_11) (TI.dn hK)))
          | false =>
            replace hm31 := of_neg hm31 rfl
            have hm31 := Option.some.inj hm31
            subst hm31
            refine TS.rg (TI.ra 1 [5, 8, 9, 12, 13, 46] (S32_1 p4 p7 p5 p6) (TI.o { val := .bool true } (q_conv (e := (w64 ((w64 (p4 * p7)) - (w64 (p5 * p6)))) != 1) (b := true) (by kernel_rfl) hc8) [5, 8, 9, 12, 13, 47] [0, 3, 4, 6] (S32_4 p4 p7 p5 p6) (H32_0 p0 p1 p2 p3 p8 p9 p10 p11 r4 r6 p4 p5 p6 p7) (TI.ra 2 [5, 8, 9, 12, 48, 49] (S32_5 p4 p7 p5 p6) (TI.o { val := .bool false } (q_conv (e := (w64 ((w64 (p4 * p7)) - (w64 (p5 * p6)))) != (-1)) (b := false) (by kernel_rfl) hc9) [5, 8, 9, 12, 48, 50] [0, 3, 4, 6] (S32_9) (H32_0 p0 p1 p2 p3 p8 p9 p10 p11 r4 r6 p4 p5 p6 p7) (TI.ra 5 [5, 8, 9, 12, 52, 55] (S32_7 r4) (TI.cf (C58 _ _ _ _ h11) (TI.ra 6 [5, 8, 9, 12, 59, 62] (S32_8 r6) (TI.cf (C58 _ _ _ _ h13) ?_))))))))
            exact TI.ra 9 [5, 8, 9, 12, 45] (S32_11) (TI.dn hK)
        | false =>
          replace hm31 := of_neg hm31 rfl
          have hm31 := Option.some.inj hm31
          subst hm31
          refine TS.rg (TI.ra 1 [5, 8, 9, 12, 13, 46] (S32_1 p4 p7 p5 p6) (TI.o { val := .bool true } (q_conv (e := (w64 ((w64 (p4 * p7)) - (w64 (p5 * p6)))) != 1) (b := true) (by kernel_rfl) hc8) [5, 8, 9, 12, 13, 47] [0, 3, 4, 6] (S32_4 p4 p7 p5 p6) (H32_0 p0 p1 p2 p3 p8 p9 p10 p11 r4 r6 p4 p5 p6 p7) (TI.ra 2 [5, 8, 9, 12, 48, 49] (S32_5 p4 p7 p5 p6) (TI.o { val := .bool false } (q_conv (e := (w64 ((w64 (p4 * p7)) - (w64 (p5 * p6)))) != (-1)) (b := false) (by kernel_rfl) hc9) [5, 8, 9, 12, 48, 50] [0, 3, 4, 6] (S32_9) (H32_0 p0 p1 p2 p3 p8 p9 p10 p11 r4 r6 p4 p5 p6 p7) (TI.ra 5 [5, 8, 9, 12, 52, 55] (S32_7 r4) (TI.cf (C58 _ _ _ _ h11) (TI.ra 16 [5, 8, 9, 12, 45] (S32_11) (TI.dn ?_))))))))
          exact hK
    · replace hm31 := of_neg hm31 hc8
      have hX := of_do hm31
      clear hm31
      obtain ⟨r16, h17, hm31⟩ := hX
      cases r16 with
      | true =>
        replace hm31 := of_pos hm31 rfl
        have hX := of_do hm31
        clear hm31
        obtain ⟨r18, h19, hm31⟩ := hX
        cases r18 with
        | true =>
          replace hm31 := of_pos hm31 rfl
          have hX := of_do hm31
          clear hm31
          obtain ⟨r20, h21, hm31⟩ := hX
          cases r20 with
          | true =>
            replace hm31 := of_pos hm31 rfl
            have hm31 := Option.some.inj hm31
            subst hm31
            refine TS.rg (TI.ra 1 [5, 8, 9, 12, 13, 46] (S32_1 p4 p7 p5 p6) (TI.o { val := .bool false } (q_conv (e := (w64 ((w64 (p4 * p7)) - (w64 (p5 * p6)))) != 1) (b := false) (by kernel_rfl) hc8) [5, 8, 9, 12, 13, 47] [0, 3, 4, 6] (S32_3 p4 p7 p5 p6) (H32_0 p0 p1 p2 p3 p8 p9 p10 p11 r4 r6 p4 p5 p6 p7) (TI.ra 8 [5, 8, 9, 12, 52, 55] (S32_7 r4) (TI.cf (C58 _ _ _ _ h17) (TI.ra 6 [5, 8, 9, 12, 59, 62] (S32_8 r6) (TI.cf (C58 _ _ _ _ h19) (TI.ra 5 [5, 8, 9, 12, 66, 68] (S32_6 r4 r6) (TI.cf (C50 _ _ _ _ _ h21) ?_))))))))
            exact TI.ra 3 [5, 8, 9, 12, 45] (S32_10) (TI.dn hK)
          | false =>
            replace hm31 := of_neg hm31 rfl
            have hm31 := Option.some.inj hm31
            subst hm31
            refine TS.rg (TI.ra 1 [5, 8, 9, 12, 13, 46] (S32_1 p4 p7 p5 p6) (TI.o { val := .bool false } (q_conv (e := (w64 ((w64 (p4 * p7)) - (w64 (p5 * p6)))) != 1) (b := false) (by kernel_rfl) hc8) [5, 8, 9, 12, 13, 47] [0, 3, 4, 6] (S32_3 p4 p7 p5 p6) (H32_0 p0 p1 p2 p3 p8 p9 p10 p11 r4 r6 p4 p5 p6 p7) (TI.ra 8 [5, 8, 9, 12, 52, 55] (S32_7 r4) (TI.cf (C58 _ _ _ _ h17) (TI.ra 6 [5, 8, 9, 12, 59, 62] (S32_8 r6) (TI.cf (C58 _ _ _ _ h19) (TI.ra 5 [5, 8, 9, 12, 66, 68] (S32_6 r4 r6) (TI.cf (C50 _ _ _ _ _ h21) ?_))))))))
            exact TI.ra 3 [5, 8, 9, 12, 45] (S32_11) (TI.dn hK)
        | false =>
          replace hm31 := of_neg hm31 rfl
          have hm31 := Option.some.inj hm31
          subst hm31
          refine TS.rg (TI.ra 1 [5, 8, 9, 12, 13, 46] (S32_1 p4 p7 p5 p6) (TI.o { val := .bool false } (q_conv (e := (w64 ((w64 (p4 * p7)) - (w64 (p5 * p6)))) != 1) (b := false) (by kernel_rfl) hc8) [5, 8, 9, 12, 13, 47] [0, 3, 4, 6] (S32_3 p4 p7 p5 p6) (H32_0 p0 p1 p2 p3 p8 p9 p10 p11 r4 r6 p4 p5 p6 p7) (TI.ra 8 [5, 8, 9, 12, 52, 55] (S32_7 r4) (TI.cf (C58 _ _ _ _ h17) (TI.ra 6 [5, 8, 9, 12, 59, 62] (S32_8 r6) (TI.cf (C58 _ _ _ _ h19) (TI.ra 9 [5, 8, 9, 12, 45] (S32_11) (TI.dn ?_))))))))
          exact hK
      | false =>
        replace hm31 := of_neg hm31 rfl
        have hm31 := Option.some.inj hm31
        subst hm31
        exact TS.rg (TI.ra 1 [5, 8, 9, 12, 13, 46] (S32_1 p4 p7 p5 p6) (TI.o { val := .bool false } (q_conv (e := (w64 ((w64 (p4 * p7)) - (w64 (p5 * p6)))) != 1) (b := false) (by kernel_rfl) hc8) [5, 8, 9, 12, 13, 47] [0, 3, 4, 6] (S32_3 p4 p7 p5 p6) (H32_0 p0 p1 p2 p3 p8 p9 p10 p11 r4 r6 p4 p5 p6 p7) (TI.ra 8 [5, 8, 9, 12, 52, 55] (S32_7 r4) (TI.cf (C58 _ _ _ _ h17) (TI.ra 16 [5, 8, 9, 12, 45] (S32_11) (TI.dn hK))))))
theorem C32 (p0 : Int) (p1 : Int) (p2 : Int) (p3 : Int) (p4 : Int) (p5 : Int) (p6 : Int) (p7 : Int) (p8 : Int) (p9 : Int) (p10 : Int) (p11 : Int) (r : Int) (hF : F32 p0 p1 p2 p3 p4 p5 p6 p7 p8 p9 p10 p11 = some r) : PureSim Try.prog 32 [ag [iv p0, iv p1, iv p2, iv p3], ag [iv p4, iv p5], ag [iv p6, iv p7], ag [iv p8, iv p9], ag [iv p10, iv p11]] [] (V32 0 r) (N32 0 r) :=
  PureSim.of_Fin Try.func32 (c := c32) (by kernel_rfl) (by kernel_rfl) 0 rfl [0, 1, 2, 3, 4] [] (by kernel_rfl) (B32 p0 p1 p2 p3 p4 p5 p6 p7 p8 p9 p10 p11 r hF)

-- agonic/agoniclaw06.given
noncomputable def c13 : Code := Try.f13.code
def F13 (p0 : Int) (p1 : Int) (p2 : Int) (p3 : Int) : Option ((Int × Int) × (Int × Int)) :=
  some ((p0, p1), (p2, p3))
def V13 (b : Nat) (r : ((Int × Int) × (Int × Int))) : Value := ag [iv r.1.1, iv r.1.2, iv r.2.1, iv r.2.2]
def N13 (b : Nat) (r : ((Int × Int) × (Int × Int))) : List Blk := []
theorem B13 (p0 : Int) (p1 : Int) (p2 : Int) (p3 : Int) (r : ((Int × Int) × (Int × Int))) (hF : F13 p0 p1 p2 p3 = some r) : TS Try.prog 0 0 c13 (st 8 [(0, ag [iv p0, iv p1, iv p2, iv p3])]) [] (NX Try.prog 0 0 [] (FinP Try.prog Try.f13 0 (V13 0 r) (N13 0 r))) := by
  unfold F13 at hF
  refine TS.sq (TS.rg (TI.rn 2 [1, 2] [0, 1] (st 8 [(1, pt 0 0), (2, pt 1 0)]) [cl 25 [iv p0, iv p1, iv p2, iv p3], cl 30 [iv 0, iv 0, iv 0, iv 0]] (TI.dn (NX.sq (TS.sq (TS.rg (TI.rn 6 [2] [1] (st 8 [(2, pt 1 0)]) [.dead, cl 30 [iv p0, iv p1, iv p2, iv p3]] (TI.dn ?_))))))))
  refine NX.sq (TS.rt ?_)
  have hF := Option.some.inj hF
  subst hF
  exact ⟨.inr rfl, rfl, ag [iv p0, iv p1, iv p2, iv p3], by kernel_rfl, WkV.flat0 (by kernel_rfl) (Nat.le_of_ble_eq_true rfl)⟩
theorem C13 (p0 : Int) (p1 : Int) (p2 : Int) (p3 : Int) (r : ((Int × Int) × (Int × Int))) (hF : F13 p0 p1 p2 p3 = some r) : PureSim Try.prog 13 [ag [iv p0, iv p1, iv p2, iv p3]] [] (V13 0 r) (N13 0 r) :=
  PureSim.of_Fin Try.func13 (c := c13) (by kernel_rfl) (by kernel_rfl) 0 rfl [0] [] (by kernel_rfl) (B13 p0 p1 p2 p3 r hF)

-- agonic/agoniclaw06.placed
noncomputable def c18 : Code := Try.f18.code
def F18 (p0 : Int) (p1 : Int) : Option (Int × Int) :=
  some (p0, p1)
def V18 (b : Nat) (r : (Int × Int)) : Value := ag [iv r.1, iv r.2]
def N18 (b : Nat) (r : (Int × Int)) : List Blk := []
theorem B18 (p0 : Int) (p1 : Int) (r : (Int × Int)) (hF : F18 p0 p1 = some r) : TS Try.prog 0 0 c18 (st 4 [(0, ag [iv p0, iv p1])]) [] (NX Try.prog 0 0 [] (FinP Try.prog Try.f18 0 (V18 0 r) (N18 0 r))) := by
  unfold F18 at hF
  refine TS.sq (TS.rg (TI.rn 2 [1, 2] [0, 1] (st 4 [(1, pt 0 0), (2, pt 1 0)]) [cl 23 [iv p0, iv p1], cl 28 [iv 0, iv 0]] (TI.dn (NX.sq (TS.sq (TS.rg (TI.rn 2 [2] [1] (st 4 [(2, pt 1 0)]) [.dead, cl 28 [iv p0, iv p1]] (TI.dn ?_))))))))
  refine NX.sq (TS.rt ?_)
  have hF := Option.some.inj hF
  subst hF
  exact ⟨.inr rfl, rfl, ag [iv p0, iv p1], by kernel_rfl, WkV.flat0 (by kernel_rfl) (Nat.le_of_ble_eq_true rfl)⟩
theorem C18 (p0 : Int) (p1 : Int) (r : (Int × Int)) (hF : F18 p0 p1 = some r) : PureSim Try.prog 18 [ag [iv p0, iv p1]] [] (V18 0 r) (N18 0 r) :=
  PureSim.of_Fin Try.func18 (c := c18) (by kernel_rfl) (by kernel_rfl) 0 rfl [0] [] (by kernel_rfl) (B18 p0 p1 r hF)

-- agonic/agonicref06.is
noncomputable def c73 : Code := Try.f73.code
def F73 (p0 : Int) (p1 : Int) (p2 : Int) : Option Bool :=
  (
    if decide (p0 ≥ p1) then
      some (decide (p0 ≤ p2))
    else
      some (false)
  : Option Bool) >>= fun m2 =>
  some m2
def V73 (b : Nat) (r : Bool) : Value := .bool r
def N73 (b : Nat) (r : Bool) : List Blk := []
theorem B73 (p0 : Int) (p1 : Int) (p2 : Int) (r : Bool) (hF : F73 p0 p1 p2 = some r) : TS Try.prog 0 0 c73 (st 15 [(0, iv p0), (1, iv p1), (2, iv p2)]) [] (NX Try.prog 0 0 [] (FinP Try.prog Try.f73 0 (V73 0 r) (N73 0 r))) := by
  unfold F73 at hF
  refine TS.sq (TS.rg (TI.ra 1 [0, 1, 2] (st 15 [(0, iv p0), (1, iv p1), (2, iv p2)]) (TI.dn (NX.sq (TS.sq ?_)))))
  have hX := of_do hF
  clear hF
  obtain ⟨m2, hm3, hF⟩ := hX
  have hK : NX Try.prog 0 0 [.sq c73.s2.s2] (FinP Try.prog Try.f73 0 (V73 0 r) (N73 0 r)) .normal (st 15 [(6, .bool m2)]) [] := by
    refine NX.sq (TS.rt ?_)
    have hF := Option.some.inj hF
    subst hF
    exact ⟨.inr rfl, rfl, .bool m2, by kernel_rfl, WkV.flat0 (by kernel_rfl) (Nat.le_of_ble_eq_true rfl)⟩
  rcases Bool.eq_false_or_eq_true (decide (p0 ≥ p1)) with hc1 | hc1
  · replace hm3 := of_pos hm3 hc1
    have hm3 := Option.some.inj hm3
    subst hm3
    exact TS.rg (TI.ra 2 [0, 2, 7, 8] (st 15 [(0, iv p0), (2, iv p2), (7, iv p0), (8, iv p1)]) (TI.o { val := .bool true } (q_conv (e := decide (p0 ≥ p1)) (b := true) (by kernel_rfl) hc1) [0, 2, 9] [] (st 15 [(0, iv p0), (2, iv p2), (9, .bool true)]) [] (TI.ra 6 [6] (st 15 [(6, .bool (decide (p0 ≤ p2)))]) (TI.dn hK))))
  · replace hm3 := of_neg hm3 hc1
    have hm3 := Option.some.inj hm3
    subst hm3
    exact TS.rg (TI.ra 2 [0, 2, 7, 8] (st 15 [(0, iv p0), (2, iv p2), (7, iv p0), (8, iv p1)]) (TI.o { val := .bool false } (q_conv (e := decide (p0 ≥ p1)) (b := false) (by kernel_rfl) hc1) [0, 2, 9] [] (st 15 [(0, iv p0), (2, iv p2), (9, .bool false)]) [] (TI.ra 6 [6] (st 15 [(6, .bool false)]) (TI.dn hK))))
theorem C73 (p0 : Int) (p1 : Int) (p2 : Int) (r : Bool) (hF : F73 p0 p1 p2 = some r) : PureSim Try.prog 73 [iv p0, iv p1, iv p2] [] (V73 0 r) (N73 0 r) :=
  PureSim.of_Fin Try.func73 (c := c73) (by kernel_rfl) (by kernel_rfl) 0 rfl [0, 1, 2] [] (by kernel_rfl) (B73 p0 p1 p2 r hF)

-- agonic/agonicref06.within
noncomputable def c55 : Code := Try.f55.code
def F55 (p0 : Int) (p1 : Int) (p2 : Int) : Option Bool :=
  F73 p0 (w64 (0 - p2)) p2 >>= fun r1 =>
  (
    if r1 then
      F73 p1 (w64 (0 - p2)) p2 >>= fun r3 =>
      some (r3)
    else
      some (false)
  : Option Bool) >>= fun m5 =>
  some m5
def V55 (b : Nat) (r : Bool) : Value := .bool r
def N55 (b : Nat) (r : Bool) : List Blk := []
theorem B55 (p0 : Int) (p1 : Int) (p2 : Int) (r : Bool) (hF : F55 p0 p1 p2 = some r) : TS Try.prog 0 0 c55 (st 19 [(0, ag [iv p0, iv p1]), (1, iv p2)]) [] (NX Try.prog 0 0 [] (FinP Try.prog Try.f55 0 (V55 0 r) (N55 0 r))) := by
  unfold F55 at hF
  refine TS.sq (TS.rg (TI.rn 2 [1, 2] [0] (st 19 [(1, iv p2), (2, pt 0 0)]) [cl 28 [iv p0, iv p1]] (TI.dn (NX.sq (TS.sq ?_)))))
  have hX := of_do hF
  clear hF
  obtain ⟨r1, h2, hF⟩ := hX
  have hX := of_do hF
  clear hF
  obtain ⟨m5, hm6, hF⟩ := hX
  have hK : NX Try.prog 0 0 [.sq c55.s2.s2] (FinP Try.prog Try.f55 0 (V55 0 r) (N55 0 r)) .normal (st 19 [(4, .bool m5)]) [.dead] := by
    refine NX.sq (TS.rt ?_)
    have hF := Option.some.inj hF
    subst hF
    exact ⟨.inr rfl, rfl, .bool m5, by kernel_rfl, WkV.flat0 (by kernel_rfl) (Nat.le_of_ble_eq_true rfl)⟩
  cases r1 with
  | true =>
    replace hm6 := of_pos hm6 rfl
    have hX := of_do hm6
    clear hm6
    obtain ⟨r3, h4, hm6⟩ := hX
    have hm6 := Option.some.inj hm6
    subst hm6
    exact TS.rg (TI.ra 5 [1, 2, 6, 8, 9] (st 19 [(1, iv p2), (2, pt 0 0), (6, iv p0), (8, iv (w64 (0 - p2))), (9, iv p2)]) (TI.cf (C73 _ _ _ _ h2) (TI.rn 6 [11, 13, 15, 16] [] (st 19 [(11, .bool true), (13, iv p1), (15, iv (w64 (0 - p2))), (16, iv p2)]) [.dead] (TI.cf (C73 _ _ _ _ h4) (TI.ra 2 [4] (st 19 [(4, .bool r3)]) (TI.dn hK))))))
  | false =>
    replace hm6 := of_neg hm6 rfl
    have hm6 := Option.some.inj hm6
    subst hm6
    exact TS.rg (TI.ra 5 [1, 2, 6, 8, 9] (st 19 [(1, iv p2), (2, pt 0 0), (6, iv p0), (8, iv (w64 (0 - p2))), (9, iv p2)]) (TI.cf (C73 _ _ _ _ h2) (TI.rn 9 [4] [] (st 19 [(4, .bool false)]) [.dead] (TI.dn hK))))
theorem C55 (p0 : Int) (p1 : Int) (p2 : Int) (r : Bool) (hF : F55 p0 p1 p2 = some r) : PureSim Try.prog 55 [ag [iv p0, iv p1], iv p2] [] (V55 0 r) (N55 0 r) :=
  PureSim.of_Fin Try.func55 (c := c55) (by kernel_rfl) (by kernel_rfl) 0 rfl [0, 1] [] (by kernel_rfl) (B55 p0 p1 p2 r hF)

-- agonic/agonicref06.area
noncomputable def c60 : Code := Try.f60.code
def F60 (p0 : Int) (p1 : Int) (p2 : Int) (p3 : Int) : Option Int :=
  some (mx (w64 ((w64 (p0 * p3)) - (w64 (p1 * p2)))) (w64 ((w64 (p1 * p2)) - (w64 (p0 * p3))))) >>= fun o1 =>
  some o1
def V60 (b : Nat) (r : Int) : Value := iv r
def N60 (b : Nat) (r : Int) : List Blk := []
theorem B60 (p0 : Int) (p1 : Int) (p2 : Int) (p3 : Int) (r : Int) (hF : F60 p0 p1 p2 p3 = some r) : TS Try.prog 0 0 c60 (st 28 [(0, ag [iv p0, iv p1]), (1, ag [iv p2, iv p3])]) [] (NX Try.prog 0 0 [] (FinP Try.prog Try.f60 0 (V60 0 r) (N60 0 r))) := by
  unfold F60 at hF
  refine TS.sq (TS.rg (TI.rn 3 [2, 3] [0, 1] (st 28 [(2, pt 0 0), (3, pt 1 0)]) [cl 28 [iv p0, iv p1], cl 28 [iv p2, iv p3]] (TI.dn (NX.sq (TS.sq ?_)))))
  have hX := of_do hF
  clear hF
  obtain ⟨o1, h2, hF⟩ := hX
  replace h2 := Option.some.inj h2
  refine TS.rg (TI.rn 22 [15, 26] [] (st 28 [(15, iv (w64 ((w64 (p0 * p3)) - (w64 (p1 * p2))))), (26, iv (w64 ((w64 (p1 * p2)) - (w64 (p0 * p3)))))]) [.dead, .dead] (TI.o { val := iv o1 } (q_convI (e := mx (w64 ((w64 (p0 * p3)) - (w64 (p1 * p2)))) (w64 ((w64 (p1 * p2)) - (w64 (p0 * p3))))) (y := o1) (by kernel_rfl) h2) [27] [] (st 28 [(27, iv o1)]) [.dead, .dead] (TI.ra 1 [4] (st 28 [(4, iv o1)]) (TI.dn (NX.sq (TS.rt ?_))))))
  have hF := Option.some.inj hF
  subst hF
  exact ⟨.inr rfl, rfl, iv o1, by kernel_rfl, WkV.flat0 (by kernel_rfl) (Nat.le_of_ble_eq_true rfl)⟩
theorem C60 (p0 : Int) (p1 : Int) (p2 : Int) (p3 : Int) (r : Int) (hF : F60 p0 p1 p2 p3 = some r) : PureSim Try.prog 60 [ag [iv p0, iv p1], ag [iv p2, iv p3]] [] (V60 0 r) (N60 0 r) :=
  PureSim.of_Fin Try.func60 (c := c60) (by kernel_rfl) (by kernel_rfl) 0 rfl [0, 1] [] (by kernel_rfl) (B60 p0 p1 p2 p3 r hF)

-- agonic/agonicref06.Check
noncomputable def c21 : Code := Try.f21.code
def F21 (p0 : Int) (p1 : Int) (p2 : Int) (p3 : Int) : Option Int :=
  F55 p0 p1 1000 >>= fun r1 =>
  (
    if r1 then
      F55 p2 p3 1000 >>= fun r3 =>
      if r3 then
        some (false)
      else
        some (true)
    else
      some (true)
  : Option Bool) >>= fun m5 =>
  if m5 then
    some 1
  else
    F60 p0 p1 p2 p3 >>= fun r6 =>
    if r6 == 0 then
      some 15
    else
      some 0
def V21 (b : Nat) (r : Int) : Value := iv r
def N21 (b : Nat) (r : Int) : List Blk := []
theorem B21 (p0 : Int) (p1 : Int) (p2 : Int) (p3 : Int) (r : Int) (hF : F21 p0 p1 p2 p3 = some r) : TS Try.prog 0 0 c21 (st 19 [(0, ag [iv p0, iv p1, iv p2, iv p3])]) [] (NX Try.prog 0 0 [] (FinP Try.prog Try.f21 0 (V21 0 r) (N21 0 r))) := by
  unfold F21 at hF
  refine TS.sq (TS.rg (TI.rn 2 [1] [0] (st 19 [(1, pt 0 0)]) [cl 30 [iv p0, iv p1, iv p2, iv p3]] (TI.dn (NX.sq (TS.sq (TS.sq ?_))))))
  have hX := of_do hF
  clear hF
  obtain ⟨r1, h2, hF⟩ := hX
  have hX := of_do hF
  clear hF
  obtain ⟨m5, hm9, hF⟩ := hX
  have hK : NX Try.prog 0 0 [.sq c21.s2.s1.s2, .sq c21.s2.s2] (FinP Try.prog Try.f21 0 (V21 0 r) (N21 0 r)) .normal (st 19 [(1, pt 0 0), (12, .bool m5)]) [cl 30 [iv p0, iv p1, iv p2, iv p3]] := by
    refine NX.sq ?_
    cases m5 with
    | true =>
      replace hF := of_pos hF rfl
      refine TS.cdT (.tmp 12) (TS.sq (TS.rg (TI.rn 1 [2] [] (st 19 [(2, iv 1)]) [.dead] (TI.dn (NX.sq (TS.rt (NX.sqR ?_)))))))
      have hF := Option.some.inj hF
      subst hF
      exact ⟨.inr rfl, rfl, iv 1, by kernel_rfl, WkV.flat0 (by kernel_rfl) (Nat.le_of_ble_eq_true rfl)⟩
    | false =>
      replace hF := of_neg hF rfl
      refine TS.cdF (.tmp 12) (TS.sk (NX.sq (TS.sq (TS.sq ?_))))
      have hX := of_do hF
      clear hF
      obtain ⟨r6, h7, hF⟩ := hX
      refine TS.rg (TI.rn 4 [14, 16] [] (st 19 [(14, ag [iv p0, iv p1]), (16, ag [iv p2, iv p3])]) [.dead] (TI.cf (C60 _ _ _ _ _ h7) (TI.ra 1 [18] (st 19 [(18, .bool (r6 == 0))]) (TI.dn (NX.sq ?_)))))
      refine TS.cd (.tmp 18) (r6 == 0) (fun hc8 => ?_) (fun hc8 => ?_)
      · replace hF := of_pos hF hc8
        refine TS.sq (TS.rg (TI.ra 1 [2] (st 19 [(2, iv 15)]) (TI.dn (NX.sq (TS.rt (NX.sqR ?_))))))
        have hF := Option.some.inj hF
        subst hF
        exact ⟨.inr rfl, rfl, iv 15, by kernel_rfl, WkV.flat0 (by kernel_rfl) (Nat.le_of_ble_eq_true rfl)⟩
      · replace hF := of_neg hF hc8
        refine TS.sk (NX.sq (TS.sq (TS.rg (TI.ra 1 [2] (st 19 [(2, iv 0)]) (TI.dn (NX.sq (TS.rt ?_)))))))
        have hF := Option.some.inj hF
        subst hF
        exact ⟨.inr rfl, rfl, iv 0, by kernel_rfl, WkV.flat0 (by kernel_rfl) (Nat.le_of_ble_eq_true rfl)⟩
  cases r1 with
  | true =>
    replace hm9 := of_pos hm9 rfl
    have hX := of_do hm9
    clear hm9
    obtain ⟨r3, h4, hm9⟩ := hX
    cases r3 with
    | true =>
      replace hm9 := of_pos hm9 rfl
      have hm9 := Option.some.inj hm9
      subst hm9
      exact TS.rg (TI.ra 2 [1, 4] (st 19 [(1, pt 0 0), (4, ag [iv p0, iv p1])]) (TI.cf (C55 _ _ _ _ h2) (TI.ra 4 [1, 7, 9] (st 19 [(1, pt 0 0), (7, .bool false), (9, ag [iv p2, iv p3])]) (TI.cf (C55 _ _ _ _ h4) (TI.ra 2 [1, 12] (st 19 [(1, pt 0 0), (12, .bool false)]) (TI.dn hK))))))
    | false =>
      replace hm9 := of_neg hm9 rfl
      have hm9 := Option.some.inj hm9
      subst hm9
      exact TS.rg (TI.ra 2 [1, 4] (st 19 [(1, pt 0 0), (4, ag [iv p0, iv p1])]) (TI.cf (C55 _ _ _ _ h2) (TI.ra 4 [1, 7, 9] (st 19 [(1, pt 0 0), (7, .bool false), (9, ag [iv p2, iv p3])]) (TI.cf (C55 _ _ _ _ h4) (TI.ra 2 [1, 12] (st 19 [(1, pt 0 0), (12, .bool true)]) (TI.dn hK))))))
  | false =>
    replace hm9 := of_neg hm9 rfl
    have hm9 := Option.some.inj hm9
    subst hm9
    exact TS.rg (TI.ra 2 [1, 4] (st 19 [(1, pt 0 0), (4, ag [iv p0, iv p1])]) (TI.cf (C55 _ _ _ _ h2) (TI.ra 7 [1, 12] (st 19 [(1, pt 0 0), (12, .bool true)]) (TI.dn hK))))
theorem C21 (p0 : Int) (p1 : Int) (p2 : Int) (p3 : Int) (r : Int) (hF : F21 p0 p1 p2 p3 = some r) : PureSim Try.prog 21 [ag [iv p0, iv p1, iv p2, iv p3]] [] (V21 0 r) (N21 0 r) :=
  PureSim.of_Fin Try.func21 (c := c21) (by kernel_rfl) (by kernel_rfl) 0 rfl [0] [] (by kernel_rfl) (B21 p0 p1 p2 p3 r hF)

-- agonic/agonicref06.small
noncomputable def c56 : Code := Try.f56.code
def F56 (p0 : Int) (p1 : Int) : Option Bool :=
  F73 p0 (-100000000) 100000000 >>= fun r1 =>
  (
    if r1 then
      F73 p1 (-100000000) 100000000 >>= fun r3 =>
      some (r3)
    else
      some (false)
  : Option Bool) >>= fun m5 =>
  some m5
def V56 (b : Nat) (r : Bool) : Value := .bool r
def N56 (b : Nat) (r : Bool) : List Blk := []
theorem B56 (p0 : Int) (p1 : Int) (r : Bool) (hF : F56 p0 p1 = some r) : TS Try.prog 0 0 c56 (st 11 [(0, ag [iv p0, iv p1])]) [] (NX Try.prog 0 0 [] (FinP Try.prog Try.f56 0 (V56 0 r) (N56 0 r))) := by
  unfold F56 at hF
  refine TS.sq (TS.rg (TI.rn 2 [1] [0] (st 11 [(1, pt 0 0)]) [cl 41 [iv p0, iv p1]] (TI.dn (NX.sq (TS.sq ?_)))))
  have hX := of_do hF
  clear hF
  obtain ⟨r1, h2, hF⟩ := hX
  have hX := of_do hF
  clear hF
  obtain ⟨m5, hm6, hF⟩ := hX
  have hK : NX Try.prog 0 0 [.sq c56.s2.s2] (FinP Try.prog Try.f56 0 (V56 0 r) (N56 0 r)) .normal (st 11 [(2, .bool m5)]) [.dead] := by
    refine NX.sq (TS.rt ?_)
    have hF := Option.some.inj hF
    subst hF
    exact ⟨.inr rfl, rfl, .bool m5, by kernel_rfl, WkV.flat0 (by kernel_rfl) (Nat.le_of_ble_eq_true rfl)⟩
  cases r1 with
  | true =>
    replace hm6 := of_pos hm6 rfl
    have hX := of_do hm6
    clear hm6
    obtain ⟨r3, h4, hm6⟩ := hX
    have hm6 := Option.some.inj hm6
    subst hm6
    exact TS.rg (TI.ra 2 [1, 4] (st 11 [(1, pt 0 0), (4, iv p0)]) (TI.cf (C73 _ _ _ _ h2) (TI.rn 3 [6, 8] [] (st 11 [(6, .bool true), (8, iv p1)]) [.dead] (TI.cf (C73 _ _ _ _ h4) (TI.ra 2 [2] (st 11 [(2, .bool r3)]) (TI.dn hK))))))
  | false =>
    replace hm6 := of_neg hm6 rfl
    have hm6 := Option.some.inj hm6
    subst hm6
    exact TS.rg (TI.ra 2 [1, 4] (st 11 [(1, pt 0 0), (4, iv p0)]) (TI.cf (C73 _ _ _ _ h2) (TI.rn 6 [2] [] (st 11 [(2, .bool false)]) [.dead] (TI.dn hK))))
theorem C56 (p0 : Int) (p1 : Int) (r : Bool) (hF : F56 p0 p1 = some r) : PureSim Try.prog 56 [ag [iv p0, iv p1]] [] (V56 0 r) (N56 0 r) :=
  PureSim.of_Fin Try.func56 (c := c56) (by kernel_rfl) (by kernel_rfl) 0 rfl [0] [] (by kernel_rfl) (B56 p0 p1 r hF)

-- agonic/agonicref06.pull
noncomputable def c57 : Code := Try.f57.code
def F57 (p0 : Int) (p1 : Int) (p2 : Int) (p3 : Int) (p4 : Int) (p5 : Int) : Option (Int × Int) :=
  some (w64 ((w64 (p4 * p0)) + (w64 (p5 * p2))), w64 ((w64 (p4 * p1)) + (w64 (p5 * p3))))
def V57 (b : Nat) (r : (Int × Int)) : Value := ag [iv r.1, iv r.2]
def N57 (b : Nat) (r : (Int × Int)) : List Blk := []
theorem B57 (p0 : Int) (p1 : Int) (p2 : Int) (p3 : Int) (p4 : Int) (p5 : Int) (r : (Int × Int)) (hF : F57 p0 p1 p2 p3 p4 p5 = some r) : TS Try.prog 0 0 c57 (st 32 [(0, ag [iv p0, iv p1, iv p2, iv p3]), (1, ag [iv p4, iv p5])]) [] (NX Try.prog 0 0 [] (FinP Try.prog Try.f57 0 (V57 0 r) (N57 0 r))) := by
  unfold F57 at hF
  refine TS.sq (TS.rg (TI.rn 3 [2, 3, 4] [0, 1, 2] (st 32 [(2, pt 0 0), (3, pt 1 0), (4, pt 2 0)]) [cl 30 [iv p0, iv p1, iv p2, iv p3], cl 41 [iv p4, iv p5], cl 28 [iv 0, iv 0]] (TI.dn (NX.sq (TS.sq (TS.rg (TI.rn 28 [4] [2] (st 32 [(4, pt 2 0)]) [.dead, .dead, cl 28 [iv (w64 ((w64 (p4 * p0)) + (w64 (p5 * p2)))), iv (w64 ((w64 (p4 * p1)) + (w64 (p5 * p3))))]] (TI.dn ?_))))))))
  refine NX.sq (TS.rt ?_)
  have hF := Option.some.inj hF
  subst hF
  exact ⟨.inr rfl, rfl, ag [iv (w64 ((w64 (p4 * p0)) + (w64 (p5 * p2)))), iv (w64 ((w64 (p4 * p1)) + (w64 (p5 * p3))))], by kernel_rfl, WkV.flat0 (by kernel_rfl) (Nat.le_of_ble_eq_true rfl)⟩
theorem C57 (p0 : Int) (p1 : Int) (p2 : Int) (p3 : Int) (p4 : Int) (p5 : Int) (r : (Int × Int)) (hF : F57 p0 p1 p2 p3 p4 p5 = some r) : PureSim Try.prog 57 [ag [iv p0, iv p1, iv p2, iv p3], ag [iv p4, iv p5]] [] (V57 0 r) (N57 0 r) :=
  PureSim.of_Fin Try.func57 (c := c57) (by kernel_rfl) (by kernel_rfl) 0 rfl [0, 1] [] (by kernel_rfl) (B57 p0 p1 p2 p3 p4 p5 r hF)

-- agonic/agonicref06.Rest
noncomputable def c17 : Code := Try.f17.code
def S17_0 (r1 : Int) (p6 : Int) (p7 : Int) : CAct := (st 42 [(3, pt 0 0), (4, pt 1 0), (5, pt 2 0), (6, pt 3 0), (8, iv r1), (14, .bool true), (18, .bool false), (19, ag [iv p6, iv p7])])
def S17_1 (r1 : Int) (p4 : Int) (p5 : Int) : CAct := (st 42 [(3, pt 0 0), (4, pt 1 0), (5, pt 2 0), (6, pt 3 0), (8, iv r1), (14, .bool true), (15, ag [iv p4, iv p5])])
def H17_2 (p0 : Int) (p1 : Int) (p2 : Int) (p3 : Int) (p4 : Int) (p5 : Int) (p6 : Int) (p7 : Int) : List Blk := [cl 30 [iv p0, iv p1, iv p2, iv p3], cl 28 [iv p4, iv p5], cl 41 [iv p6, iv p7], cl 28 [iv 0, iv 0]]
def S17_3 (r1 : Int) : CAct := (st 42 [(3, pt 0 0), (4, pt 1 0), (5, pt 2 0), (6, pt 3 0), (8, iv r1), (13, .bool true)])
def S17_4 (r1 : Int) : CAct := (st 42 [(3, pt 0 0), (4, pt 1 0), (5, pt 2 0), (6, pt 3 0), (8, iv r1), (12, iv r1)])
def F17 (p0 : Int) (p1 : Int) (p2 : Int) (p3 : Int) (p4 : Int) (p5 : Int) (p6 : Int) (p7 : Int) : Option ((Int × Int) × Int) :=
  F21 p0 p1 p2 p3 >>= fun r1 =>
  (
    if r1 == 0 then
      F55 p4 p5 10000 >>= fun r4 =>
      if r4 then
        F56 p6 p7 >>= fun r6 =>
        if r6 then
          some (false)
        else
          some (true)
      else
        some (true)
    else
      some (false)
  : Option Bool) >>= fun m8 =>
  (
    if m8 then
      some 1
    else
      some r1
  : Option Int) >>= fun m11 =>
  if m11 != 0 then
    some ((0, 0), m11)
  else
    F57 p0 p1 p2 p3 p6 p7 >>= fun r14 =>
    some ((w64 (p4 + r14.1), w64 (p5 + r14.2)), 0)
def V17 (b : Nat) (r : ((Int × Int) × Int)) : Value := .tuple ⟨[ag [iv r.1.1, iv r.1.2], iv r.2]⟩
def N17 (b : Nat) (r : ((Int × Int) × Int)) : List Blk := []
theorem B17 (p0 : Int) (p1 : Int) (p2 : Int) (p3 : Int) (p4 : Int) (p5 : Int) (p6 : Int) (p7 : Int) (r : ((Int × Int) × Int)) (hF : F17 p0 p1 p2 p3 p4 p5 p6 p7 = some r) : TS Try.prog 0 0 c17 (st 42 [(0, ag [iv p0, iv p1, iv p2, iv p3]), (1, ag [iv p4, iv p5]), (2, ag [iv p6, iv p7])]) [] (NX Try.prog 0 0 [] (FinP Try.prog Try.f17 0 (V17 0 r) (N17 0 r))) := by
  unfold F17 at hF
  refine TS.sq (TS.rg (TI.rn 5 [3, 4, 5, 6] [0, 1, 2, 3] (st 42 [(3, pt 0 0), (4, pt 1 0), (5, pt 2 0), (6, pt 3 0)]) (H17_2 p0 p1 p2 p3 p4 p5 p6 p7) (TI.dn (NX.sq (TS.sq ?_)))))
  have hX := of_do hF
  clear hF
  obtain ⟨r1, h2, hF⟩ := hX
  refine TS.rg (TI.ra 1 [3, 4, 5, 6, 10] (st 42 [(3, pt 0 0), (4, pt 1 0), (5, pt 2 0), (6, pt 3 0), (10, ag [iv p0, iv p1, iv p2, iv p3])]) (TI.cf (C21 _ _ _ _ _ h2) (TI.ra 1 [3, 4, 5, 6, 8] (st 42 [(3, pt 0 0), (4, pt 1 0), (5, pt 2 0), (6, pt 3 0), (8, iv r1)]) (TI.dn (NX.sq (TS.sq (TS.sq ?_)))))))
  have hX := of_do hF
  clear hF
  obtain ⟨m8, hm16, hF⟩ := hX
  have hK : NX Try.prog 0 0 [.sq c17.s2.s2.s1.s2, .sq c17.s2.s2.s2] (FinP Try.prog Try.f17 0 (V17 0 r) (N17 0 r)) .normal (st 42 [(3, pt 0 0), (4, pt 1 0), (5, pt 2 0), (6, pt 3 0), (8, iv r1), (23, .bool m8)]) (H17_2 p0 p1 p2 p3 p4 p5 p6 p7) := by
    refine NX.sq ?_
    have hX := of_do hF
    clear hF
    obtain ⟨m11, hm12, hF⟩ := hX
    have hK : NX Try.prog 0 0 [.sq c17.s2.s2.s2] (FinP Try.prog Try.f17 0 (V17 0 r) (N17 0 r)) .normal (st 42 [(3, pt 0 0), (4, pt 1 0), (5, pt 2 0), (6, pt 3 0), (8, iv m11)]) (H17_2 p0 p1 p2 p3 p4 p5 p6 p7) := by
      refine NX.sq (TS.sq (TS.sq (TS.rg (TI.ra 2 [3, 4, 5, 6, 8, 25] (st 42 [(3, pt 0 0), (4, pt 1 0), (5, pt 2 0), (6, pt 3 0), (8, iv m11), (25, .bool (m11 != 0))]) (TI.dn (NX.sq ?_))))))
      refine TS.cd (.tmp 25) (m11 != 0) (fun hc13 => ?_) (fun hc13 => ?_)
      · replace hF := of_pos hF hc13
        refine TS.sq (TS.rg (TI.rn 4 [6, 7] [3] (st 42 [(6, pt 3 0), (7, iv m11)]) [.dead, .dead, .dead, cl 28 [iv 0, iv 0]] (TI.dn (NX.sq (TS.rt (NX.sqR ?_))))))
        have hF := Option.some.inj hF
        subst hF
        exact ⟨.inr rfl, rfl, .tuple ⟨[ag [iv 0, iv 0], iv m11]⟩, by kernel_rfl, WkV.flat0 (by kernel_rfl) (Nat.le_of_ble_eq_true rfl)⟩
      · replace hF := of_neg hF hc13
        refine TS.sk (NX.sq (TS.sq ?_))
        have hX := of_do hF
        clear hF
        obtain ⟨r14, h15, hF⟩ := hX
        refine TS.rg (TI.rn 2 [4, 6, 28, 29] [1, 3] (st 42 [(4, pt 1 0), (6, pt 3 0), (28, ag [iv p0, iv p1, iv p2, iv p3]), (29, ag [iv p6, iv p7])]) [.dead, cl 28 [iv p4, iv p5], .dead, cl 28 [iv 0, iv 0]] (TI.cf (C57 _ _ _ _ _ _ _ h15) (TI.rn 2 [4, 6, 9] [1, 3, 4] (st 42 [(4, pt 1 0), (6, pt 3 0), (9, pt 4 0)]) [.dead, cl 28 [iv p4, iv p5], .dead, cl 28 [iv 0, iv 0], cl 28 [iv r14.1, iv r14.2]] (TI.dn (NX.sq (TS.sq (TS.rg (TI.rn 13 [6, 7] [3] (st 42 [(6, pt 3 0), (7, iv 0)]) [.dead, .dead, .dead, cl 28 [iv (w64 (p4 + r14.1)), iv (w64 (p5 + r14.2))], .dead] ?_))))))))
        refine TI.dn (NX.sq (TS.rt ?_))
        have hF := Option.some.inj hF
        subst hF
        exact ⟨.inr rfl, rfl, .tuple ⟨[ag [iv (w64 (p4 + r14.1)), iv (w64 (p5 + r14.2))], iv 0]⟩, by kernel_rfl, WkV.flat0 (by kernel_rfl) (Nat.le_of_ble_eq_true rfl)⟩
    clear hF
    have hF := hm12
    clear hm12
    refine TS.start ?_
    cases m8 with
    | true =>
      replace hF := of_pos hF rfl
      refine TS.cdT (.tmp 23) (TS.rg (TI.ra 1 [3, 4, 5, 6, 8] (st 42 [(3, pt 0 0), (4, pt 1 0), (5, pt 2 0), (6, pt 3 0), (8, iv 1)]) (TI.dn ?_)))
      have hF := Option.some.inj hF
      subst hF
      exact TS.weak (Wk.anew (base := 0) (L := 0) (f := [0, 1, 2, 3]) (by decide) (by decide) (Nat.le_of_ble_eq_true rfl) rfl (.cons (At.blk (by kernel_rfl) (RnB.lit (.cons (.flat (by kernel_rfl)) (.cons (.flat (by kernel_rfl)) (.cons (.flat (by kernel_rfl)) (.cons (.flat (by kernel_rfl)) .nil)))))) (.cons (At.blk (by kernel_rfl) (RnB.lit (.cons (.flat (by kernel_rfl)) (.cons (.flat (by kernel_rfl)) .nil)))) (.cons (At.blk (by kernel_rfl) (RnB.lit (.cons (.flat (by kernel_rfl)) (.cons (.flat (by kernel_rfl)) .nil)))) (.cons (At.blk (by kernel_rfl) (RnB.lit (.cons (.flat (by kernel_rfl)) (.cons (.flat (by kernel_rfl)) .nil)))) (.nil _))))) (LRn.stx [3, 4, 5, 6, 8] [pt 0 0, pt 1 0, pt 2 0, pt 3 0, iv 1] [pt 0 0, pt 1 0, pt 2 0, pt 3 0, iv 1] (.cons (Rn.ptr _ _ _ (Nat.le_of_ble_eq_true rfl) rfl) (.cons (Rn.ptr _ _ _ (Nat.le_of_ble_eq_true rfl) rfl) (.cons (Rn.ptr _ _ _ (Nat.le_of_ble_eq_true rfl) rfl) (.cons (Rn.ptr _ _ _ (Nat.le_of_ble_eq_true rfl) rfl) (.cons (.flat (by kernel_rfl)) .nil))))) (by kernel_rfl) (by kernel_rfl) rfl) rfl rfl) hK
    | false =>
      replace hF := of_neg hF rfl
      refine TS.cdF (.tmp 23) (TS.sk ?_)
      have hF := Option.some.inj hF
      subst hF
      exact TS.weak (Wk.anew (base := 0) (L := 0) (f := [0, 1, 2, 3]) (by decide) (by decide) (Nat.le_of_ble_eq_true rfl) rfl (.cons (At.blk (by kernel_rfl) (RnB.lit (.cons (.flat (by kernel_rfl)) (.cons (.flat (by kernel_rfl)) (.cons (.flat (by kernel_rfl)) (.cons (.flat (by kernel_rfl)) .nil)))))) (.cons (At.blk (by kernel_rfl) (RnB.lit (.cons (.flat (by kernel_rfl)) (.cons (.flat (by kernel_rfl)) .nil)))) (.cons (At.blk (by kernel_rfl) (RnB.lit (.cons (.flat (by kernel_rfl)) (.cons (.flat (by kernel_rfl)) .nil)))) (.cons (At.blk (by kernel_rfl) (RnB.lit (.cons (.flat (by kernel_rfl)) (.cons (.flat (by kernel_rfl)) .nil)))) (.nil _))))) (LRn.stx [3, 4, 5, 6, 8] [pt 0 0, pt 1 0, pt 2 0, pt 3 0, iv r1] [pt 0 0, pt 1 0, pt 2 0, pt 3 0, iv r1] (.cons (Rn.ptr _ _ _ (Nat.le_of_ble_eq_true rfl) rfl) (.cons (Rn.ptr _ _ _ (Nat.le_of_ble_eq_true rfl) rfl) (.cons (Rn.ptr _ _ _ (Nat.le_of_ble_eq_true rfl) rfl) (.cons (Rn.ptr _ _ _ (Nat.le_of_ble_eq_true rfl) rfl) (.cons (.flat (by kernel_rfl)) .nil))))) (by kernel_rfl) (by kernel_rfl) rfl) rfl rfl) hK
  rcases Bool.eq_false_or_eq_true (r1 == 0) with hc3 | hc3
  · replace hm16 := of_pos hm16 hc3
    have hX := of_do hm16
    clear hm16
    obtain ⟨r4, h5, hm16⟩ := hX
    cases r4 with
    | true =>
      replace hm16 := of_pos hm16 rfl
      have hX := of_do hm16
      clear hm16
      obtain ⟨r6, h7, hm16⟩ := hX
      cases r6 with
      | true =>
        replace hm16 := of_pos hm16 rfl
        have hm16 := Option.some.inj hm16
        subst hm16
        refine TS.rg (TI.ra 1 [3, 4, 5, 6, 8, 12] (S17_4 r1) (TI.o { val := .bool true } (q_conv (e := r1 == 0) (b := true) (by kernel_rfl) hc3) [3, 4, 5, 6, 8, 13] [0, 1, 2, 3] (S17_3 r1) (H17_2 p0 p1 p2 p3 p4 p5 p6 p7) (TI.ra 2 [3, 4, 5, 6, 8, 14, 15] (S17_1 r1 p4 p5) (TI.cf (C55 _ _ _ _ h5) (TI.ra 3 [3, 4, 5, 6, 8, 14, 18, 19] (S17_0 r1 p6 p7) (TI.cf (C56 _ _ _ h7) (TI.ra 3 [3, 4, 5, 6, 8, 23] (st 42 [(3, pt 0 0), (4, pt 1 0), (5, pt 2 0), (6, pt 3 0), (8, iv r1), (23, .bool false)]) (TI.dn ?_))))))))
        exact hK
      | false =>
        replace hm16 := of_neg hm16 rfl
        have hm16 := Option.some.inj hm16
        subst hm16
        refine TS.rg (TI.ra 1 [3, 4, 5, 6, 8, 12] (S17_4 r1) (TI.o { val := .bool true } (q_conv (e := r1 == 0) (b := true) (by kernel_rfl) hc3) [3, 4, 5, 6, 8, 13] [0, 1, 2, 3] (S17_3 r1) (H17_2 p0 p1 p2 p3 p4 p5 p6 p7) (TI.ra 2 [3, 4, 5, 6, 8, 14, 15] (S17_1 r1 p4 p5) (TI.cf (C55 _ _ _ _ h5) (TI.ra 3 [3, 4, 5, 6, 8, 14, 18, 19] (S17_0 r1 p6 p7) (TI.cf (C56 _ _ _ h7) (TI.ra 3 [3, 4, 5, 6, 8, 23] (st 42 [(3, pt 0 0), (4, pt 1 0), (5, pt 2 0), (6, pt 3 0), (8, iv r1), (23, .bool true)]) (TI.dn ?_))))))))
        exact hK
    | false =>
      replace hm16 := of_neg hm16 rfl
      have hm16 := Option.some.inj hm16
      subst hm16
      exact TS.rg (TI.ra 1 [3, 4, 5, 6, 8, 12] (S17_4 r1) (TI.o { val := .bool true } (q_conv (e := r1 == 0) (b := true) (by kernel_rfl) hc3) [3, 4, 5, 6, 8, 13] [0, 1, 2, 3] (S17_3 r1) (H17_2 p0 p1 p2 p3 p4 p5 p6 p7) (TI.ra 2 [3, 4, 5, 6, 8, 14, 15] (S17_1 r1 p4 p5) (TI.cf (C55 _ _ _ _ h5) (TI.ra 7 [3, 4, 5, 6, 8, 23] (st 42 [(3, pt 0 0), (4, pt 1 0), (5, pt 2 0), (6, pt 3 0), (8, iv r1), (23, .bool true)]) (TI.dn hK))))))
  · replace hm16 := of_neg hm16 hc3
    have hm16 := Option.some.inj hm16
    subst hm16
    exact TS.rg (TI.ra 1 [3, 4, 5, 6, 8, 12] (S17_4 r1) (TI.o { val := .bool false } (q_conv (e := r1 == 0) (b := false) (by kernel_rfl) hc3) [3, 4, 5, 6, 8, 13] [0, 1, 2, 3] (st 42 [(3, pt 0 0), (4, pt 1 0), (5, pt 2 0), (6, pt 3 0), (8, iv r1), (13, .bool false)]) (H17_2 p0 p1 p2 p3 p4 p5 p6 p7) (TI.ra 10 [3, 4, 5, 6, 8, 23] (st 42 [(3, pt 0 0), (4, pt 1 0), (5, pt 2 0), (6, pt 3 0), (8, iv r1), (23, .bool false)]) (TI.dn hK))))
theorem C17 (p0 : Int) (p1 : Int) (p2 : Int) (p3 : Int) (p4 : Int) (p5 : Int) (p6 : Int) (p7 : Int) (r : ((Int × Int) × Int)) (hF : F17 p0 p1 p2 p3 p4 p5 p6 p7 = some r) : PureSim Try.prog 17 [ag [iv p0, iv p1, iv p2, iv p3], ag [iv p4, iv p5], ag [iv p6, iv p7]] [] (V17 0 r) (N17 0 r) :=
  PureSim.of_Fin Try.func17 (c := c17) (by kernel_rfl) (by kernel_rfl) 0 rfl [0, 1, 2] [] (by kernel_rfl) (B17 p0 p1 p2 p3 p4 p5 p6 p7 r hF)

-- agonic/agonicref06.product
noncomputable def c64 : Code := Try.f64.code
def F64 (p0 : Int) (p1 : Int) (p2 : Int) (p3 : Int) : Option Int :=
  some (w64 ((w64 (p0 * p2)) + (w64 (p1 * p3))))
def V64 (b : Nat) (r : Int) : Value := iv r
def N64 (b : Nat) (r : Int) : List Blk := []
theorem B64 (p0 : Int) (p1 : Int) (p2 : Int) (p3 : Int) (r : Int) (hF : F64 p0 p1 p2 p3 = some r) : TS Try.prog 0 0 c64 (st 16 [(0, ag [iv p0, iv p1]), (1, ag [iv p2, iv p3])]) [] (NX Try.prog 0 0 [] (FinP Try.prog Try.f64 0 (V64 0 r) (N64 0 r))) := by
  unfold F64 at hF
  refine TS.sq (TS.rg (TI.rn 3 [2, 3] [0, 1] (st 16 [(2, pt 0 0), (3, pt 1 0)]) [cl 28 [iv p0, iv p1], cl 28 [iv p2, iv p3]] (TI.dn (NX.sq (TS.sq (TS.rg (TI.rn 12 [4] [] (st 16 [(4, iv (w64 ((w64 (p0 * p2)) + (w64 (p1 * p3)))))]) [.dead, .dead] (TI.dn ?_))))))))
  refine NX.sq (TS.rt ?_)
  have hF := Option.some.inj hF
  subst hF
  exact ⟨.inr rfl, rfl, iv (w64 ((w64 (p0 * p2)) + (w64 (p1 * p3)))), by kernel_rfl, WkV.flat0 (by kernel_rfl) (Nat.le_of_ble_eq_true rfl)⟩
theorem C64 (p0 : Int) (p1 : Int) (p2 : Int) (p3 : Int) (r : Int) (hF : F64 p0 p1 p2 p3 = some r) : PureSim Try.prog 64 [ag [iv p0, iv p1], ag [iv p2, iv p3]] [] (V64 0 r) (N64 0 r) :=
  PureSim.of_Fin Try.func64 (c := c64) (by kernel_rfl) (by kernel_rfl) 0 rfl [0, 1] [] (by kernel_rfl) (B64 p0 p1 p2 p3 r hF)

-- agonic/agonicref06.reduced
noncomputable def c51 : Code := Try.f51.code
def S51_0 (r1 : Int) (p0 : Int) (p1 : Int) (r3 : Int) (p2 : Int) (p3 : Int) : CAct := (st 33 [(1, pt 0 0), (3, iv r1), (9, pt 0 0), (10, ag [iv p0, iv p1]), (11, pt 0 0), (12, ag [iv p0, iv p1]), (13, iv r3), (14, pt 0 2), (15, ag [iv p2, iv p3]), (16, pt 0 2), (17, ag [iv p2, iv p3])])
def F51 (p0 : Int) (p1 : Int) (p2 : Int) (p3 : Int) : Option Bool :=
  F64 p0 p1 p2 p3 >>= fun r1 =>
  F64 p0 p1 p0 p1 >>= fun r3 =>
  F64 p2 p3 p2 p3 >>= fun r5 =>
  (
    if decide (r3 ≤ r5) then
      F64 p0 p1 p0 p1 >>= fun r8 =>
      some (decide ((w64 (2 * (mx r1 (w64 (0 - r1))))) ≤ r8))
    else
      some (false)
  : Option Bool) >>= fun m10 =>
  some m10
def V51 (b : Nat) (r : Bool) : Value := .bool r
def N51 (b : Nat) (r : Bool) : List Blk := []
theorem B51 (p0 : Int) (p1 : Int) (p2 : Int) (p3 : Int) (r : Bool) (hF : F51 p0 p1 p2 p3 = some r) : TS Try.prog 0 0 c51 (st 33 [(0, ag [iv p0, iv p1, iv p2, iv p3])]) [] (NX Try.prog 0 0 [] (FinP Try.prog Try.f51 0 (V51 0 r) (N51 0 r))) := by
  unfold F51 at hF
  refine TS.sq (TS.rg (TI.rn 2 [1] [0] (st 33 [(1, pt 0 0)]) [cl 30 [iv p0, iv p1, iv p2, iv p3]] (TI.dn (NX.sq (TS.sq ?_)))))
  have hX := of_do hF
  clear hF
  obtain ⟨r1, h2, hF⟩ := hX
  refine TS.rg (TI.ra 4 [1, 5, 7] (st 33 [(1, pt 0 0), (5, ag [iv p0, iv p1]), (7, ag [iv p2, iv p3])]) (TI.cf (C64 _ _ _ _ _ h2) (TI.ra 1 [1, 3] (st 33 [(1, pt 0 0), (3, iv r1)]) (TI.dn (NX.sq (TS.sq ?_))))))
  have hX := of_do hF
  clear hF
  obtain ⟨r3, h4, hF⟩ := hX
  have hX := of_do hF
  clear hF
  obtain ⟨r5, h6, hF⟩ := hX
  have hX := of_do hF
  clear hF
  obtain ⟨m10, hm11, hF⟩ := hX
  have hK : NX Try.prog 0 0 [.sq c51.s2.s2.s2] (FinP Try.prog Try.f51 0 (V51 0 r) (N51 0 r)) .normal (st 33 [(2, .bool m10)]) [.dead] := by
    refine NX.sq (TS.rt ?_)
    have hF := Option.some.inj hF
    subst hF
    exact ⟨.inr rfl, rfl, .bool m10, by kernel_rfl, WkV.flat0 (by kernel_rfl) (Nat.le_of_ble_eq_true rfl)⟩
  rcases Bool.eq_false_or_eq_true (decide (r3 ≤ r5)) with hc7 | hc7
  · replace hm11 := of_pos hm11 hc7
    have hX := of_do hm11
    clear hm11
    obtain ⟨r8, h9, hm11⟩ := hX
    have hm11 := Option.some.inj hm11
    subst hm11
    have hT : ∀ e ∈ ([⟨64, [ag [iv p0, iv p1], ag [iv p0, iv p1]], [cl 30 [iv p0, iv p1, iv p2, iv p3]], iv r3, []⟩, ⟨64, [ag [iv p2, iv p3], ag [iv p2, iv p3]], [cl 30 [iv p0, iv p1, iv p2, iv p3]], iv r5, []⟩, ⟨64, [ag [iv p0, iv p1], ag [iv p0, iv p1]], [cl 30 [iv p0, iv p1, iv p2, iv p3]], iv r8, []⟩] : List Entry), PureSim Try.prog e.g e.args e.h e.v e.new := by
      intro e he
      simp only [List.mem_cons, List.not_mem_nil, or_false] at he
      rcases he with rfl | rfl | rfl
      · exact PureSim.ak (C64 _ _ _ _ _ h4)
      · exact PureSim.ak (C64 _ _ _ _ _ h6)
      · exact PureSim.ak (C64 _ _ _ _ _ h9)
    refine TS.dp [⟨64, [ag [iv p0, iv p1], ag [iv p0, iv p1]], [cl 30 [iv p0, iv p1, iv p2, iv p3]], iv r3, []⟩, ⟨64, [ag [iv p2, iv p3], ag [iv p2, iv p3]], [cl 30 [iv p0, iv p1, iv p2, iv p3]], iv r5, []⟩, ⟨64, [ag [iv p0, iv p1], ag [iv p0, iv p1]], [cl 30 [iv p0, iv p1, iv p2, iv p3]], iv r8, []⟩] hT mixed 22 [2] [] (st 33 [(2, .bool (decide ((w64 (2 * (mx r1 (w64 (0 - r1))))) ≤ r8)))]) [.dead] ?_ ?_
    · refine QJ.rn (qs (st 33 [(1, pt 0 0), (3, iv r1), (9, pt 0 0), (10, ag [iv p0, iv p1]), (11, pt 0 0), (12, ag [iv p0, iv p1])]) [cl 30 [iv p0, iv p1, iv p2, iv p3]] [] []) 4 (QJ.o { val := iv r3, new := [] } (qOf_call (g := 64) (args := [ag [iv p0, iv p1], ag [iv p0, iv p1]]) (by kernel_rfl) lookC_hit) (QJ.rn (qs (S51_0 r1 p0 p1 r3 p2 p3) [cl 30 [iv p0, iv p1, iv p2, iv p3]] [] []) 4 ?_))
      refine QJ.o { val := iv r5, new := [] } (qOf_call (g := 64) (args := [ag [iv p2, iv p3], ag [iv p2, iv p3]]) (by kernel_rfl) (lookC_skip (by intro _ ha _; have hr := Option.some.inj (h4.symm.trans (Eq.trans (congr (congr (congr (congrArg F64 (show p0 = p2 from congrArg (leafI 0) ha)) (show p1 = p3 from congrArg (leafI 1) ha)) (show p0 = p2 from congrArg (leafI 2) ha)) (show p1 = p3 from congrArg (leafI 3) ha)) h6)); first | (subst hr; rfl) | (cases hr; done) | (cases hr; rfl)) lookC_hit)) (QJ.o { val := .bool true } (q_conv (e := decide (r3 ≤ r5)) (b := true) (by kernel_rfl) hc7) (QJ.rn (qs (st 33 [(1, pt 0 0), (3, iv r1), (9, pt 0 0), (10, ag [iv p0, iv p1]), (11, pt 0 0), (12, ag [iv p0, iv p1]), (13, iv r3), (14, pt 0 2), (15, ag [iv p2, iv p3]), (16, pt 0 2), (17, ag [iv p2, iv p3]), (18, iv r5), (19, .bool true), (20, .bool true), (21, iv r1), (22, iv r1), (23, iv (w64 (0 - r1))), (24, iv (mx r1 (w64 (0 - r1)))), (25, iv (w64 (2 * (mx r1 (w64 (0 - r1)))))), (26, pt 0 0), (27, ag [iv p0, iv p1]), (28, pt 0 0), (29, ag [iv p0, iv p1])]) [cl 30 [iv p0, iv p1, iv p2, iv p3]] [] []) 10 ?_))
      exact QJ.o { val := iv r8, new := [] } (qOf_call (g := 64) (args := [ag [iv p0, iv p1], ag [iv p0, iv p1]]) (by kernel_rfl) (lookC_skip (by intro _ ha _; have hr := Option.some.inj (h4.symm.trans (Eq.trans (congr (congr (congr (congrArg F64 (Eq.refl p0)) (Eq.refl p1)) (Eq.refl p0)) (Eq.refl p1)) h9)); first | (subst hr; rfl) | (cases hr; done) | (cases hr; rfl)) (lookC_skip (by intro _ ha _; have hr := Option.some.inj (h6.symm.trans (Eq.trans (congr (congr (congr (congrArg F64 (show p2 = p0 from congrArg (leafI 0) ha)) (show p3 = p1 from congrArg (leafI 1) ha)) (show p2 = p0 from congrArg (leafI 2) ha)) (show p3 = p1 from congrArg (leafI 3) ha)) h9)); first | (subst hr; rfl) | (cases hr; done) | (cases hr; rfl)) lookC_hit))) (QJ.dn ⟨rfl, SJ.la⟩)
    exact hK
  · replace hm11 := of_neg hm11 hc7
    have hm11 := Option.some.inj hm11
    subst hm11
    have hT : ∀ e ∈ ([⟨64, [ag [iv p0, iv p1], ag [iv p0, iv p1]], [cl 30 [iv p0, iv p1, iv p2, iv p3]], iv r3, []⟩, ⟨64, [ag [iv p2, iv p3], ag [iv p2, iv p3]], [cl 30 [iv p0, iv p1, iv p2, iv p3]], iv r5, []⟩] : List Entry), PureSim Try.prog e.g e.args e.h e.v e.new := by
      intro e he
      simp only [List.mem_cons, List.not_mem_nil, or_false] at he
      rcases he with rfl | rfl
      · exact PureSim.ak (C64 _ _ _ _ _ h4)
      · exact PureSim.ak (C64 _ _ _ _ _ h6)
    refine TS.dp [⟨64, [ag [iv p0, iv p1], ag [iv p0, iv p1]], [cl 30 [iv p0, iv p1, iv p2, iv p3]], iv r3, []⟩, ⟨64, [ag [iv p2, iv p3], ag [iv p2, iv p3]], [cl 30 [iv p0, iv p1, iv p2, iv p3]], iv r5, []⟩] hT mixed 22 [2] [] (st 33 [(2, .bool false)]) [.dead] ?_ ?_
    · refine QJ.rn (qs (st 33 [(1, pt 0 0), (3, iv r1), (9, pt 0 0), (10, ag [iv p0, iv p1]), (11, pt 0 0), (12, ag [iv p0, iv p1])]) [cl 30 [iv p0, iv p1, iv p2, iv p3]] [] []) 4 (QJ.o { val := iv r3, new := [] } (qOf_call (g := 64) (args := [ag [iv p0, iv p1], ag [iv p0, iv p1]]) (by kernel_rfl) lookC_hit) (QJ.rn (qs (S51_0 r1 p0 p1 r3 p2 p3) [cl 30 [iv p0, iv p1, iv p2, iv p3]] [] []) 4 ?_))
      exact QJ.o { val := iv r5, new := [] } (qOf_call (g := 64) (args := [ag [iv p2, iv p3], ag [iv p2, iv p3]]) (by kernel_rfl) (lookC_skip (by intro _ ha _; have hr := Option.some.inj (h4.symm.trans (Eq.trans (congr (congr (congr (congrArg F64 (show p0 = p2 from congrArg (leafI 0) ha)) (show p1 = p3 from congrArg (leafI 1) ha)) (show p0 = p2 from congrArg (leafI 2) ha)) (show p1 = p3 from congrArg (leafI 3) ha)) h6)); first | (subst hr; rfl) | (cases hr; done) | (cases hr; rfl)) lookC_hit)) (QJ.o { val := .bool false } (q_conv (e := decide (r3 ≤ r5)) (b := false) (by kernel_rfl) hc7) (QJ.rn (qs (st 33 [(1, pt 0 0), (3, iv r1), (9, pt 0 0), (10, ag [iv p0, iv p1]), (11, pt 0 0), (12, ag [iv p0, iv p1]), (13, iv r3), (14, pt 0 2), (15, ag [iv p2, iv p3]), (16, pt 0 2), (17, ag [iv p2, iv p3]), (18, iv r5), (19, .bool false), (20, .bool false), (21, undef), (22, undef), (23, undef), (24, undef), (25, undef), (26, undef), (27, undef), (28, undef), (29, undef), (30, undef)]) [cl 30 [iv p0, iv p1, iv p2, iv p3]] [] []) 11 (QJ.dn ⟨rfl, SJ.la⟩)))
    exact hK
theorem C51 (p0 : Int) (p1 : Int) (p2 : Int) (p3 : Int) (r : Bool) (hF : F51 p0 p1 p2 p3 = some r) : PureSim Try.prog 51 [ag [iv p0, iv p1, iv p2, iv p3]] [] (V51 0 r) (N51 0 r) :=
  PureSim.of_Fin Try.func51 (c := c51) (by kernel_rfl) (by kernel_rfl) 0 rfl [0] [] (by kernel_rfl) (B51 p0 p1 p2 p3 r hF)

-- agonic/agonicref06.down
noncomputable def c74 : Code := Try.f74.code
def F74 (p0 : Int) (p1 : Int) : Option Int :=
  if p1 = 0 then none else
  (
    if decide ((Int.tmod p0 p1) < 0) then
      some (w64 ((w64 (Int.tdiv p0 p1)) - 1))
    else
      some (w64 (Int.tdiv p0 p1))
  : Option Int) >>= fun m5 =>
  some m5
def V74 (b : Nat) (r : Int) : Value := iv r
def N74 (b : Nat) (r : Int) : List Blk := []
theorem B74 (p0 : Int) (p1 : Int) (r : Int) (hF : F74 p0 p1 = some r) : TS Try.prog 0 0 c74 (st 16 [(0, iv p0), (1, iv p1)]) [] (NX Try.prog 0 0 [] (FinP Try.prog Try.f74 0 (V74 0 r) (N74 0 r))) := by
  unfold F74 at hF
  refine TS.sq (TS.rg (TI.ra 1 [0, 1] (st 16 [(0, iv p0), (1, iv p1)]) (TI.dn (NX.sq (TS.sq ?_)))))
  have hX := of_guardn hF
  clear hF
  obtain ⟨hg1, hF⟩ := hX
  refine TS.rg (TI.ra 2 [0, 1, 6, 7] (st 16 [(0, iv p0), (1, iv p1), (6, iv p0), (7, iv p1)]) (TI.o { val := iv (w64 (Int.tdiv p0 p1)) } (q_int (P := Try.prog) (op := .quo) (ty := 3) (ox := (.tmp 6)) (oy := (.tmp 7)) (k := .i64) (k' := .i64) (y := p0) (z := p1) (by kernel_rfl) (quo_ok hg1)) [0, 1, 8] [] (st 16 [(0, iv p0), (1, iv p1), (8, iv (w64 (Int.tdiv p0 p1)))]) [] (TI.ra 1 [0, 1, 5] (st 16 [(0, iv p0), (1, iv p1), (5, iv (w64 (Int.tdiv p0 p1)))]) (TI.dn (NX.sq (TS.sq (TS.sq (TS.rg ?_))))))))
  refine TI.ra 2 [5, 9, 10] (st 16 [(5, iv (w64 (Int.tdiv p0 p1))), (9, iv p0), (10, iv p1)]) (TI.o { val := iv (Int.tmod p0 p1) } (q_int (P := Try.prog) (op := .rem) (ty := 3) (ox := (.tmp 9)) (oy := (.tmp 10)) (k := .i64) (k' := .i64) (y := p0) (z := p1) (by kernel_rfl) (rem_ok hg1)) [5, 11] [] (st 16 [(5, iv (w64 (Int.tdiv p0 p1))), (11, iv (Int.tmod p0 p1))]) [] (TI.ra 1 [5, 12] (st 16 [(5, iv (w64 (Int.tdiv p0 p1))), (12, .bool (decide ((Int.tmod p0 p1) < 0)))]) (TI.dn (NX.sq ?_))))
  have hX := of_do hF
  clear hF
  obtain ⟨m5, hm6, hF⟩ := hX
  have hK : NX Try.prog 0 0 [.sq c74.s2.s2.s2] (FinP Try.prog Try.f74 0 (V74 0 r) (N74 0 r)) .normal (st 16 [(5, iv m5)]) [] := by
    refine NX.sq (TS.sq (TS.rg (TI.ra 2 [4] (st 16 [(4, iv m5)]) (TI.dn (NX.sq (TS.rt ?_))))))
    have hF := Option.some.inj hF
    subst hF
    exact ⟨.inr rfl, rfl, iv m5, by kernel_rfl, WkV.flat0 (by kernel_rfl) (Nat.le_of_ble_eq_true rfl)⟩
  clear hF
  have hF := hm6
  clear hm6
  refine TS.start ?_
  refine TS.cd (.tmp 12) (decide ((Int.tmod p0 p1) < 0)) (fun hc7 => ?_) (fun hc7 => ?_)
  · replace hF := of_pos hF hc7
    refine TS.rg (TI.ra 3 [5] (st 16 [(5, iv (w64 ((w64 (Int.tdiv p0 p1)) - 1)))]) (TI.dn ?_))
    have hF := Option.some.inj hF
    subst hF
    exact TS.weak (Wk.anew (base := 0) (L := 0) (f := []) (by decide) (by decide) (Nat.le_of_ble_eq_true rfl) rfl (.nil _) (LRn.stx [5] [iv (w64 ((w64 (Int.tdiv p0 p1)) - 1))] [iv (w64 ((w64 (Int.tdiv p0 p1)) - 1))] (.cons (.flat (by kernel_rfl)) .nil) (by kernel_rfl) (by kernel_rfl) rfl) rfl rfl) hK
  · replace hF := of_neg hF hc7
    refine TS.sk ?_
    have hF := Option.some.inj hF
    subst hF
    exact TS.weak (Wk.anew (base := 0) (L := 0) (f := []) (by decide) (by decide) (Nat.le_of_ble_eq_true rfl) rfl (.nil _) (LRn.stx [5] [iv (w64 (Int.tdiv p0 p1))] [iv (w64 (Int.tdiv p0 p1))] (.cons (.flat (by kernel_rfl)) .nil) (by kernel_rfl) (by kernel_rfl) rfl) rfl rfl) hK
theorem C74 (p0 : Int) (p1 : Int) (r : Int) (hF : F74 p0 p1 = some r) : PureSim Try.prog 74 [iv p0, iv p1] [] (V74 0 r) (N74 0 r) :=
  PureSim.of_Fin Try.func74 (c := c74) (by kernel_rfl) (by kernel_rfl) 0 rfl [0, 1] [] (by kernel_rfl) (B74 p0 p1 r hF)

-- agonic/agonicref06.bundles
noncomputable def c62 : Code := Try.f62.code
def S62_0 (p0 : Int) (p1 : Int) (p2 : Int) (p3 : Int) (v26 : Int) (v27 : Int) (r59 : (Int × Int)) (v28 : Int) (v29 : Int) (r61 : (Int × Int)) : CAct := (st 65 [(1, pt 0 0), (2, pt 1 0), (3, pt 2 0), (4, pt 3 0), (5, pt 4 0), (11, ag [iv p0, iv p1, iv p2, iv p3]), (12, ag [iv v26, iv v27]), (13, ag [iv r59.1, iv r59.2]), (14, ag [iv p0, iv p1, iv p2, iv p3]), (15, ag [iv v28, iv v29]), (16, ag [iv r61.1, iv r61.2]), (17, ag [iv r59.1, iv r59.2, iv r61.1, iv r61.2])])
def H62_1 (p0 : Int) (p1 : Int) (p2 : Int) (p3 : Int) (v26 : Int) (v27 : Int) (v28 : Int) (v29 : Int) (r66 : (Int × Int)) (r68 : (Int × Int)) : List Blk := [cl 30 [iv p0, iv p1, iv p2, iv p3], cl 41 [iv 0, iv 0], cl 41 [iv 0, iv 0], cl 41 [iv v26, iv v27], cl 41 [iv v28, iv v29], cl 28 [iv r66.1, iv r66.2], cl 28 [iv r68.1, iv r68.2]]
def S62_2 (r84 : (Int × Int × Int × Int)) : CAct := (st 65 [(2, pt 0 0), (3, pt 1 0), (4, pt 2 0), (5, pt 3 0), (63, ag [iv r84.1, iv r84.2.1]), (64, ag [iv r84.2.2.1, iv r84.2.2.2])])
def H62_3 (r84 : (Int × Int × Int × Int)) : List Blk := [cl 41 [iv r84.1, iv r84.2.1], cl 41 [iv r84.2.2.1, iv r84.2.2.2], cl 41 [iv r84.1, iv r84.2.1], cl 41 [iv r84.2.2.1, iv r84.2.2.2]]
def H62_4 (p0 : Int) (p1 : Int) (p2 : Int) (p3 : Int) (v26 : Int) (v27 : Int) (v28 : Int) (v29 : Int) : List Blk := [cl 30 [iv p0, iv p1, iv p2, iv p3], cl 41 [iv 0, iv 0], cl 41 [iv 0, iv 0], cl 41 [iv v26, iv v27], cl 41 [iv v28, iv v29]]
def H62_5 (r84 : (Int × Int × Int × Int)) : List Blk := [cl 41 [iv r84.1, iv r84.2.1], cl 41 [iv 0, iv 0], cl 41 [iv r84.1, iv r84.2.1], cl 41 [iv r84.2.2.1, iv r84.2.2.2]]
def S62_6  : CAct := (st 65 [(1, pt 0 0), (2, pt 1 0), (3, pt 2 0), (4, pt 3 0), (5, pt 4 0)])
def F62l0 (p0 : Int) (p1 : Int) (p2 : Int) (p3 : Int) (v26 : Int) (v27 : Int) (v28 : Int) (v29 : Int) : Option (Int × Int × Int × Int) :=
    F57 p0 p1 p2 p3 v26 v27 >>= fun r59 =>
    F57 p0 p1 p2 p3 v28 v29 >>= fun r61 =>
    F51 r59.1 r59.2 r61.1 r61.2 >>= fun r63 =>
    (
      if r63 then
        some (false)
      else
        some (true)
    : Option Bool) >>= fun m65 =>
    if m65 then
      F57 p0 p1 p2 p3 v26 v27 >>= fun r66 =>
      F57 p0 p1 p2 p3 v28 v29 >>= fun r68 =>
      F64 r66.1 r66.2 r66.1 r66.2 >>= fun r70 =>
      F64 r68.1 r68.2 r68.1 r68.2 >>= fun r72 =>
      if decide (r70 > r72) then
        F62l0 p0 p1 p2 p3 v28 v29 v26 v27
      else
        F64 r66.1 r66.2 r68.1 r68.2 >>= fun r75 =>
        F64 r66.1 r66.2 r66.1 r66.2 >>= fun r77 =>
        F64 r66.1 r66.2 r66.1 r66.2 >>= fun r79 =>
        F74 (w64 ((w64 (2 * r75)) + r77)) (w64 (2 * r79)) >>= fun r81 =>
        F62l0 p0 p1 p2 p3 v26 v27 (w64 (v28 - (w64 (r81 * v26)))) (w64 (v29 - (w64 (r81 * v27))))
    else
      some (v26, v27, v28, v29)
  partial_fixpoint
def F62 (p0 : Int) (p1 : Int) (p2 : Int) (p3 : Int) : Option ((Int × Int) × (Int × Int)) :=
  F62l0 p0 p1 p2 p3 1 0 0 1 >>= fun r84 =>
  some ((r84.1, r84.2.1), (r84.2.2.1, r84.2.2.2))
def V62 (b : Nat) (r : ((Int × Int) × (Int × Int))) : Value := .tuple ⟨[ag [iv r.1.1, iv r.1.2], ag [iv r.2.1, iv r.2.2]]⟩
def N62 (b : Nat) (r : ((Int × Int) × (Int × Int))) : List Blk := []
def P62l0 (p0 : Int) (p1 : Int) (p2 : Int) (p3 : Int) (r : (Int × Int × Int × Int)) : Post := fun e a h => e = .exit 0 ∧ Wk Try.prog 0 0 a h (st 65 [(2, pt 0 0), (3, pt 1 0), (4, pt 2 0), (5, pt 3 0)]) [cl 41 [iv 0, iv 0], cl 41 [iv 0, iv 0], cl 41 [iv r.1, iv r.2.1], cl 41 [iv r.2.2.1, iv r.2.2.2]]
theorem L62l0 (p0 : Int) (p1 : Int) (p2 : Int) (p3 : Int) (v26 : Int) (v27 : Int) (v28 : Int) (v29 : Int) (r : (Int × Int × Int × Int)) (hF : F62l0 p0 p1 p2 p3 v26 v27 v28 v29 = some r) : TL Try.prog 0 0 c62.s2.s2.s1.bd.bd (S62_6) (H62_4 p0 p1 p2 p3 v26 v27 v28 v29) (P62l0 p0 p1 p2 p3 r) := by
  refine F62l0.partial_correctness p0 p1 p2 p3 (motive := fun v26 v27 v28 v29 r => TL Try.prog 0 0 c62.s2.s2.s1.bd.bd (S62_6) (H62_4 p0 p1 p2 p3 v26 v27 v28 v29) (P62l0 p0 p1 p2 p3 r)) ?_ v26 v27 v28 v29 r hF
  clear hF r v26 v27 v28 v29
  intro again ih v26 v27 v28 v29 r hF
  refine TL.round (TS.sq (TS.sq ?_))
  have hX := of_do hF
  clear hF
  obtain ⟨r59, h60, hF⟩ := hX
  have hX := of_do hF
  clear hF
  obtain ⟨r61, h62, hF⟩ := hX
  have hX := of_do hF
  clear hF
  obtain ⟨r63, h64, hF⟩ := hX
  have hX := of_do hF
  clear hF
  obtain ⟨m65, hm83, hF⟩ := hX
  have hK : NX Try.prog 0 0 [.sq c62.s2.s2.s1.bd.bd.s1.s2, .sq c62.s2.s2.s1.bd.bd.s2] (Rd Try.prog 0 0 c62.s2.s2.s1.bd.bd (P62l0 p0 p1 p2 p3 r)) .normal (st 65 [(1, pt 0 0), (2, pt 1 0), (3, pt 2 0), (4, pt 3 0), (5, pt 4 0), (19, .bool m65)]) (H62_4 p0 p1 p2 p3 v26 v27 v28 v29) := by
    refine NX.sq ?_
    cases m65 with
    | true =>
      replace hF := of_pos hF rfl
      refine TS.cdT (.tmp 19) (TS.sk (NX.sq (TS.bk 1 (TS.sq ?_))))
      have hX := of_do hF
      clear hF
      obtain ⟨r66, h67, hF⟩ := hX
      have hX := of_do hF
      clear hF
      obtain ⟨r68, h69, hF⟩ := hX
      have hT : ∀ e ∈ ([⟨57, [ag [iv p0, iv p1, iv p2, iv p3], ag [iv v26, iv v27]], (H62_4 p0 p1 p2 p3 v26 v27 v28 v29), ag [iv r66.1, iv r66.2], []⟩, ⟨57, [ag [iv p0, iv p1, iv p2, iv p3], ag [iv v28, iv v29]], (H62_4 p0 p1 p2 p3 v26 v27 v28 v29), ag [iv r68.1, iv r68.2], []⟩] : List Entry), PureSim Try.prog e.g e.args e.h e.v e.new := by
        intro e he
        simp only [List.mem_cons, List.not_mem_nil, or_false] at he
        rcases he with rfl | rfl
        · exact PureSim.ak (C57 _ _ _ _ _ _ _ h67)
        · exact PureSim.ak (C57 _ _ _ _ _ _ _ h69)
      refine TS.dp [⟨57, [ag [iv p0, iv p1, iv p2, iv p3], ag [iv v26, iv v27]], (H62_4 p0 p1 p2 p3 v26 v27 v28 v29), ag [iv r66.1, iv r66.2], []⟩, ⟨57, [ag [iv p0, iv p1, iv p2, iv p3], ag [iv v28, iv v29]], (H62_4 p0 p1 p2 p3 v26 v27 v28 v29), ag [iv r68.1, iv r68.2], []⟩] hT mixed 8 [1, 2, 3, 4, 5, 6, 7] [0, 1, 2, 3, 4, 5, 6] (st 65 [(1, pt 0 0), (2, pt 1 0), (3, pt 2 0), (4, pt 3 0), (5, pt 4 0), (6, pt 5 0), (7, pt 6 0)]) (H62_1 p0 p1 p2 p3 v26 v27 v28 v29 r66 r68) ?_ ?_
      · refine QJ.rn (qs (st 65 [(1, pt 0 0), (2, pt 1 0), (3, pt 2 0), (4, pt 3 0), (5, pt 4 0), (19, .bool true), (20, ag [iv p0, iv p1, iv p2, iv p3]), (21, ag [iv v26, iv v27])]) (H62_4 p0 p1 p2 p3 v26 v27 v28 v29) [] []) 2 (QJ.o { val := ag [iv r66.1, iv r66.2], new := [] } (qOf_call (g := 57) (args := [ag [iv p0, iv p1, iv p2, iv p3], ag [iv v26, iv v27]]) (by kernel_rfl) lookC_hit) (QJ.rn (qs (st 65 [(1, pt 0 0), (2, pt 1 0), (3, pt 2 0), (4, pt 3 0), (5, pt 4 0), (19, .bool true), (20, ag [iv p0, iv p1, iv p2, iv p3]), (21, ag [iv v26, iv v27]), (22, ag [iv r66.1, iv r66.2]), (23, ag [iv p0, iv p1, iv p2, iv p3]), (24, ag [iv v28, iv v29])]) (H62_4 p0 p1 p2 p3 v26 v27 v28 v29) [] []) 2 ?_))
        exact QJ.o { val := ag [iv r68.1, iv r68.2], new := [] } (qOf_call (g := 57) (args := [ag [iv p0, iv p1, iv p2, iv p3], ag [iv v28, iv v29]]) (by kernel_rfl) (lookC_skip (by intro _ ha _; have hr := Option.some.inj (h67.symm.trans (Eq.trans (congr (congr (congr (congr (congr (congrArg F57 (Eq.refl p0)) (Eq.refl p1)) (Eq.refl p2)) (Eq.refl p3)) (show v26 = v28 from congrArg (leafI 4) ha)) (show v27 = v29 from congrArg (leafI 5) ha)) h69)); first | (subst hr; rfl) | (cases hr; done) | (cases hr; rfl)) lookC_hit)) (QJ.rn (qs (st 65 [(1, pt 0 0), (2, pt 1 0), (3, pt 2 0), (4, pt 3 0), (5, pt 4 0), (6, pt 5 0), (7, pt 6 0), (19, .bool true), (20, ag [iv p0, iv p1, iv p2, iv p3]), (21, ag [iv v26, iv v27]), (22, ag [iv r66.1, iv r66.2]), (23, ag [iv p0, iv p1, iv p2, iv p3]), (24, ag [iv v28, iv v29]), (25, ag [iv r68.1, iv r68.2])]) [cl 30 [iv p0, iv p1, iv p2, iv p3], cl 41 [iv 0, iv 0], cl 41 [iv 0, iv 0], cl 41 [iv v26, iv v27], cl 41 [iv v28, iv v29], cl 28 [iv 0, iv 0], cl 28 [iv 0, iv 0]] [(7, 6, 7), (6, 5, 6)] []) 2 (QJ.dn ⟨rfl, SJ.la⟩))
      refine TS.sq (TS.sq ?_)
      have hX := of_do hF
      clear hF
      obtain ⟨r70, h71, hF⟩ := hX
      have hX := of_do hF
      clear hF
      obtain ⟨r72, h73, hF⟩ := hX
      have hT : ∀ e ∈ ([⟨64, [ag [iv r66.1, iv r66.2], ag [iv r66.1, iv r66.2]], (H62_1 p0 p1 p2 p3 v26 v27 v28 v29 r66 r68), iv r70, []⟩, ⟨64, [ag [iv r68.1, iv r68.2], ag [iv r68.1, iv r68.2]], (H62_1 p0 p1 p2 p3 v26 v27 v28 v29 r66 r68), iv r72, []⟩] : List Entry), PureSim Try.prog e.g e.args e.h e.v e.new := by
        intro e he
        simp only [List.mem_cons, List.not_mem_nil, or_false] at he
        rcases he with rfl | rfl
        · exact PureSim.ak (C64 _ _ _ _ _ h71)
        · exact PureSim.ak (C64 _ _ _ _ _ h73)
      refine TS.dp [⟨64, [ag [iv r66.1, iv r66.2], ag [iv r66.1, iv r66.2]], (H62_1 p0 p1 p2 p3 v26 v27 v28 v29 r66 r68), iv r70, []⟩, ⟨64, [ag [iv r68.1, iv r68.2], ag [iv r68.1, iv r68.2]], (H62_1 p0 p1 p2 p3 v26 v27 v28 v29 r66 r68), iv r72, []⟩] hT mixed 5 [1, 2, 3, 4, 5, 6, 7, 32] [0, 1, 2, 3, 4, 5, 6] (st 65 [(1, pt 0 0), (2, pt 1 0), (3, pt 2 0), (4, pt 3 0), (5, pt 4 0), (6, pt 5 0), (7, pt 6 0), (32, .bool (decide (r70 > r72)))]) (H62_1 p0 p1 p2 p3 v26 v27 v28 v29 r66 r68) ?_ ?_
      · refine QJ.rn (qs (st 65 [(1, pt 0 0), (2, pt 1 0), (3, pt 2 0), (4, pt 3 0), (5, pt 4 0), (6, pt 5 0), (7, pt 6 0), (26, ag [iv r66.1, iv r66.2]), (27, ag [iv r66.1, iv r66.2])]) (H62_1 p0 p1 p2 p3 v26 v27 v28 v29 r66 r68) [] []) 2 (QJ.o { val := iv r70, new := [] } (qOf_call (g := 64) (args := [ag [iv r66.1, iv r66.2], ag [iv r66.1, iv r66.2]]) (by kernel_rfl) lookC_hit) (QJ.rn (qs (st 65 [(1, pt 0 0), (2, pt 1 0), (3, pt 2 0), (4, pt 3 0), (5, pt 4 0), (6, pt 5 0), (7, pt 6 0), (26, ag [iv r66.1, iv r66.2]), (27, ag [iv r66.1, iv r66.2]), (28, iv r70), (29, ag [iv r68.1, iv r68.2]), (30, ag [iv r68.1, iv r68.2])]) (H62_1 p0 p1 p2 p3 v26 v27 v28 v29 r66 r68) [] []) 2 (QJ.dn ⟨rfl, ?_⟩)))
        exact SJ.o { val := iv r72, new := [] } (qOf_call (g := 64) (args := [ag [iv r68.1, iv r68.2], ag [iv r68.1, iv r68.2]]) (by kernel_rfl) (lookC_skip (by intro _ ha _; have hr := Option.some.inj (h71.symm.trans (Eq.trans (congr (congr (congr (congrArg F64 (show r66.1 = r68.1 from congrArg (leafI 0) ha)) (show r66.2 = r68.2 from congrArg (leafI 1) ha)) (show r66.1 = r68.1 from congrArg (leafI 2) ha)) (show r66.2 = r68.2 from congrArg (leafI 3) ha)) h73)); first | (subst hr; rfl) | (cases hr; done) | (cases hr; rfl)) lookC_hit)) SJ.la
      refine TS.cd (.tmp 32) (decide (r70 > r72)) (fun hc74 => ?_) (fun hc74 => ?_)
      · replace hF := of_pos hF hc74
        refine TS.sq (TS.rg (TI.rn 4 [1, 2, 3, 4, 5] [0, 1, 2, 3, 4] (S62_6) [cl 30 [iv p0, iv p1, iv p2, iv p3], cl 41 [iv 0, iv 0], cl 41 [iv 0, iv 0], cl 41 [iv v28, iv v29], cl 41 [iv v26, iv v27], .dead, .dead] (TI.dn (NX.sq (TS.ex 1 (NX.sqX (NX.bkX ?_)))))))
        exact Rd.again (a2 := (S62_6)) (h2 := [cl 30 [iv p0, iv p1, iv p2, iv p3], cl 41 [iv 0, iv 0], cl 41 [iv 0, iv 0], cl 41 [iv v28, iv v29], cl 41 [iv v26, iv v27]]) (Wk.anew (base := 0) (L := 0) (f := [0, 1, 2, 3, 4]) (by decide) (by decide) (Nat.le_of_ble_eq_true rfl) rfl (.cons (At.blk (by kernel_rfl) (RnB.lit (.cons (.flat (by kernel_rfl)) (.cons (.flat (by kernel_rfl)) (.cons (.flat (by kernel_rfl)) (.cons (.flat (by kernel_rfl)) .nil)))))) (.cons (At.blk (by kernel_rfl) (RnB.lit (.cons (.flat (by kernel_rfl)) (.cons (.flat (by kernel_rfl)) .nil)))) (.cons (At.blk (by kernel_rfl) (RnB.lit (.cons (.flat (by kernel_rfl)) (.cons (.flat (by kernel_rfl)) .nil)))) (.cons (At.blk (by kernel_rfl) (RnB.lit (.cons (.flat (by kernel_rfl)) (.cons (.flat (by kernel_rfl)) .nil)))) (.cons (At.blk (by kernel_rfl) (RnB.lit (.cons (.flat (by kernel_rfl)) (.cons (.flat (by kernel_rfl)) .nil)))) (.nil _)))))) (LRn.stx [1, 2, 3, 4, 5] [pt 0 0, pt 1 0, pt 2 0, pt 3 0, pt 4 0] [pt 0 0, pt 1 0, pt 2 0, pt 3 0, pt 4 0] (.cons (Rn.ptr _ _ _ (Nat.le_of_ble_eq_true rfl) rfl) (.cons (Rn.ptr _ _ _ (Nat.le_of_ble_eq_true rfl) rfl) (.cons (Rn.ptr _ _ _ (Nat.le_of_ble_eq_true rfl) rfl) (.cons (Rn.ptr _ _ _ (Nat.le_of_ble_eq_true rfl) rfl) (.cons (Rn.ptr _ _ _ (Nat.le_of_ble_eq_true rfl) rfl) .nil))))) (by kernel_rfl) (by kernel_rfl) rfl) rfl rfl) (ih v28 v29 v26 v27 _ hF)
      · replace hF := of_neg hF hc74
        refine TS.sk (NX.sq (TS.sq ?_))
        have hX := of_do hF
        clear hF
        obtain ⟨r75, h76, hF⟩ := hX
        have hX := of_do hF
        clear hF
        obtain ⟨r77, h78, hF⟩ := hX
        have hX := of_do hF
        clear hF
        obtain ⟨r79, h80, hF⟩ := hX
        have hX := of_do hF
        clear hF
        obtain ⟨r81, h82, hF⟩ := hX
        have hT : ∀ e ∈ ([⟨64, [ag [iv r66.1, iv r66.2], ag [iv r68.1, iv r68.2]], (H62_1 p0 p1 p2 p3 v26 v27 v28 v29 r66 r68), iv r75, []⟩, ⟨64, [ag [iv r66.1, iv r66.2], ag [iv r66.1, iv r66.2]], (H62_1 p0 p1 p2 p3 v26 v27 v28 v29 r66 r68), iv r77, []⟩, ⟨64, [ag [iv r66.1, iv r66.2], ag [iv r66.1, iv r66.2]], (H62_1 p0 p1 p2 p3 v26 v27 v28 v29 r66 r68), iv r79, []⟩, ⟨74, [iv (w64 ((w64 (2 * r75)) + r77)), iv (w64 (2 * r79))], (H62_1 p0 p1 p2 p3 v26 v27 v28 v29 r66 r68), iv r81, []⟩] : List Entry), PureSim Try.prog e.g e.args e.h e.v e.new := by
          intro e he
          simp only [List.mem_cons, List.not_mem_nil, or_false] at he
          rcases he with rfl | rfl | rfl | rfl
          · exact PureSim.ak (C64 _ _ _ _ _ h76)
          · exact PureSim.ak (C64 _ _ _ _ _ h78)
          · exact PureSim.ak (C64 _ _ _ _ _ h80)
          · exact PureSim.ak (C74 _ _ _ h82)
        refine TS.dp [⟨64, [ag [iv r66.1, iv r66.2], ag [iv r68.1, iv r68.2]], (H62_1 p0 p1 p2 p3 v26 v27 v28 v29 r66 r68), iv r75, []⟩, ⟨64, [ag [iv r66.1, iv r66.2], ag [iv r66.1, iv r66.2]], (H62_1 p0 p1 p2 p3 v26 v27 v28 v29 r66 r68), iv r77, []⟩, ⟨64, [ag [iv r66.1, iv r66.2], ag [iv r66.1, iv r66.2]], (H62_1 p0 p1 p2 p3 v26 v27 v28 v29 r66 r68), iv r79, []⟩, ⟨74, [iv (w64 ((w64 (2 * r75)) + r77)), iv (w64 (2 * r79))], (H62_1 p0 p1 p2 p3 v26 v27 v28 v29 r66 r68), iv r81, []⟩] hT mixed 12 [1, 2, 3, 4, 5, 8] [0, 1, 2, 3, 4] (st 65 [(1, pt 0 0), (2, pt 1 0), (3, pt 2 0), (4, pt 3 0), (5, pt 4 0), (8, iv r81)]) [cl 30 [iv p0, iv p1, iv p2, iv p3], cl 41 [iv 0, iv 0], cl 41 [iv 0, iv 0], cl 41 [iv v26, iv v27], cl 41 [iv v28, iv v29], .dead, .dead] ?_ ?_
        · refine QJ.rn (qs (st 65 [(1, pt 0 0), (2, pt 1 0), (3, pt 2 0), (4, pt 3 0), (5, pt 4 0), (6, pt 5 0), (7, pt 6 0), (32, .bool (decide (r70 > r72))), (35, ag [iv r66.1, iv r66.2]), (36, ag [iv r68.1, iv r68.2])]) (H62_1 p0 p1 p2 p3 v26 v27 v28 v29 r66 r68) [] []) 2 (QJ.o { val := iv r75, new := [] } (qOf_call (g := 64) (args := [ag [iv r66.1, iv r66.2], ag [iv r68.1, iv r68.2]]) (by kernel_rfl) lookC_hit) (QJ.rn (qs (st 65 [(1, pt 0 0), (2, pt 1 0), (3, pt 2 0), (4, pt 3 0), (5, pt 4 0), (6, pt 5 0), (7, pt 6 0), (32, .bool (decide (r70 > r72))), (35, ag [iv r66.1, iv r66.2]), (36, ag [iv r68.1, iv r68.2]), (37, iv r75), (38, iv (w64 (2 * r75))), (39, ag [iv r66.1, iv r66.2]), (40, ag [iv r66.1, iv r66.2])]) (H62_1 p0 p1 p2 p3 v26 v27 v28 v29 r66 r68) [] []) 3 ?_))
          refine QJ.o { val := iv r77, new := [] } (qOf_call (g := 64) (args := [ag [iv r66.1, iv r66.2], ag [iv r66.1, iv r66.2]]) (by kernel_rfl) (lookC_skip (by intro _ ha _; have hr := Option.some.inj (h76.symm.trans (Eq.trans (congr (congr (congr (congrArg F64 (Eq.refl r66.1)) (Eq.refl r66.2)) (show r68.1 = r66.1 from congrArg (leafI 2) ha)) (show r68.2 = r66.2 from congrArg (leafI 3) ha)) h78)); first | (subst hr; rfl) | (cases hr; done) | (cases hr; rfl)) lookC_hit)) (QJ.rn (qs (st 65 [(1, pt 0 0), (2, pt 1 0), (3, pt 2 0), (4, pt 3 0), (5, pt 4 0), (6, pt 5 0), (7, pt 6 0), (32, .bool (decide (r70 > r72))), (35, ag [iv r66.1, iv r66.2]), (36, ag [iv r68.1, iv r68.2]), (37, iv r75), (38, iv (w64 (2 * r75))), (39, ag [iv r66.1, iv r66.2]), (40, ag [iv r66.1, iv r66.2]), (41, iv r77), (42, iv (w64 ((w64 (2 * r75)) + r77))), (43, ag [iv r66.1, iv r66.2]), (44, ag [iv r66.1, iv r66.2])]) (H62_1 p0 p1 p2 p3 v26 v27 v28 v29 r66 r68) [] []) 3 ?_)
          exact QJ.o { val := iv r79, new := [] } (qOf_call (g := 64) (args := [ag [iv r66.1, iv r66.2], ag [iv r66.1, iv r66.2]]) (by kernel_rfl) (lookC_skip (by intro _ ha _; have hr := Option.some.inj (h76.symm.trans (Eq.trans (congr (congr (congr (congrArg F64 (Eq.refl r66.1)) (Eq.refl r66.2)) (show r68.1 = r66.1 from congrArg (leafI 2) ha)) (show r68.2 = r66.2 from congrArg (leafI 3) ha)) h80)); first | (subst hr; rfl) | (cases hr; done) | (cases hr; rfl)) (lookC_skip (by intro _ ha _; have hr := Option.some.inj (h78.symm.trans (Eq.trans (congr (congr (congr (congrArg F64 (Eq.refl r66.1)) (Eq.refl r66.2)) (Eq.refl r66.1)) (Eq.refl r66.2)) h80)); first | (subst hr; rfl) | (cases hr; done) | (cases hr; rfl)) lookC_hit))) (QJ.rn (qs (st 65 [(1, pt 0 0), (2, pt 1 0), (3, pt 2 0), (4, pt 3 0), (5, pt 4 0), (6, pt 5 0), (7, pt 6 0), (32, .bool (decide (r70 > r72))), (35, ag [iv r66.1, iv r66.2]), (36, ag [iv r68.1, iv r68.2]), (37, iv r75), (38, iv (w64 (2 * r75))), (39, ag [iv r66.1, iv r66.2]), (40, ag [iv r66.1, iv r66.2]), (41, iv r77), (42, iv (w64 ((w64 (2 * r75)) + r77))), (43, ag [iv r66.1, iv r66.2]), (44, ag [iv r66.1, iv r66.2]), (45, iv r79), (46, iv (w64 (2 * r79)))]) (H62_1 p0 p1 p2 p3 v26 v27 v28 v29 r66 r68) [] []) 1 (QJ.dn ⟨rfl, (SJ.o { val := iv r81, new := [] } (qOf_call (g := 74) (args := [iv (w64 ((w64 (2 * r75)) + r77)), iv (w64 (2 * r79))]) (by kernel_rfl) (lookC_skip (fun hg => absurd (show (64 : Nat) = 74 from hg) (by decide)) (lookC_skip (fun hg => absurd (show (64 : Nat) = 74 from hg) (by decide)) (lookC_skip (fun hg => absurd (show (64 : Nat) = 74 from hg) (by decide)) lookC_hit)))) SJ.la)⟩))
        refine TS.rg (TI.rn 16 [1, 2, 3, 4, 5] [0, 1, 2, 3, 4] (S62_6) [cl 30 [iv p0, iv p1, iv p2, iv p3], cl 41 [iv 0, iv 0], cl 41 [iv 0, iv 0], cl 41 [iv v26, iv v27], cl 41 [iv (w64 (v28 - (w64 (r81 * v26)))), iv (w64 (v29 - (w64 (r81 * v27))))], .dead, .dead] (TI.dn (NX.bk ?_)))
        exact Rd.again (a2 := (S62_6)) (h2 := [cl 30 [iv p0, iv p1, iv p2, iv p3], cl 41 [iv 0, iv 0], cl 41 [iv 0, iv 0], cl 41 [iv v26, iv v27], cl 41 [iv (w64 (v28 - (w64 (r81 * v26)))), iv (w64 (v29 - (w64 (r81 * v27))))]]) (Wk.anew (base := 0) (L := 0) (f := [0, 1, 2, 3, 4]) (by decide) (by decide) (Nat.le_of_ble_eq_true rfl) rfl (.cons (At.blk (by kernel_rfl) (RnB.lit (.cons (.flat (by kernel_rfl)) (.cons (.flat (by kernel_rfl)) (.cons (.flat (by kernel_rfl)) (.cons (.flat (by kernel_rfl)) .nil)))))) (.cons (At.blk (by kernel_rfl) (RnB.lit (.cons (.flat (by kernel_rfl)) (.cons (.flat (by kernel_rfl)) .nil)))) (.cons (At.blk (by kernel_rfl) (RnB.lit (.cons (.flat (by kernel_rfl)) (.cons (.flat (by kernel_rfl)) .nil)))) (.cons (At.blk (by kernel_rfl) (RnB.lit (.cons (.flat (by kernel_rfl)) (.cons (.flat (by kernel_rfl)) .nil)))) (.cons (At.blk (by kernel_rfl) (RnB.lit (.cons (.flat (by kernel_rfl)) (.cons (.flat (by kernel_rfl)) .nil)))) (.nil _)))))) (LRn.stx [1, 2, 3, 4, 5] [pt 0 0, pt 1 0, pt 2 0, pt 3 0, pt 4 0] [pt 0 0, pt 1 0, pt 2 0, pt 3 0, pt 4 0] (.cons (Rn.ptr _ _ _ (Nat.le_of_ble_eq_true rfl) rfl) (.cons (Rn.ptr _ _ _ (Nat.le_of_ble_eq_true rfl) rfl) (.cons (Rn.ptr _ _ _ (Nat.le_of_ble_eq_true rfl) rfl) (.cons (Rn.ptr _ _ _ (Nat.le_of_ble_eq_true rfl) rfl) (.cons (Rn.ptr _ _ _ (Nat.le_of_ble_eq_true rfl) rfl) .nil))))) (by kernel_rfl) (by kernel_rfl) rfl) rfl rfl) (ih v26 v27 (w64 (v28 - (w64 (r81 * v26)))) (w64 (v29 - (w64 (r81 * v27)))) _ hF)
    | false =>
      replace hF := of_neg hF rfl
      refine TS.cdF (.tmp 19) (TS.ex 0 (NX.sqX ?_))
      have hF := Option.some.inj hF
      subst hF
      exact Rd.out (e := .exit 0) (by intro h; cases h) (And.intro rfl (Wk.anew (base := 0) (L := 0) (f := [1, 2, 3, 4]) (by decide) (by decide) (Nat.le_of_ble_eq_true rfl) rfl (.cons (At.blk (by kernel_rfl) (RnB.lit (.cons (.flat (by kernel_rfl)) (.cons (.flat (by kernel_rfl)) .nil)))) (.cons (At.blk (by kernel_rfl) (RnB.lit (.cons (.flat (by kernel_rfl)) (.cons (.flat (by kernel_rfl)) .nil)))) (.cons (At.blk (by kernel_rfl) (RnB.lit (.cons (.flat (by kernel_rfl)) (.cons (.flat (by kernel_rfl)) .nil)))) (.cons (At.blk (by kernel_rfl) (RnB.lit (.cons (.flat (by kernel_rfl)) (.cons (.flat (by kernel_rfl)) .nil)))) (.nil _))))) (LRn.stx [2, 3, 4, 5] [pt 0 0, pt 1 0, pt 2 0, pt 3 0] [pt 1 0, pt 2 0, pt 3 0, pt 4 0] (.cons (Rn.ptr _ _ _ (Nat.le_of_ble_eq_true rfl) rfl) (.cons (Rn.ptr _ _ _ (Nat.le_of_ble_eq_true rfl) rfl) (.cons (Rn.ptr _ _ _ (Nat.le_of_ble_eq_true rfl) rfl) (.cons (Rn.ptr _ _ _ (Nat.le_of_ble_eq_true rfl) rfl) .nil)))) (by kernel_rfl) (by kernel_rfl) rfl) rfl rfl))
  cases r63 with
  | true =>
    replace hm83 := of_pos hm83 rfl
    have hm83 := Option.some.inj hm83
    subst hm83
    have hT : ∀ e ∈ ([⟨57, [ag [iv p0, iv p1, iv p2, iv p3], ag [iv v26, iv v27]], (H62_4 p0 p1 p2 p3 v26 v27 v28 v29), ag [iv r59.1, iv r59.2], []⟩, ⟨57, [ag [iv p0, iv p1, iv p2, iv p3], ag [iv v28, iv v29]], (H62_4 p0 p1 p2 p3 v26 v27 v28 v29), ag [iv r61.1, iv r61.2], []⟩, ⟨51, [ag [iv r59.1, iv r59.2, iv r61.1, iv r61.2]], (H62_4 p0 p1 p2 p3 v26 v27 v28 v29), .bool true, []⟩] : List Entry), PureSim Try.prog e.g e.args e.h e.v e.new := by
      intro e he
      simp only [List.mem_cons, List.not_mem_nil, or_false] at he
      rcases he with rfl | rfl | rfl
      · exact PureSim.ak (C57 _ _ _ _ _ _ _ h60)
      · exact PureSim.ak (C57 _ _ _ _ _ _ _ h62)
      · exact PureSim.ak (C51 _ _ _ _ _ h64)
    refine TS.dp [⟨57, [ag [iv p0, iv p1, iv p2, iv p3], ag [iv v26, iv v27]], (H62_4 p0 p1 p2 p3 v26 v27 v28 v29), ag [iv r59.1, iv r59.2], []⟩, ⟨57, [ag [iv p0, iv p1, iv p2, iv p3], ag [iv v28, iv v29]], (H62_4 p0 p1 p2 p3 v26 v27 v28 v29), ag [iv r61.1, iv r61.2], []⟩, ⟨51, [ag [iv r59.1, iv r59.2, iv r61.1, iv r61.2]], (H62_4 p0 p1 p2 p3 v26 v27 v28 v29), .bool true, []⟩] hT mixed 5 [1, 2, 3, 4, 5, 19] [0, 1, 2, 3, 4] (st 65 [(1, pt 0 0), (2, pt 1 0), (3, pt 2 0), (4, pt 3 0), (5, pt 4 0), (19, .bool false)]) (H62_4 p0 p1 p2 p3 v26 v27 v28 v29) ?_ ?_
    · refine QJ.rn (qs (st 65 [(1, pt 0 0), (2, pt 1 0), (3, pt 2 0), (4, pt 3 0), (5, pt 4 0), (11, ag [iv p0, iv p1, iv p2, iv p3]), (12, ag [iv v26, iv v27])]) (H62_4 p0 p1 p2 p3 v26 v27 v28 v29) [] []) 2 (QJ.o { val := ag [iv r59.1, iv r59.2], new := [] } (qOf_call (g := 57) (args := [ag [iv p0, iv p1, iv p2, iv p3], ag [iv v26, iv v27]]) (by kernel_rfl) lookC_hit) (QJ.rn (qs (st 65 [(1, pt 0 0), (2, pt 1 0), (3, pt 2 0), (4, pt 3 0), (5, pt 4 0), (11, ag [iv p0, iv p1, iv p2, iv p3]), (12, ag [iv v26, iv v27]), (13, ag [iv r59.1, iv r59.2]), (14, ag [iv p0, iv p1, iv p2, iv p3]), (15, ag [iv v28, iv v29])]) (H62_4 p0 p1 p2 p3 v26 v27 v28 v29) [] []) 2 (QJ.dn ⟨rfl, ?_⟩)))
      exact SJ.o { val := ag [iv r61.1, iv r61.2], new := [] } (qOf_call (g := 57) (args := [ag [iv p0, iv p1, iv p2, iv p3], ag [iv v28, iv v29]]) (by kernel_rfl) (lookC_skip (by intro _ ha _; have hr := Option.some.inj (h60.symm.trans (Eq.trans (congr (congr (congr (congr (congr (congrArg F57 (Eq.refl p0)) (Eq.refl p1)) (Eq.refl p2)) (Eq.refl p3)) (show v26 = v28 from congrArg (leafI 4) ha)) (show v27 = v29 from congrArg (leafI 5) ha)) h62)); first | (subst hr; rfl) | (cases hr; done) | (cases hr; rfl)) lookC_hit)) (SJ.rn (S62_0 p0 p1 p2 p3 v26 v27 r59 v28 v29 r61) (H62_4 p0 p1 p2 p3 v26 v27 v28 v29) 1 (SJ.o { val := .bool true, new := [] } (qOf_call (g := 51) (args := [ag [iv r59.1, iv r59.2, iv r61.1, iv r61.2]]) (by kernel_rfl) (lookC_skip (fun hg => absurd (show (57 : Nat) = 51 from hg) (by decide)) (lookC_skip (fun hg => absurd (show (57 : Nat) = 51 from hg) (by decide)) lookC_hit))) SJ.la))
    exact hK
  | false =>
    replace hm83 := of_neg hm83 rfl
    have hm83 := Option.some.inj hm83
    subst hm83
    have hT : ∀ e ∈ ([⟨57, [ag [iv p0, iv p1, iv p2, iv p3], ag [iv v26, iv v27]], (H62_4 p0 p1 p2 p3 v26 v27 v28 v29), ag [iv r59.1, iv r59.2], []⟩, ⟨57, [ag [iv p0, iv p1, iv p2, iv p3], ag [iv v28, iv v29]], (H62_4 p0 p1 p2 p3 v26 v27 v28 v29), ag [iv r61.1, iv r61.2], []⟩, ⟨51, [ag [iv r59.1, iv r59.2, iv r61.1, iv r61.2]], (H62_4 p0 p1 p2 p3 v26 v27 v28 v29), .bool false, []⟩] : List Entry), PureSim Try.prog e.g e.args e.h e.v e.new := by
      intro e he
      simp only [List.mem_cons, List.not_mem_nil, or_false] at he
      rcases he with rfl | rfl | rfl
      · exact PureSim.ak (C57 _ _ _ _ _ _ _ h60)
      · exact PureSim.ak (C57 _ _ _ _ _ _ _ h62)
      · exact PureSim.ak (C51 _ _ _ _ _ h64)
    refine TS.dp [⟨57, [ag [iv p0, iv p1, iv p2, iv p3], ag [iv v26, iv v27]], (H62_4 p0 p1 p2 p3 v26 v27 v28 v29), ag [iv r59.1, iv r59.2], []⟩, ⟨57, [ag [iv p0, iv p1, iv p2, iv p3], ag [iv v28, iv v29]], (H62_4 p0 p1 p2 p3 v26 v27 v28 v29), ag [iv r61.1, iv r61.2], []⟩, ⟨51, [ag [iv r59.1, iv r59.2, iv r61.1, iv r61.2]], (H62_4 p0 p1 p2 p3 v26 v27 v28 v29), .bool false, []⟩] hT mixed 5 [1, 2, 3, 4, 5, 19] [0, 1, 2, 3, 4] (st 65 [(1, pt 0 0), (2, pt 1 0), (3, pt 2 0), (4, pt 3 0), (5, pt 4 0), (19, .bool true)]) (H62_4 p0 p1 p2 p3 v26 v27 v28 v29) ?_ ?_
    · refine QJ.rn (qs (st 65 [(1, pt 0 0), (2, pt 1 0), (3, pt 2 0), (4, pt 3 0), (5, pt 4 0), (11, ag [iv p0, iv p1, iv p2, iv p3]), (12, ag [iv v26, iv v27])]) (H62_4 p0 p1 p2 p3 v26 v27 v28 v29) [] []) 2 (QJ.o { val := ag [iv r59.1, iv r59.2], new := [] } (qOf_call (g := 57) (args := [ag [iv p0, iv p1, iv p2, iv p3], ag [iv v26, iv v27]]) (by kernel_rfl) lookC_hit) (QJ.rn (qs (st 65 [(1, pt 0 0), (2, pt 1 0), (3, pt 2 0), (4, pt 3 0), (5, pt 4 0), (11, ag [iv p0, iv p1, iv p2, iv p3]), (12, ag [iv v26, iv v27]), (13, ag [iv r59.1, iv r59.2]), (14, ag [iv p0, iv p1, iv p2, iv p3]), (15, ag [iv v28, iv v29])]) (H62_4 p0 p1 p2 p3 v26 v27 v28 v29) [] []) 2 (QJ.dn ⟨rfl, ?_⟩)))
      exact SJ.o { val := ag [iv r61.1, iv r61.2], new := [] } (qOf_call (g := 57) (args := [ag [iv p0, iv p1, iv p2, iv p3], ag [iv v28, iv v29]]) (by kernel_rfl) (lookC_skip (by intro _ ha _; have hr := Option.some.inj (h60.symm.trans (Eq.trans (congr (congr (congr (congr (congr (congrArg F57 (Eq.refl p0)) (Eq.refl p1)) (Eq.refl p2)) (Eq.refl p3)) (show v26 = v28 from congrArg (leafI 4) ha)) (show v27 = v29 from congrArg (leafI 5) ha)) h62)); first | (subst hr; rfl) | (cases hr; done) | (cases hr; rfl)) lookC_hit)) (SJ.rn (S62_0 p0 p1 p2 p3 v26 v27 r59 v28 v29 r61) (H62_4 p0 p1 p2 p3 v26 v27 v28 v29) 1 (SJ.o { val := .bool false, new := [] } (qOf_call (g := 51) (args := [ag [iv r59.1, iv r59.2, iv r61.1, iv r61.2]]) (by kernel_rfl) (lookC_skip (fun hg => absurd (show (57 : Nat) = 51 from hg) (by decide)) (lookC_skip (fun hg => absurd (show (57 : Nat) = 51 from hg) (by decide)) lookC_hit))) SJ.la))
    exact hK
theorem B62 (p0 : Int) (p1 : Int) (p2 : Int) (p3 : Int) (r : ((Int × Int) × (Int × Int))) (hF : F62 p0 p1 p2 p3 = some r) : TS Try.prog 0 0 c62 (st 65 [(0, ag [iv p0, iv p1, iv p2, iv p3])]) [] (NX Try.prog 0 0 [] (FinP Try.prog Try.f62 0 (V62 0 r) (N62 0 r))) := by
  unfold F62 at hF
  refine TS.sq (TS.rg (TI.rn 3 [1, 2, 3] [0, 1, 2] (st 65 [(1, pt 0 0), (2, pt 1 0), (3, pt 2 0)]) [cl 30 [iv p0, iv p1, iv p2, iv p3], cl 41 [iv 0, iv 0], cl 41 [iv 0, iv 0]] (TI.dn (NX.sq (TS.sq (TS.rg (TI.rn 6 [1, 2, 3, 4, 5] [0, 1, 2, 3, 4] (S62_6) [cl 30 [iv p0, iv p1, iv p2, iv p3], cl 41 [iv 0, iv 0], cl 41 [iv 0, iv 0], cl 41 [iv 1, iv 0], cl 41 [iv 0, iv 1]] (TI.dn ?_))))))))
  refine NX.sq (TS.sq (TS.bk 0 ?_))
  have hX := of_do hF
  clear hF
  obtain ⟨r84, h85, hF⟩ := hX
  refine TS.lp (TL.weak (a2 := (S62_6)) (h2 := [cl 30 [iv p0, iv p1, iv p2, iv p3], cl 41 [iv 0, iv 0], cl 41 [iv 0, iv 0], cl 41 [iv 1, iv 0], cl 41 [iv 0, iv 1]]) (Wk.anew (base := 0) (L := 0) (f := [0, 1, 2, 3, 4]) (by decide) (by decide) (Nat.le_of_ble_eq_true rfl) rfl (.cons (At.blk (by kernel_rfl) (RnB.lit (.cons (.flat (by kernel_rfl)) (.cons (.flat (by kernel_rfl)) (.cons (.flat (by kernel_rfl)) (.cons (.flat (by kernel_rfl)) .nil)))))) (.cons (At.blk (by kernel_rfl) (RnB.lit (.cons (.flat (by kernel_rfl)) (.cons (.flat (by kernel_rfl)) .nil)))) (.cons (At.blk (by kernel_rfl) (RnB.lit (.cons (.flat (by kernel_rfl)) (.cons (.flat (by kernel_rfl)) .nil)))) (.cons (At.blk (by kernel_rfl) (RnB.lit (.cons (.flat (by kernel_rfl)) (.cons (.flat (by kernel_rfl)) .nil)))) (.cons (At.blk (by kernel_rfl) (RnB.lit (.cons (.flat (by kernel_rfl)) (.cons (.flat (by kernel_rfl)) .nil)))) (.nil _)))))) (LRn.stx [1, 2, 3, 4, 5] [pt 0 0, pt 1 0, pt 2 0, pt 3 0, pt 4 0] [pt 0 0, pt 1 0, pt 2 0, pt 3 0, pt 4 0] (.cons (Rn.ptr _ _ _ (Nat.le_of_ble_eq_true rfl) rfl) (.cons (Rn.ptr _ _ _ (Nat.le_of_ble_eq_true rfl) rfl) (.cons (Rn.ptr _ _ _ (Nat.le_of_ble_eq_true rfl) rfl) (.cons (Rn.ptr _ _ _ (Nat.le_of_ble_eq_true rfl) rfl) (.cons (Rn.ptr _ _ _ (Nat.le_of_ble_eq_true rfl) rfl) .nil))))) (by kernel_rfl) (by kernel_rfl) rfl) rfl rfl) (TL.post (L62l0 p0 p1 p2 p3 1 0 0 1 r84 h85) ?_))
  rintro e a1 h1 hp
  obtain ⟨rfl, hw⟩ := hp
  refine ⟨(st 65 [(2, pt 0 0), (3, pt 1 0), (4, pt 2 0), (5, pt 3 0)]), [cl 41 [iv 0, iv 0], cl 41 [iv 0, iv 0], cl 41 [iv r84.1, iv r84.2.1], cl 41 [iv r84.2.2.1, iv r84.2.2.2]], (NX.bkX (NX.sq (TS.sq ?_))), hw⟩
  refine TS.draw' (id := 8) (b := true) (ops := c62.s2.s2.s2.s1.rops) (fin := (qs (S62_2 r84) (H62_5 r84) [] [(2, 0)])) (fin2 := (qs (S62_2 r84) (H62_5 r84) [] [(2, 0)])) (a1 := (S62_2 r84)) (h1 := (H62_3 r84)) (a2 := (st 65 [(2, pt 0 0), (3, pt 1 0)])) (h2 := [cl 41 [iv r84.1, iv r84.2.1], cl 41 [iv r84.2.2.1, iv r84.2.2.2], .dead, .dead]) [] (fun e he => by cases he) mixed (by kernel_rfl) rfl 3 (by kernel_rfl) [(2, 0)] ?_ rfl (.inr ⟨?_, (by kernel_rfl)⟩) ?_ [2, 3] [0, 1] (by kernel_rfl) ?_
  · exact QI.run (s1 := (qs (S62_2 r84) (H62_5 r84) [] [(2, 0)])) 3 (by kernel_rfl) (by kernel_rfl) (QI.done (by kernel_rfl))
  · exact QI.run (s1 := (qs (S62_2 r84) (H62_5 r84) [] [(2, 0)])) 3 (by kernel_rfl) (by kernel_rfl) (QI.done (by kernel_rfl))
  · exact SI.run (a2 := (S62_2 r84)) (h2 := (H62_3 r84)) 1 (by kernel_rfl) (SI.done (by kernel_rfl))
  refine TS.rt ?_
  have hF := Option.some.inj hF
  subst hF
  exact ⟨.inr rfl, rfl, .tuple ⟨[ag [iv r84.1, iv r84.2.1], ag [iv r84.2.2.1, iv r84.2.2.2]]⟩, by kernel_rfl, WkV.flat0 (by kernel_rfl) (Nat.le_of_ble_eq_true rfl)⟩
theorem C62 (p0 : Int) (p1 : Int) (p2 : Int) (p3 : Int) (r : ((Int × Int) × (Int × Int))) (hF : F62 p0 p1 p2 p3 = some r) : PureSim Try.prog 62 [ag [iv p0, iv p1, iv p2, iv p3]] [] (V62 0 r) (N62 0 r) :=
  PureSim.of_Fin Try.func62 (c := c62) (by kernel_rfl) (by kernel_rfl) 0 rfl [0] [] (by kernel_rfl) (B62 p0 p1 p2 p3 r hF)

-- agonic/agonicref06.comes
noncomputable def c79 : Code := Try.f79.code
def F79 (p0 : Int) (p1 : Int) (p2 : Int) (p3 : Int) : Option Bool :=
  (
    if decide (p0 < p2) then
      some (true)
    else
      if p0 == p2 then
        some (decide (p1 < p3))
      else
        some (false)
  : Option Bool) >>= fun m3 =>
  some m3
def V79 (b : Nat) (r : Bool) : Value := .bool r
def N79 (b : Nat) (r : Bool) : List Blk := []
theorem B79 (p0 : Int) (p1 : Int) (p2 : Int) (p3 : Int) (r : Bool) (hF : F79 p0 p1 p2 p3 = some r) : TS Try.prog 0 0 c79 (st 24 [(0, ag [iv p0, iv p1]), (1, ag [iv p2, iv p3])]) [] (NX Try.prog 0 0 [] (FinP Try.prog Try.f79 0 (V79 0 r) (N79 0 r))) := by
  unfold F79 at hF
  refine TS.sq (TS.rg (TI.rn 3 [2, 3] [0, 1] (st 24 [(2, pt 0 0), (3, pt 1 0)]) [cl 41 [iv p0, iv p1], cl 41 [iv p2, iv p3]] (TI.dn (NX.sq (TS.sq ?_)))))
  have hX := of_do hF
  clear hF
  obtain ⟨m3, hm4, hF⟩ := hX
  have hK : NX Try.prog 0 0 [.sq c79.s2.s2] (FinP Try.prog Try.f79 0 (V79 0 r) (N79 0 r)) .normal (st 24 [(4, .bool m3)]) [.dead, .dead] := by
    refine NX.sq (TS.rt ?_)
    have hF := Option.some.inj hF
    subst hF
    exact ⟨.inr rfl, rfl, .bool m3, by kernel_rfl, WkV.flat0 (by kernel_rfl) (Nat.le_of_ble_eq_true rfl)⟩
  rcases Bool.eq_false_or_eq_true (decide (p0 < p2)) with hc1 | hc1
  · replace hm4 := of_pos hm4 hc1
    have hm4 := Option.some.inj hm4
    subst hm4
    exact TS.rg (TI.ra 4 [2, 3, 6, 8] (st 24 [(2, pt 0 0), (3, pt 1 0), (6, iv p0), (8, iv p2)]) (TI.o { val := .bool true } (q_conv (e := decide (p0 < p2)) (b := true) (by kernel_rfl) hc1) [2, 3, 9] [0, 1] (st 24 [(2, pt 0 0), (3, pt 1 0), (9, .bool true)]) [cl 41 [iv p0, iv p1], cl 41 [iv p2, iv p3]] (TI.rn 15 [4] [] (st 24 [(4, .bool true)]) [.dead, .dead] (TI.dn hK))))
  · replace hm4 := of_neg hm4 hc1
    rcases Bool.eq_false_or_eq_true (p0 == p2) with hc2 | hc2
    · replace hm4 := of_pos hm4 hc2
      have hm4 := Option.some.inj hm4
      subst hm4
      exact TS.rg (TI.ra 4 [2, 3, 6, 8] (st 24 [(2, pt 0 0), (3, pt 1 0), (6, iv p0), (8, iv p2)]) (TI.o { val := .bool false } (q_conv (e := decide (p0 < p2)) (b := false) (by kernel_rfl) hc1) [2, 3, 9] [0, 1] (st 24 [(2, pt 0 0), (3, pt 1 0), (9, .bool false)]) [cl 41 [iv p0, iv p1], cl 41 [iv p2, iv p3]] (TI.ra 5 [2, 3, 10, 12, 14] (st 24 [(2, pt 0 0), (3, pt 1 0), (10, .bool false), (12, iv p0), (14, iv p2)]) (TI.o { val := .bool true } (q_conv (e := p0 == p2) (b := true) (by kernel_rfl) hc2) [2, 3, 10, 15] [0, 1] (st 24 [(2, pt 0 0), (3, pt 1 0), (10, .bool false), (15, .bool true)]) [cl 41 [iv p0, iv p1], cl 41 [iv p2, iv p3]] (TI.rn 9 [4] [] (st 24 [(4, .bool (decide (p1 < p3)))]) [.dead, .dead] (TI.dn hK))))))
    · replace hm4 := of_neg hm4 hc2
      have hm4 := Option.some.inj hm4
      subst hm4
      exact TS.rg (TI.ra 4 [2, 3, 6, 8] (st 24 [(2, pt 0 0), (3, pt 1 0), (6, iv p0), (8, iv p2)]) (TI.o { val := .bool false } (q_conv (e := decide (p0 < p2)) (b := false) (by kernel_rfl) hc1) [2, 3, 9] [0, 1] (st 24 [(2, pt 0 0), (3, pt 1 0), (9, .bool false)]) [cl 41 [iv p0, iv p1], cl 41 [iv p2, iv p3]] (TI.ra 5 [2, 3, 10, 12, 14] (st 24 [(2, pt 0 0), (3, pt 1 0), (10, .bool false), (12, iv p0), (14, iv p2)]) (TI.o { val := .bool false } (q_conv (e := p0 == p2) (b := false) (by kernel_rfl) hc2) [2, 3, 10, 15] [0, 1] (st 24 [(2, pt 0 0), (3, pt 1 0), (10, .bool false), (15, .bool false)]) [cl 41 [iv p0, iv p1], cl 41 [iv p2, iv p3]] (TI.rn 9 [4] [] (st 24 [(4, .bool false)]) [.dead, .dead] (TI.dn hK))))))
theorem C79 (p0 : Int) (p1 : Int) (p2 : Int) (p3 : Int) (r : Bool) (hF : F79 p0 p1 p2 p3 = some r) : PureSim Try.prog 79 [ag [iv p0, iv p1], ag [iv p2, iv p3]] [] (V79 0 r) (N79 0 r) :=
  PureSim.of_Fin Try.func79 (c := c79) (by kernel_rfl) (by kernel_rfl) 0 rfl [0, 1] [] (by kernel_rfl) (B79 p0 p1 p2 p3 r hF)

-- agonic/agonicref06.all
noncomputable def c65 : Code := Try.f65.code
def S65_0 (m18 : (Int × Int × Int)) (v978 : (List (Int × Int))) (m954 : ((List (Int × Int)) × Int)) (v317 : Int) (v810 : Int) (v977 : Int) (o1008 : (Int × Int)) (o1011 : (Int × Int)) : CAct := (st 188 [(2, pt 0 0), (3, pt 1 0), (6, pt 2 0), (7, pt 3 0), (10, iv m18.1), (11, iv m18.2.1), (12, iv m18.2.2), (13, accV 4 (List.length v978)), (14, iv m954.2), (15, iv v317), (16, iv v810), (21, iv v977), (167, .bool true), (170, accV 4 (List.length v978)), (171, iv v977), (172, accV 4 (List.length v978)), (173, iv v977), (174, iv (w64 (v977 - 1))), (175, accV 4 (List.length v978)), (176, iv v977), (177, iv (w64 (v977 - 1))), (178, .pointer (some ⟨4, 0 + (Int.toNat (w64 (v977 - 1))) * 2, none⟩)), (179, ag [iv o1008.1, iv o1008.2]), (180, accV 4 (List.length v978)), (181, iv v977), (182, .pointer (some ⟨4, 0 + (Int.toNat v977) * 2, none⟩)), (183, ag [iv o1011.1, iv o1011.2]), (184, .pointer (some ⟨4, 0 + (Int.toNat v977) * 2, none⟩)), (185, .pointer (some ⟨4, 0 + (Int.toNat (w64 (v977 - 1))) * 2, none⟩))])
def S65_1 (m18 : (Int × Int × Int)) (v978 : (List (Int × Int))) (m954 : ((List (Int × Int)) × Int)) (v317 : Int) (v810 : Int) (v977 : Int) (o1008 : (Int × Int)) (o1011 : (Int × Int)) : CAct := (st 188 [(2, pt 0 0), (3, pt 1 0), (6, pt 2 0), (7, pt 3 0), (10, iv m18.1), (11, iv m18.2.1), (12, iv m18.2.2), (13, accV 4 (List.length v978)), (14, iv m954.2), (15, iv v317), (16, iv v810), (21, iv v977), (167, .bool true), (170, accV 4 (List.length v978)), (171, iv v977), (172, accV 4 (List.length v978)), (173, iv v977), (174, iv (w64 (v977 - 1))), (175, accV 4 (List.length v978)), (176, iv v977), (177, iv (w64 (v977 - 1))), (178, .pointer (some ⟨4, 0 + (Int.toNat (w64 (v977 - 1))) * 2, none⟩)), (179, ag [iv o1008.1, iv o1008.2]), (180, accV 4 (List.length v978)), (181, iv v977), (182, .pointer (some ⟨4, 0 + (Int.toNat v977) * 2, none⟩)), (183, ag [iv o1011.1, iv o1011.2]), (184, .pointer (some ⟨4, 0 + (Int.toNat v977) * 2, none⟩))])
def S65_2 (m18 : (Int × Int × Int)) (v978 : (List (Int × Int))) (m954 : ((List (Int × Int)) × Int)) (v317 : Int) (v810 : Int) (v977 : Int) (o1008 : (Int × Int)) (o1011 : (Int × Int)) : CAct := (st 188 [(2, pt 0 0), (3, pt 1 0), (6, pt 2 0), (7, pt 3 0), (10, iv m18.1), (11, iv m18.2.1), (12, iv m18.2.2), (13, accV 4 (List.length v978)), (14, iv m954.2), (15, iv v317), (16, iv v810), (21, iv v977), (167, .bool true), (170, accV 4 (List.length v978)), (171, iv v977), (172, accV 4 (List.length v978)), (173, iv v977), (174, iv (w64 (v977 - 1))), (175, accV 4 (List.length v978)), (176, iv v977), (177, iv (w64 (v977 - 1))), (178, .pointer (some ⟨4, 0 + (Int.toNat (w64 (v977 - 1))) * 2, none⟩)), (179, ag [iv o1008.1, iv o1008.2]), (180, accV 4 (List.length v978)), (181, iv v977), (182, .pointer (some ⟨4, 0 + (Int.toNat v977) * 2, none⟩)), (183, ag [iv o1011.1, iv o1011.2])])
def S65_3 (m18 : (Int × Int × Int)) (v978 : (List (Int × Int))) (m954 : ((List (Int × Int)) × Int)) (v317 : Int) (v810 : Int) (v977 : Int) (o1008 : (Int × Int)) : CAct := (st 188 [(2, pt 0 0), (3, pt 1 0), (6, pt 2 0), (7, pt 3 0), (10, iv m18.1), (11, iv m18.2.1), (12, iv m18.2.2), (13, accV 4 (List.length v978)), (14, iv m954.2), (15, iv v317), (16, iv v810), (21, iv v977), (167, .bool true), (170, accV 4 (List.length v978)), (171, iv v977), (172, accV 4 (List.length v978)), (173, iv v977), (174, iv (w64 (v977 - 1))), (175, accV 4 (List.length v978)), (176, iv v977), (177, iv (w64 (v977 - 1))), (178, .pointer (some ⟨4, 0 + (Int.toNat (w64 (v977 - 1))) * 2, none⟩)), (179, ag [iv o1008.1, iv o1008.2]), (180, accV 4 (List.length v978)), (181, iv v977), (182, .pointer (some ⟨4, 0 + (Int.toNat v977) * 2, none⟩))])
def S65_4 (m18 : (Int × Int × Int)) (v978 : (List (Int × Int))) (m954 : ((List (Int × Int)) × Int)) (v317 : Int) (v810 : Int) (v977 : Int) (o1008 : (Int × Int)) : CAct := (st 188 [(2, pt 0 0), (3, pt 1 0), (6, pt 2 0), (7, pt 3 0), (10, iv m18.1), (11, iv m18.2.1), (12, iv m18.2.2), (13, accV 4 (List.length v978)), (14, iv m954.2), (15, iv v317), (16, iv v810), (21, iv v977), (167, .bool true), (170, accV 4 (List.length v978)), (171, iv v977), (172, accV 4 (List.length v978)), (173, iv v977), (174, iv (w64 (v977 - 1))), (175, accV 4 (List.length v978)), (176, iv v977), (177, iv (w64 (v977 - 1))), (178, .pointer (some ⟨4, 0 + (Int.toNat (w64 (v977 - 1))) * 2, none⟩)), (179, ag [iv o1008.1, iv o1008.2]), (180, accV 4 (List.length v978)), (181, iv v977)])
def S65_5 (m18 : (Int × Int × Int)) (v978 : (List (Int × Int))) (m954 : ((List (Int × Int)) × Int)) (v317 : Int) (v810 : Int) (v977 : Int) (o1008 : (Int × Int)) : CAct := (st 188 [(2, pt 0 0), (3, pt 1 0), (6, pt 2 0), (7, pt 3 0), (10, iv m18.1), (11, iv m18.2.1), (12, iv m18.2.2), (13, accV 4 (List.length v978)), (14, iv m954.2), (15, iv v317), (16, iv v810), (21, iv v977), (167, .bool true), (170, accV 4 (List.length v978)), (171, iv v977), (172, accV 4 (List.length v978)), (173, iv v977), (174, iv (w64 (v977 - 1))), (175, accV 4 (List.length v978)), (176, iv v977), (177, iv (w64 (v977 - 1))), (178, .pointer (some ⟨4, 0 + (Int.toNat (w64 (v977 - 1))) * 2, none⟩)), (179, ag [iv o1008.1, iv o1008.2])])
def S65_6 (m18 : (Int × Int × Int)) (v978 : (List (Int × Int))) (m954 : ((List (Int × Int)) × Int)) (v317 : Int) (v810 : Int) (v977 : Int) : CAct := (st 188 [(2, pt 0 0), (3, pt 1 0), (6, pt 2 0), (7, pt 3 0), (10, iv m18.1), (11, iv m18.2.1), (12, iv m18.2.2), (13, accV 4 (List.length v978)), (14, iv m954.2), (15, iv v317), (16, iv v810), (21, iv v977), (167, .bool true), (170, accV 4 (List.length v978)), (171, iv v977), (172, accV 4 (List.length v978)), (173, iv v977), (174, iv (w64 (v977 - 1))), (175, accV 4 (List.length v978)), (176, iv v977), (177, iv (w64 (v977 - 1))), (178, .pointer (some ⟨4, 0 + (Int.toNat (w64 (v977 - 1))) * 2, none⟩))])
def S65_7 (m18 : (Int × Int × Int)) (v978 : (List (Int × Int))) (m954 : ((List (Int × Int)) × Int)) (v317 : Int) (v810 : Int) (v977 : Int) : CAct := (st 188 [(2, pt 0 0), (3, pt 1 0), (6, pt 2 0), (7, pt 3 0), (10, iv m18.1), (11, iv m18.2.1), (12, iv m18.2.2), (13, accV 4 (List.length v978)), (14, iv m954.2), (15, iv v317), (16, iv v810), (21, iv v977), (167, .bool true), (170, accV 4 (List.length v978)), (171, iv v977), (172, accV 4 (List.length v978)), (173, iv v977), (174, iv (w64 (v977 - 1))), (175, accV 4 (List.length v978)), (176, iv v977), (177, iv (w64 (v977 - 1)))])
def H65_8 (p0 : Int) (p1 : Int) (p2 : Int) (p3 : Int) (p4 : Int) (p5 : Int) (r1 : ((Int × Int) × (Int × Int))) (v808 : (List (Int × Int))) (v317 : Int) (v810 : Int) : List Blk := [cl 30 [iv p0, iv p1, iv p2, iv p3], cl 28 [iv p4, iv p5], cl 41 [iv r1.1.1, iv r1.1.2], cl 41 [iv r1.2.1, iv r1.2.2], accB 41 (List.length v808) (List.flatMap e41 v808), cl 41 [iv (w64 ((w64 (v317 * r1.1.1)) + (w64 (v810 * r1.2.1)))), iv (w64 ((w64 (v317 * r1.1.2)) + (w64 (v810 * r1.2.2))))], .dead, .dead]
def H65_9 (p0 : Int) (p1 : Int) (p2 : Int) (p3 : Int) (p4 : Int) (p5 : Int) (r1 : ((Int × Int) × (Int × Int))) (v978 : (List (Int × Int))) (v977 : Int) (o1008 : (Int × Int)) : List Blk := [cl 30 [iv p0, iv p1, iv p2, iv p3], cl 28 [iv p4, iv p5], cl 41 [iv r1.1.1, iv r1.1.2], cl 41 [iv r1.2.1, iv r1.2.2], .cells 41 (List.flatMap e41 (List.set v978 (Int.toNat v977) (o1008.1, o1008.2)))]
def S65_10 (m18 : (Int × Int × Int)) (r1017 : ((List (Int × Int)) × Int)) (v317 : Int) : CAct := (st 188 [(2, pt 0 0), (3, pt 1 0), (6, pt 2 0), (7, pt 3 0), (10, iv m18.1), (11, iv m18.2.1), (12, iv m18.2.2), (13, accV 4 (List.length r1017.1)), (14, iv r1017.2), (15, iv (w64 (v317 + 1)))])
def H65_11 (p0 : Int) (p1 : Int) (p2 : Int) (p3 : Int) (p4 : Int) (p5 : Int) (r1 : ((Int × Int) × (Int × Int))) (v978 : (List (Int × Int))) : List Blk := [cl 30 [iv p0, iv p1, iv p2, iv p3], cl 28 [iv p4, iv p5], cl 41 [iv r1.1.1, iv r1.1.2], cl 41 [iv r1.2.1, iv r1.2.2], accB 41 (List.length v978) (List.flatMap e41 v978)]
def H65_12 (p0 : Int) (p1 : Int) (p2 : Int) (p3 : Int) (p4 : Int) (p5 : Int) (r1 : ((Int × Int) × (Int × Int))) (v318 : (List (Int × Int))) : List Blk := [cl 30 [iv p0, iv p1, iv p2, iv p3], cl 28 [iv p4, iv p5], cl 41 [iv r1.1.1, iv r1.1.2], cl 41 [iv r1.2.1, iv r1.2.2], accB 41 (List.length v318) (List.flatMap e41 v318)]
def H65_13 (p0 : Int) (p1 : Int) (p2 : Int) (p3 : Int) (p4 : Int) (p5 : Int) (r1 : ((Int × Int) × (Int × Int))) : List Blk := [cl 30 [iv p0, iv p1, iv p2, iv p3], cl 28 [iv p4, iv p5], cl 41 [iv r1.1.1, iv r1.1.2], cl 41 [iv r1.2.1, iv r1.2.2], .dead, .dead]
def H65_14 (p0 : Int) (p1 : Int) (p2 : Int) (p3 : Int) (p4 : Int) (p5 : Int) (r1 : ((Int × Int) × (Int × Int))) : List Blk := [cl 30 [iv p0, iv p1, iv p2, iv p3], cl 28 [iv p4, iv p5], cl 41 [iv r1.1.1, iv r1.1.2], cl 41 [iv r1.2.1, iv r1.2.2]]
def F65l2 (p0 : Int) (p1 : Int) (p2 : Int) (p3 : Int) (p4 : Int) (p5 : Int) (m18 : (Int × Int × Int)) (m954 : ((List (Int × Int)) × Int)) (r1 : ((Int × Int) × (Int × Int))) (v317 : Int) (v810 : Int) (v977 : Int) (v978 : (List (Int × Int))) : Option (List (Int × Int)) :=
    (
      if decide (v977 > 0) then
        if (0 : Int) ≤ v977 ∧ v977 < (List.length v978 : Int) then
          some (List.getD v978 (Int.toNat v977) (0, 0)) >>= fun o999 =>
          if (0 : Int) ≤ w64 (v977 - 1) ∧ w64 (v977 - 1) < (List.length v978 : Int) then
            some (List.getD v978 (Int.toNat (w64 (v977 - 1))) (0, 0)) >>= fun o1002 =>
            F79 o999.1 o999.2 o1002.1 o1002.2 >>= fun r1004 =>
            some (r1004)
          else none
        else none
      else
        some (false)
    : Option Bool) >>= fun m1006 =>
    if m1006 then
      if (0 : Int) ≤ w64 (v977 - 1) ∧ w64 (v977 - 1) < (List.length v978 : Int) then
        some (List.getD v978 (Int.toNat (w64 (v977 - 1))) (0, 0)) >>= fun o1008 =>
        if (0 : Int) ≤ v977 ∧ v977 < (List.length v978 : Int) then
          some (List.getD v978 (Int.toNat v977) (0, 0)) >>= fun o1011 =>
          F65l2 p0 p1 p2 p3 p4 p5 m18 m954 r1 v317 v810 (w64 (v977 - 1)) (List.set (List.set v978 (Int.toNat v977) (o1008.1, o1008.2)) (Int.toNat (w64 (v977 - 1))) (o1011.1, o1011.2))
        else none
      else none
    else
      some v978
  partial_fixpoint
def F65l1 (p0 : Int) (p1 : Int) (p2 : Int) (p3 : Int) (p4 : Int) (p5 : Int) (m18 : (Int × Int × Int)) (r1 : ((Int × Int) × (Int × Int))) (v317 : Int) (v809 : Int) (v810 : Int) (v808 : (List (Int × Int))) : Option ((List (Int × Int)) × Int) :=
    F74 m18.2.2 m18.1 >>= fun r942 =>
    if decide (v810 ≤ (w64 (r942 + 3))) then
      F57 p0 p1 p2 p3 (w64 ((w64 (v317 * r1.1.1)) + (w64 (v810 * r1.2.1)))) (w64 ((w64 (v317 * r1.1.2)) + (w64 (v810 * r1.2.2)))) >>= fun r945 =>
      F64 (w64 (p4 + r945.1)) (w64 (p5 + r945.2)) (w64 (p4 + r945.1)) (w64 (p5 + r945.2)) >>= fun r947 =>
      (
        if decide (v809 < 0) then
          some (true)
        else
          some (decide (r947 < v809))
      : Option Bool) >>= fun m950 =>
      (
        if m950 then
          some ([], r947)
        else
          some (v808, v809)
      : Option ((List (Int × Int)) × Int)) >>= fun m954 =>
      if decide (r947 > m954.2) then
        F65l1 p0 p1 p2 p3 p4 p5 m18 r1 v317 m954.2 (w64 (v810 + 1)) m954.1
      else
        if List.length m954.1 ≤ 1000000000 then
          some (List.length (m954.1 ++ [(w64 ((w64 (v317 * r1.1.1)) + (w64 (v810 * r1.2.1))), w64 ((w64 (v317 * r1.1.2)) + (w64 (v810 * r1.2.2))))]) : Int) >>= fun o958 =>
          F65l2 p0 p1 p2 p3 p4 p5 m18 m954 r1 v317 v810 (w64 (o958 - 1)) (m954.1 ++ [(w64 ((w64 (v317 * r1.1.1)) + (w64 (v810 * r1.2.1))), w64 ((w64 (v317 * r1.1.2)) + (w64 (v810 * r1.2.2))))]) >>= fun r1014 =>
          F65l1 p0 p1 p2 p3 p4 p5 m18 r1 v317 m954.2 (w64 (v810 + 1)) r1014
        else none
    else
      some (v808, v809)
  partial_fixpoint
def F65l0 (p0 : Int) (p1 : Int) (p2 : Int) (p3 : Int) (p4 : Int) (p5 : Int) (m18 : (Int × Int × Int)) (r1 : ((Int × Int) × (Int × Int))) (v318 : (List (Int × Int))) (v316 : Int) (v317 : Int) : Option ((List (Int × Int)) × Int) :=
    F74 m18.2.1 m18.1 >>= fun r670 =>
    if decide (v317 ≤ (w64 (r670 + 3))) then
      F74 m18.2.2 m18.1 >>= fun r673 =>
      F65l1 p0 p1 p2 p3 p4 p5 m18 r1 v317 v316 (w64 (r673 - 2)) v318 >>= fun r1017 =>
      F65l0 p0 p1 p2 p3 p4 p5 m18 r1 r1017.1 r1017.2 (w64 (v317 + 1))
    else
      some (v318, v316)
  partial_fixpoint
def F65 (p0 : Int) (p1 : Int) (p2 : Int) (p3 : Int) (p4 : Int) (p5 : Int) : Option ((List (Int × Int)) × Int) :=
  F62 p0 p1 p2 p3 >>= fun r1 =>
  F57 p0 p1 p2 p3 r1.1.1 r1.1.2 >>= fun r3 =>
  F57 p0 p1 p2 p3 r1.2.1 r1.2.2 >>= fun r5 =>
  (
    if decide ((w64 ((w64 (r3.1 * r5.2)) - (w64 (r3.2 * r5.1)))) < 0) then
      some (w64 (0 - (w64 (0 - (w64 ((w64 (p4 * r5.2)) - (w64 (p5 * r5.1)))))))) >>= fun o1022 =>
      some (w64 (0 - (w64 (0 - (w64 ((w64 (r3.1 * p5)) - (w64 (r3.2 * p4)))))))) >>= fun o1024 =>
      some (w64 (0 - (w64 ((w64 (r3.1 * r5.2)) - (w64 (r3.2 * r5.1))))), o1022, o1024)
    else
      some (w64 ((w64 (r3.1 * r5.2)) - (w64 (r3.2 * r5.1))), w64 (0 - (w64 ((w64 (p4 * r5.2)) - (w64 (p5 * r5.1))))), w64 (0 - (w64 ((w64 (r3.1 * p5)) - (w64 (r3.2 * p4))))))
  : Option (Int × Int × Int)) >>= fun m18 =>
  F74 m18.2.1 m18.1 >>= fun r20 =>
  F65l0 p0 p1 p2 p3 p4 p5 m18 r1 ([]) (-1) (w64 (r20 - 2)) >>= fun r1019 =>
  some (r1019.1, r1019.2)
def V65 (b : Nat) (r : ((List (Int × Int)) × Int)) : Value := .tuple ⟨[accV (b + 0) (List.length r.1), iv r.2]⟩
def N65 (b : Nat) (r : ((List (Int × Int)) × Int)) : List Blk := [accB 41 (List.length r.1) (List.flatMap e41 r.1)]
def P65l2 (p0 : Int) (p1 : Int) (p2 : Int) (p3 : Int) (p4 : Int) (p5 : Int) (m18 : (Int × Int × Int)) (m954 : ((List (Int × Int)) × Int)) (r1 : ((Int × Int) × (Int × Int))) (v317 : Int) (v810 : Int) (r : (List (Int × Int))) : Post := fun e a h => e = .exit 4 ∧ Wk Try.prog 0 0 a h (st 188 [(2, pt 0 0), (3, pt 1 0), (6, pt 2 0), (7, pt 3 0), (10, iv m18.1), (11, iv m18.2.1), (12, iv m18.2.2), (13, accV 4 (List.length r)), (14, iv m954.2), (15, iv v317), (16, iv v810)]) [cl 30 [iv p0, iv p1, iv p2, iv p3], cl 28 [iv p4, iv p5], cl 41 [iv r1.1.1, iv r1.1.2], cl 41 [iv r1.2.1, iv r1.2.2], accB 41 (List.length r) (List.flatMap e41 r)]
theorem L65l2 (p0 : Int) (p1 : Int) (p2 : Int) (p3 : Int) (p4 : Int) (p5 : Int) (m18 : (Int × Int × Int)) (m954 : ((List (Int × Int)) × Int)) (r1 : ((Int × Int) × (Int × Int))) (v317 : Int) (v810 : Int) (v977 : Int) (v978 : (List (Int × Int))) (r : (List (Int × Int))) (hF : F65l2 p0 p1 p2 p3 p4 p5 m18 m954 r1 v317 v810 v977 v978 = some r) : TL Try.prog 0 0 c65.s2.s2.s2.s2.s2.s2.s2.s2.s1.s2.bd.bd.s2.s1.bd.s2.bd.bd.s2.s1.bd.s2.s2.s2.s2.s2.s2.s2.s2.bd.bd (st 188 [(2, pt 0 0), (3, pt 1 0), (6, pt 2 0), (7, pt 3 0), (10, iv m18.1), (11, iv m18.2.1), (12, iv m18.2.2), (13, accV 4 (List.length v978)), (14, iv m954.2), (15, iv v317), (16, iv v810), (21, iv v977)]) (H65_11 p0 p1 p2 p3 p4 p5 r1 v978) (P65l2 p0 p1 p2 p3 p4 p5 m18 m954 r1 v317 v810 r) := by
  refine F65l2.partial_correctness p0 p1 p2 p3 p4 p5 m18 m954 r1 v317 v810 (motive := fun v977 v978 r => TL Try.prog 0 0 c65.s2.s2.s2.s2.s2.s2.s2.s2.s1.s2.bd.bd.s2.s1.bd.s2.bd.bd.s2.s1.bd.s2.s2.s2.s2.s2.s2.s2.s2.bd.bd (st 188 [(2, pt 0 0), (3, pt 1 0), (6, pt 2 0), (7, pt 3 0), (10, iv m18.1), (11, iv m18.2.1), (12, iv m18.2.2), (13, accV 4 (List.length v978)), (14, iv m954.2), (15, iv v317), (16, iv v810), (21, iv v977)]) (H65_11 p0 p1 p2 p3 p4 p5 r1 v978) (P65l2 p0 p1 p2 p3 p4 p5 m18 m954 r1 v317 v810 r)) ?_ v977 v978 r hF
  clear hF r v977 v978
  intro again ih v977 v978 r hF
  refine TL.round (TS.sq (TS.sq ?_))
  have hX := of_do hF
  clear hF
  obtain ⟨m1006, hm1013, hF⟩ := hX
  have hK : NX Try.prog 0 0 [.sq c65.s2.s2.s2.s2.s2.s2.s2.s2.s1.s2.bd.bd.s2.s1.bd.s2.bd.bd.s2.s1.bd.s2.s2.s2.s2.s2.s2.s2.s2.bd.bd.s1.s2, .sq c65.s2.s2.s2.s2.s2.s2.s2.s2.s1.s2.bd.bd.s2.s1.bd.s2.bd.bd.s2.s1.bd.s2.s2.s2.s2.s2.s2.s2.s2.bd.bd.s2] (Rd Try.prog 0 0 c65.s2.s2.s2.s2.s2.s2.s2.s2.s1.s2.bd.bd.s2.s1.bd.s2.bd.bd.s2.s1.bd.s2.s2.s2.s2.s2.s2.s2.s2.bd.bd (P65l2 p0 p1 p2 p3 p4 p5 m18 m954 r1 v317 v810 r)) .normal (st 188 [(2, pt 0 0), (3, pt 1 0), (6, pt 2 0), (7, pt 3 0), (10, iv m18.1), (11, iv m18.2.1), (12, iv m18.2.2), (13, accV 4 (List.length v978)), (14, iv m954.2), (15, iv v317), (16, iv v810), (21, iv v977), (167, .bool m1006)]) (H65_11 p0 p1 p2 p3 p4 p5 r1 v978) := by
    refine NX.sq ?_
    cases m1006 with
    | true =>
      replace hF := of_pos hF rfl
      refine TS.cdT (.tmp 167) (TS.sk (NX.sq (TS.sq (TS.bk 5 ?_))))
      have hX := of_guard hF
      clear hF
      obtain ⟨hg1007, hF⟩ := hX
      have hX := of_do hF
      clear hF
      obtain ⟨o1008, h1009, hF⟩ := hX
      replace h1009 := Option.some.inj h1009
      have hX := of_guard hF
      clear hF
      obtain ⟨hg1010, hF⟩ := hX
      have hX := of_do hF
      clear hF
      obtain ⟨o1011, h1012, hF⟩ := hX
      replace h1012 := Option.some.inj h1012
      refine TS.drawE (id := 26) (b := true) (ops := c65.s2.s2.s2.s2.s2.s2.s2.s2.s1.s2.bd.bd.s2.s1.bd.s2.bd.bd.s2.s1.bd.s2.s2.s2.s2.s2.s2.s2.s2.bd.bd.s2.s1.bd.rops) (fin := (qs (S65_1 m18 v978 m954 v317 v810 v977 o1008 o1011) (H65_9 p0 p1 p2 p3 p4 p5 r1 v978 v977 o1008) [] [(15, 4)])) (fin2 := (qs (S65_1 m18 v978 m954 v317 v810 v977 o1008 o1011) (H65_9 p0 p1 p2 p3 p4 p5 r1 v978 v977 o1008) [] [(15, 4)])) (a1 := (S65_0 m18 v978 m954 v317 v810 v977 o1008 o1011)) (h1 := [cl 30 [iv p0, iv p1, iv p2, iv p3], cl 28 [iv p4, iv p5], cl 41 [iv r1.1.1, iv r1.1.2], cl 41 [iv r1.2.1, iv r1.2.2], .cells 41 (List.flatMap e41 (List.set (List.set v978 (Int.toNat v977) (o1008.1, o1008.2)) (Int.toNat (w64 (v977 - 1))) (o1011.1, o1011.2)))]) [] (fun e he => by cases he) mixed (by kernel_rfl) rfl 16 (by kernel_rfl) [(15, 4)] ?_ rfl (.inr ⟨?_, (by kernel_rfl)⟩) ?_ ?_
      · refine QI.run (s1 := (qs (S65_7 m18 v978 m954 v317 v810 v977) (H65_11 p0 p1 p2 p3 p4 p5 r1 v978) [] [])) 8 (by kernel_rfl) (by kernel_rfl) (QI.op (q := { val := .pointer (some ⟨4, 0 + (Int.toNat (w64 (v977 - 1))) * 2, none⟩) }) (s1 := (qs (S65_6 m18 v978 m954 v317 v810 v977) (H65_11 p0 p1 p2 p3 p4 p5 r1 v978) [] [])) (by decide) (q_ixAcc (P := Try.prog) (t := 63) (s := 2) (e := 41) 4 (List.length v978) (by kernel_rfl) hg1007 (by kernel_rfl) (by kernel_rfl)) (by kernel_rfl) ?_)
        refine QI.op (q := { val := ag [iv o1008.1, iv o1008.2] }) (s1 := (qs (S65_5 m18 v978 m954 v317 v810 v977 o1008) (H65_11 p0 p1 p2 p3 p4 p5 r1 v978) [] [])) (by decide) (q_eqv (q_ldA (P := Try.prog) (hp := (H65_11 p0 p1 p2 p3 p4 p5 r1 v978)) (t := 41) (b := 4) (off := 0 + (Int.toNat (w64 (v977 - 1))) * 2) (l := v978) (enc := e41) (s := 2) (T := 41) (i := Int.toNat (w64 (v977 - 1))) (by kernel_rfl) (accB_at (h := (H65_11 p0 p1 p2 p3 p4 p5 r1 v978)) (n := List.length v978) (i := Int.toNat (w64 (v977 - 1))) (by kernel_rfl) (by first | omega | (simp only [List.length_set, List.length_replicate, List.length_cons, List.length_nil, List.length_append]; omega))) (by kernel_rfl) (by kernel_rfl) (fun _ => rfl) (by omega) (by first | omega | (simp only [List.length_set, List.length_replicate, List.length_cons, List.length_nil, List.length_append]; omega)) (0, 0)) (congrArg (fun (z : (Int × Int)) => ({ val := ag [iv z.1, iv z.2] } : QRes)) h1009)) (by kernel_rfl) (QI.run (s1 := (qs (S65_4 m18 v978 m954 v317 v810 v977 o1008) (H65_11 p0 p1 p2 p3 p4 p5 r1 v978) [] [])) 2 (by kernel_rfl) (by kernel_rfl) (QI.op (q := { val := .pointer (some ⟨4, 0 + (Int.toNat v977) * 2, none⟩) }) (s1 := (qs (S65_3 m18 v978 m954 v317 v810 v977 o1008) (H65_11 p0 p1 p2 p3 p4 p5 r1 v978) [] [])) (by decide) (q_ixAcc (P := Try.prog) (t := 63) (s := 2) (e := 41) 4 (List.length v978) (by kernel_rfl) hg1010 (by kernel_rfl) (by kernel_rfl)) (by kernel_rfl) ?_))
        refine QI.op (q := { val := ag [iv o1011.1, iv o1011.2] }) (s1 := (qs (S65_2 m18 v978 m954 v317 v810 v977 o1008 o1011) (H65_11 p0 p1 p2 p3 p4 p5 r1 v978) [] [])) (by decide) (q_eqv (q_ldA (P := Try.prog) (hp := (H65_11 p0 p1 p2 p3 p4 p5 r1 v978)) (t := 41) (b := 4) (off := 0 + (Int.toNat v977) * 2) (l := v978) (enc := e41) (s := 2) (T := 41) (i := Int.toNat v977) (by kernel_rfl) (accB_at (h := (H65_11 p0 p1 p2 p3 p4 p5 r1 v978)) (n := List.length v978) (i := Int.toNat v977) (by kernel_rfl) (by first | omega | (simp only [List.length_set, List.length_replicate, List.length_cons, List.length_nil, List.length_append]; omega))) (by kernel_rfl) (by kernel_rfl) (fun _ => rfl) (by omega) (by first | omega | (simp only [List.length_set, List.length_replicate, List.length_cons, List.length_nil, List.length_append]; omega)) (0, 0)) (congrArg (fun (z : (Int × Int)) => ({ val := ag [iv z.1, iv z.2] } : QRes)) h1012)) (by kernel_rfl) (QI.op (q := { val := .pointer (some ⟨4, 0 + (Int.toNat v977) * 2, none⟩) }) (s1 := (qs (S65_1 m18 v978 m954 v317 v810 v977 o1008 o1011) (H65_11 p0 p1 p2 p3 p4 p5 r1 v978) [] [])) (by decide) (q_ixAcc (P := Try.prog) (t := 63) (s := 2) (e := 41) 4 (List.length v978) (by kernel_rfl) hg1010 (by kernel_rfl) (by kernel_rfl)) (by kernel_rfl) ?_)
        exact QI.op (q := { val := undef, upd := some (4, .cells 41 (List.flatMap e41 (List.set v978 (Int.toNat v977) (o1008.1, o1008.2)))) }) (s1 := (qs (S65_1 m18 v978 m954 v317 v810 v977 o1008 o1011) (H65_9 p0 p1 p2 p3 p4 p5 r1 v978 v977 o1008) [] [(15, 4)])) (by decide) (q_st (P := Try.prog) (base := 0) (hp := (H65_11 p0 p1 p2 p3 p4 p5 r1 v978)) (t := 41) (b := 4) (off := 0 + (Int.toNat v977) * 2) (l := v978) (enc := e41) (s := 2) (T := 41) (i := Int.toNat v977) (k := 0) (n := 2) (y := ag [iv o1008.1, iv o1008.2]) (xs := [iv o1008.1, iv o1008.2]) (0, 0) (o1008.1, o1008.2) (by kernel_rfl) (accB_at (h := (H65_11 p0 p1 p2 p3 p4 p5 r1 v978)) (n := List.length v978) (i := Int.toNat v977) (by kernel_rfl) (by first | omega | (simp only [List.length_set, List.length_replicate, List.length_cons, List.length_nil, List.length_append]; omega))) (by decide) (by kernel_rfl) (by kernel_rfl) rfl (by kernel_rfl) (fun _ => rfl) (by omega) (Nat.le_of_ble_eq_true rfl) (by first | omega | (simp only [List.length_set, List.length_replicate, List.length_cons, List.length_nil, List.length_append]; omega)) rfl) (by kernel_rfl) (QI.done (by kernel_rfl))
      · refine QI.run (s1 := (qs (S65_7 m18 v978 m954 v317 v810 v977) (H65_11 p0 p1 p2 p3 p4 p5 r1 v978) [] [])) 8 (by kernel_rfl) (by kernel_rfl) (QI.op (q := { val := .pointer (some ⟨4, 0 + (Int.toNat (w64 (v977 - 1))) * 2, none⟩) }) (s1 := (qs (S65_6 m18 v978 m954 v317 v810 v977) (H65_11 p0 p1 p2 p3 p4 p5 r1 v978) [] [])) (by decide) (q_ixAcc (P := Try.prog) (t := 63) (s := 2) (e := 41) 4 (List.length v978) (by kernel_rfl) hg1007 (by kernel_rfl) (by kernel_rfl)) (by kernel_rfl) ?_)
        refine QI.op (q := { val := ag [iv o1008.1, iv o1008.2] }) (s1 := (qs (S65_5 m18 v978 m954 v317 v810 v977 o1008) (H65_11 p0 p1 p2 p3 p4 p5 r1 v978) [] [])) (by decide) (q_eqv (q_ldA (P := Try.prog) (hp := (H65_11 p0 p1 p2 p3 p4 p5 r1 v978)) (t := 41) (b := 4) (off := 0 + (Int.toNat (w64 (v977 - 1))) * 2) (l := v978) (enc := e41) (s := 2) (T := 41) (i := Int.toNat (w64 (v977 - 1))) (by kernel_rfl) (accB_at (h := (H65_11 p0 p1 p2 p3 p4 p5 r1 v978)) (n := List.length v978) (i := Int.toNat (w64 (v977 - 1))) (by kernel_rfl) (by first | omega | (simp only [List.length_set, List.length_replicate, List.length_cons, List.length_nil, List.length_append]; omega))) (by kernel_rfl) (by kernel_rfl) (fun _ => rfl) (by omega) (by first | omega | (simp only [List.length_set, List.length_replicate, List.length_cons, List.length_nil, List.length_append]; omega)) (0, 0)) (congrArg (fun (z : (Int × Int)) => ({ val := ag [iv z.1, iv z.2] } : QRes)) h1009)) (by kernel_rfl) (QI.run (s1 := (qs (S65_4 m18 v978 m954 v317 v810 v977 o1008) (H65_11 p0 p1 p2 p3 p4 p5 r1 v978) [] [])) 2 (by kernel_rfl) (by kernel_rfl) (QI.op (q := { val := .pointer (some ⟨4, 0 + (Int.toNat v977) * 2, none⟩) }) (s1 := (qs (S65_3 m18 v978 m954 v317 v810 v977 o1008) (H65_11 p0 p1 p2 p3 p4 p5 r1 v978) [] [])) (by decide) (q_ixAcc (P := Try.prog) (t := 63) (s := 2) (e := 41) 4 (List.length v978) (by kernel_rfl) hg1010 (by kernel_rfl) (by kernel_rfl)) (by kernel_rfl) ?_))
        refine QI.op (q := { val := ag [iv o1011.1, iv o1011.2] }) (s1 := (qs (S65_2 m18 v978 m954 v317 v810 v977 o1008 o1011) (H65_11 p0 p1 p2 p3 p4 p5 r1 v978) [] [])) (by decide) (q_eqv (q_ldA (P := Try.prog) (hp := (H65_11 p0 p1 p2 p3 p4 p5 r1 v978)) (t := 41) (b := 4) (off := 0 + (Int.toNat v977) * 2) (l := v978) (enc := e41) (s := 2) (T := 41) (i := Int.toNat v977) (by kernel_rfl) (accB_at (h := (H65_11 p0 p1 p2 p3 p4 p5 r1 v978)) (n := List.length v978) (i := Int.toNat v977) (by kernel_rfl) (by first | omega | (simp only [List.length_set, List.length_replicate, List.length_cons, List.length_nil, List.length_append]; omega))) (by kernel_rfl) (by kernel_rfl) (fun _ => rfl) (by omega) (by first | omega | (simp only [List.length_set, List.length_replicate, List.length_cons, List.length_nil, List.length_append]; omega)) (0, 0)) (congrArg (fun (z : (Int × Int)) => ({ val := ag [iv z.1, iv z.2] } : QRes)) h1012)) (by kernel_rfl) (QI.op (q := { val := .pointer (some ⟨4, 0 + (Int.toNat v977) * 2, none⟩) }) (s1 := (qs (S65_1 m18 v978 m954 v317 v810 v977 o1008 o1011) (H65_11 p0 p1 p2 p3 p4 p5 r1 v978) [] [])) (by decide) (q_ixAcc (P := Try.prog) (t := 63) (s := 2) (e := 41) 4 (List.length v978) (by kernel_rfl) hg1010 (by kernel_rfl) (by kernel_rfl)) (by kernel_rfl) ?_)
        exact QI.op (q := { val := undef, upd := some (4, .cells 41 (List.flatMap e41 (List.set v978 (Int.toNat v977) (o1008.1, o1008.2)))) }) (s1 := (qs (S65_1 m18 v978 m954 v317 v810 v977 o1008 o1011) (H65_9 p0 p1 p2 p3 p4 p5 r1 v978 v977 o1008) [] [(15, 4)])) (by decide) (q_st (P := Try.prog) (base := 0) (hp := (H65_11 p0 p1 p2 p3 p4 p5 r1 v978)) (t := 41) (b := 4) (off := 0 + (Int.toNat v977) * 2) (l := v978) (enc := e41) (s := 2) (T := 41) (i := Int.toNat v977) (k := 0) (n := 2) (y := ag [iv o1008.1, iv o1008.2]) (xs := [iv o1008.1, iv o1008.2]) (0, 0) (o1008.1, o1008.2) (by kernel_rfl) (accB_at (h := (H65_11 p0 p1 p2 p3 p4 p5 r1 v978)) (n := List.length v978) (i := Int.toNat v977) (by kernel_rfl) (by first | omega | (simp only [List.length_set, List.length_replicate, List.length_cons, List.length_nil, List.length_append]; omega))) (by decide) (by kernel_rfl) (by kernel_rfl) rfl (by kernel_rfl) (fun _ => rfl) (by omega) (Nat.le_of_ble_eq_true rfl) (by first | omega | (simp only [List.length_set, List.length_replicate, List.length_cons, List.length_nil, List.length_append]; omega)) rfl) (by kernel_rfl) (QI.done (by kernel_rfl))
      · refine SI.op (q := { val := .pointer (some ⟨4, 0 + (Int.toNat (w64 (v977 - 1))) * 2, none⟩) }) (a2 := (S65_0 m18 v978 m954 v317 v810 v977 o1008 o1011)) (h2 := (H65_9 p0 p1 p2 p3 p4 p5 r1 v978 v977 o1008)) (by kernel_rfl) (q_ixAcc (P := Try.prog) (t := 63) (s := 2) (e := 41) 4 (List.length v978) (by kernel_rfl) hg1007 (by kernel_rfl) (by kernel_rfl)) (by kernel_rfl) (by kernel_rfl) ?_
        exact SI.op (q := { val := undef, upd := some (4, .cells 41 (List.flatMap e41 (List.set (List.set v978 (Int.toNat v977) (o1008.1, o1008.2)) (Int.toNat (w64 (v977 - 1))) (o1011.1, o1011.2)))) }) (a2 := (S65_0 m18 v978 m954 v317 v810 v977 o1008 o1011)) (h2 := [cl 30 [iv p0, iv p1, iv p2, iv p3], cl 28 [iv p4, iv p5], cl 41 [iv r1.1.1, iv r1.1.2], cl 41 [iv r1.2.1, iv r1.2.2], .cells 41 (List.flatMap e41 (List.set (List.set v978 (Int.toNat v977) (o1008.1, o1008.2)) (Int.toNat (w64 (v977 - 1))) (o1011.1, o1011.2)))]) (by kernel_rfl) (q_st (P := Try.prog) (base := 0) (hp := (H65_9 p0 p1 p2 p3 p4 p5 r1 v978 v977 o1008)) (t := 41) (b := 4) (off := 0 + (Int.toNat (w64 (v977 - 1))) * 2) (l := List.set v978 (Int.toNat v977) (o1008.1, o1008.2)) (enc := e41) (s := 2) (T := 41) (i := Int.toNat (w64 (v977 - 1))) (k := 0) (n := 2) (y := ag [iv o1011.1, iv o1011.2]) (xs := [iv o1011.1, iv o1011.2]) (0, 0) (o1011.1, o1011.2) (by kernel_rfl) (by kernel_rfl) (by decide) (by kernel_rfl) (by kernel_rfl) rfl (by kernel_rfl) (fun _ => rfl) (by omega) (Nat.le_of_ble_eq_true rfl) (by first | omega | (simp only [List.length_set, List.length_replicate, List.length_cons, List.length_nil, List.length_append]; omega)) rfl) (by kernel_rfl) (by kernel_rfl) (SI.done (by kernel_rfl))
      refine NX.bk (NX.sq (TS.rg (TI.ra 3 [2, 3, 6, 7, 10, 11, 12, 13, 14, 15, 16, 21] (st 188 [(2, pt 0 0), (3, pt 1 0), (6, pt 2 0), (7, pt 3 0), (10, iv m18.1), (11, iv m18.2.1), (12, iv m18.2.2), (13, accV 4 (List.length v978)), (14, iv m954.2), (15, iv v317), (16, iv v810), (21, iv (w64 (v977 - 1)))]) (TI.dn ?_))))
      exact Rd.again (a2 := (st 188 [(2, pt 0 0), (3, pt 1 0), (6, pt 2 0), (7, pt 3 0), (10, iv m18.1), (11, iv m18.2.1), (12, iv m18.2.2), (13, accV 4 (List.length (List.set (List.set v978 (Int.toNat v977) (o1008.1, o1008.2)) (Int.toNat (w64 (v977 - 1))) (o1011.1, o1011.2)))), (14, iv m954.2), (15, iv v317), (16, iv v810), (21, iv (w64 (v977 - 1)))])) (h2 := [cl 30 [iv p0, iv p1, iv p2, iv p3], cl 28 [iv p4, iv p5], cl 41 [iv r1.1.1, iv r1.1.2], cl 41 [iv r1.2.1, iv r1.2.2], accB 41 (List.length (List.set (List.set v978 (Int.toNat v977) (o1008.1, o1008.2)) (Int.toNat (w64 (v977 - 1))) (o1011.1, o1011.2))) (List.flatMap e41 (List.set (List.set v978 (Int.toNat v977) (o1008.1, o1008.2)) (Int.toNat (w64 (v977 - 1))) (o1011.1, o1011.2)))]) (Wk.anew (base := 0) (L := 0) (f := [0, 1, 2, 3, 4]) (by decide) (by decide) (Nat.le_of_ble_eq_true rfl) rfl (.cons (At.blk (by kernel_rfl) (RnB.lit (.cons (.flat (by kernel_rfl)) (.cons (.flat (by kernel_rfl)) (.cons (.flat (by kernel_rfl)) (.cons (.flat (by kernel_rfl)) .nil)))))) (.cons (At.blk (by kernel_rfl) (RnB.lit (.cons (.flat (by kernel_rfl)) (.cons (.flat (by kernel_rfl)) .nil)))) (.cons (At.blk (by kernel_rfl) (RnB.lit (.cons (.flat (by kernel_rfl)) (.cons (.flat (by kernel_rfl)) .nil)))) (.cons (At.blk (by kernel_rfl) (RnB.lit (.cons (.flat (by kernel_rfl)) (.cons (.flat (by kernel_rfl)) .nil)))) (.cons (At.accU (by kernel_rfl) rfl (fun _ => rfl)) (.nil _)))))) (LRn.stx [2, 3, 6, 7, 10, 11, 12, 13, 14, 15, 16, 21] [pt 0 0, pt 1 0, pt 2 0, pt 3 0, iv m18.1, iv m18.2.1, iv m18.2.2, accV 4 (List.length (List.set (List.set v978 (Int.toNat v977) (o1008.1, o1008.2)) (Int.toNat (w64 (v977 - 1))) (o1011.1, o1011.2))), iv m954.2, iv v317, iv v810, iv (w64 (v977 - 1))] [pt 0 0, pt 1 0, pt 2 0, pt 3 0, iv m18.1, iv m18.2.1, iv m18.2.2, accV 4 (List.length v978), iv m954.2, iv v317, iv v810, iv (w64 (v977 - 1))] (.cons (Rn.ptr _ _ _ (Nat.le_of_ble_eq_true rfl) rfl) (.cons (Rn.ptr _ _ _ (Nat.le_of_ble_eq_true rfl) rfl) (.cons (Rn.ptr _ _ _ (Nat.le_of_ble_eq_true rfl) rfl) (.cons (Rn.ptr _ _ _ (Nat.le_of_ble_eq_true rfl) rfl) (.cons (.flat (by kernel_rfl)) (.cons (.flat (by kernel_rfl)) (.cons (.flat (by kernel_rfl)) (.cons (accE (Nat.le_of_ble_eq_true rfl) rfl (by simp only [List.length_set])) (.cons (.flat (by kernel_rfl)) (.cons (.flat (by kernel_rfl)) (.cons (.flat (by kernel_rfl)) (.cons (.flat (by kernel_rfl)) .nil)))))))))))) (by kernel_rfl) (by kernel_rfl) rfl) rfl rfl) (ih (w64 (v977 - 1)) (List.set (List.set v978 (Int.toNat v977) (o1008.1, o1008.2)) (Int.toNat (w64 (v977 - 1))) (o1011.1, o1011.2)) _ hF)
    | false =>
      replace hF := of_neg hF rfl
      refine TS.cdF (.tmp 167) (TS.ex 4 (NX.sqX ?_))
      have hF := Option.some.inj hF
      subst hF
      exact Rd.out (e := .exit 4) (by intro h; cases h) (And.intro rfl (Wk.anew (base := 0) (L := 0) (f := [0, 1, 2, 3, 4]) (by decide) (by decide) (Nat.le_of_ble_eq_true rfl) rfl (.cons (At.blk (by kernel_rfl) (RnB.lit (.cons (.flat (by kernel_rfl)) (.cons (.flat (by kernel_rfl)) (.cons (.flat (by kernel_rfl)) (.cons (.flat (by kernel_rfl)) .nil)))))) (.cons (At.blk (by kernel_rfl) (RnB.lit (.cons (.flat (by kernel_rfl)) (.cons (.flat (by kernel_rfl)) .nil)))) (.cons (At.blk (by kernel_rfl) (RnB.lit (.cons (.flat (by kernel_rfl)) (.cons (.flat (by kernel_rfl)) .nil)))) (.cons (At.blk (by kernel_rfl) (RnB.lit (.cons (.flat (by kernel_rfl)) (.cons (.flat (by kernel_rfl)) .nil)))) (.cons (At.acc (by kernel_rfl) rfl (fun _ => rfl)) (.nil _)))))) (LRn.stx [2, 3, 6, 7, 10, 11, 12, 13, 14, 15, 16] [pt 0 0, pt 1 0, pt 2 0, pt 3 0, iv m18.1, iv m18.2.1, iv m18.2.2, accV 4 (List.length v978), iv m954.2, iv v317, iv v810] [pt 0 0, pt 1 0, pt 2 0, pt 3 0, iv m18.1, iv m18.2.1, iv m18.2.2, accV 4 (List.length v978), iv m954.2, iv v317, iv v810] (.cons (Rn.ptr _ _ _ (Nat.le_of_ble_eq_true rfl) rfl) (.cons (Rn.ptr _ _ _ (Nat.le_of_ble_eq_true rfl) rfl) (.cons (Rn.ptr _ _ _ (Nat.le_of_ble_eq_true rfl) rfl) (.cons (Rn.ptr _ _ _ (Nat.le_of_ble_eq_true rfl) rfl) (.cons (.flat (by kernel_rfl)) (.cons (.flat (by kernel_rfl)) (.cons (.flat (by kernel_rfl)) (.cons (Rn.acc (Nat.le_of_ble_eq_true rfl) rfl) (.cons (.flat (by kernel_rfl)) (.cons (.flat (by kernel_rfl)) (.cons (.flat (by kernel_rfl)) .nil))))))))))) (by kernel_rfl) (by kernel_rfl) rfl) rfl rfl))
  rcases Bool.eq_false_or_eq_true (decide (v977 > 0)) with hc997 | hc997
  · replace hm1013 := of_pos hm1013 hc997
    have hX := of_guard hm1013
    clear hm1013
    obtain ⟨hg998, hm1013⟩ := hX
    have hX := of_do hm1013
    clear hm1013
    obtain ⟨o999, h1000, hm1013⟩ := hX
    replace h1000 := Option.some.inj h1000
    have hX := of_guard hm1013
    clear hm1013
    obtain ⟨hg1001, hm1013⟩ := hX
    have hX := of_do hm1013
    clear hm1013
    obtain ⟨o1002, h1003, hm1013⟩ := hX
    replace h1003 := Option.some.inj h1003
    have hX := of_do hm1013
    clear hm1013
    obtain ⟨r1004, h1005, hm1013⟩ := hX
    have hm1013 := Option.some.inj hm1013
    subst hm1013
    have hT : ∀ e ∈ ([⟨79, [ag [iv o999.1, iv o999.2], ag [iv o1002.1, iv o1002.2]], (H65_11 p0 p1 p2 p3 p4 p5 r1 v978), .bool r1004, []⟩] : List Entry), PureSim Try.prog e.g e.args e.h e.v e.new := by
      intro e he
      simp only [List.mem_cons, List.not_mem_nil, or_false] at he
      rcases he with rfl
      · exact PureSim.ak (C79 _ _ _ _ _ h1005)
    refine TS.dp [⟨79, [ag [iv o999.1, iv o999.2], ag [iv o1002.1, iv o1002.2]], (H65_11 p0 p1 p2 p3 p4 p5 r1 v978), .bool r1004, []⟩] hT mixed 12 [2, 3, 6, 7, 10, 11, 12, 13, 14, 15, 16, 21, 167] [0, 1, 2, 3, 4] (st 188 [(2, pt 0 0), (3, pt 1 0), (6, pt 2 0), (7, pt 3 0), (10, iv m18.1), (11, iv m18.2.1), (12, iv m18.2.2), (13, accV 4 (List.length v978)), (14, iv m954.2), (15, iv v317), (16, iv v810), (21, iv v977), (167, .bool r1004)]) (H65_11 p0 p1 p2 p3 p4 p5 r1 v978) ?_ ?_
    · refine QJ.rn (qs (st 188 [(2, pt 0 0), (3, pt 1 0), (6, pt 2 0), (7, pt 3 0), (10, iv m18.1), (11, iv m18.2.1), (12, iv m18.2.2), (13, accV 4 (List.length v978)), (14, iv m954.2), (15, iv v317), (16, iv v810), (21, iv v977), (154, iv v977)]) (H65_11 p0 p1 p2 p3 p4 p5 r1 v978) [] []) 1 (QJ.o { val := .bool true } (q_conv (e := decide (v977 > 0)) (b := true) (by kernel_rfl) hc997) (QJ.rn (qs (st 188 [(2, pt 0 0), (3, pt 1 0), (6, pt 2 0), (7, pt 3 0), (10, iv m18.1), (11, iv m18.2.1), (12, iv m18.2.2), (13, accV 4 (List.length v978)), (14, iv m954.2), (15, iv v317), (16, iv v810), (21, iv v977), (154, iv v977), (155, .bool true), (156, .bool true), (157, accV 4 (List.length v978)), (158, iv v977)]) (H65_11 p0 p1 p2 p3 p4 p5 r1 v978) [] []) 3 (QJ.o { val := .pointer (some ⟨4, 0 + (Int.toNat v977) * 2, none⟩) } (q_ixAcc (P := Try.prog) (t := 63) (s := 2) (e := 41) 4 (List.length v978) (by kernel_rfl) hg998 (by kernel_rfl) (by kernel_rfl)) ?_)))
      refine QJ.o { val := ag [iv o999.1, iv o999.2] } (q_eqv (q_ldA (P := Try.prog) (hp := (H65_11 p0 p1 p2 p3 p4 p5 r1 v978)) (t := 41) (b := 4) (off := 0 + (Int.toNat v977) * 2) (l := v978) (enc := e41) (s := 2) (T := 41) (i := Int.toNat v977) (by kernel_rfl) (accB_at (h := (H65_11 p0 p1 p2 p3 p4 p5 r1 v978)) (n := List.length v978) (i := Int.toNat v977) (by kernel_rfl) (by first | omega | (simp only [List.length_set, List.length_replicate, List.length_cons, List.length_nil, List.length_append]; omega))) (by kernel_rfl) (by kernel_rfl) (fun _ => rfl) (by omega) (by first | omega | (simp only [List.length_set, List.length_replicate, List.length_cons, List.length_nil, List.length_append]; omega)) (0, 0)) (congrArg (fun (z : (Int × Int)) => ({ val := ag [iv z.1, iv z.2] } : QRes)) h1000)) (QJ.rn (qs (st 188 [(2, pt 0 0), (3, pt 1 0), (6, pt 2 0), (7, pt 3 0), (10, iv m18.1), (11, iv m18.2.1), (12, iv m18.2.2), (13, accV 4 (List.length v978)), (14, iv m954.2), (15, iv v317), (16, iv v810), (21, iv v977), (154, iv v977), (155, .bool true), (156, .bool true), (157, accV 4 (List.length v978)), (158, iv v977), (159, .pointer (some ⟨4, 0 + (Int.toNat v977) * 2, none⟩)), (160, ag [iv o999.1, iv o999.2]), (161, accV 4 (List.length v978)), (162, iv v977), (163, iv (w64 (v977 - 1)))]) (H65_11 p0 p1 p2 p3 p4 p5 r1 v978) [] []) 3 (QJ.o { val := .pointer (some ⟨4, 0 + (Int.toNat (w64 (v977 - 1))) * 2, none⟩) } (q_ixAcc (P := Try.prog) (t := 63) (s := 2) (e := 41) 4 (List.length v978) (by kernel_rfl) hg1001 (by kernel_rfl) (by kernel_rfl)) ?_))
      exact QJ.o { val := ag [iv o1002.1, iv o1002.2] } (q_eqv (q_ldA (P := Try.prog) (hp := (H65_11 p0 p1 p2 p3 p4 p5 r1 v978)) (t := 41) (b := 4) (off := 0 + (Int.toNat (w64 (v977 - 1))) * 2) (l := v978) (enc := e41) (s := 2) (T := 41) (i := Int.toNat (w64 (v977 - 1))) (by kernel_rfl) (accB_at (h := (H65_11 p0 p1 p2 p3 p4 p5 r1 v978)) (n := List.length v978) (i := Int.toNat (w64 (v977 - 1))) (by kernel_rfl) (by first | omega | (simp only [List.length_set, List.length_replicate, List.length_cons, List.length_nil, List.length_append]; omega))) (by kernel_rfl) (by kernel_rfl) (fun _ => rfl) (by omega) (by first | omega | (simp only [List.length_set, List.length_replicate, List.length_cons, List.length_nil, List.length_append]; omega)) (0, 0)) (congrArg (fun (z : (Int × Int)) => ({ val := ag [iv z.1, iv z.2] } : QRes)) h1003)) (QJ.dn ⟨rfl, (SJ.o { val := .bool r1004, new := [] } (qOf_call (g := 79) (args := [ag [iv o999.1, iv o999.2], ag [iv o1002.1, iv o1002.2]]) (by kernel_rfl) lookC_hit) SJ.la)⟩)
    exact hK
  · replace hm1013 := of_neg hm1013 hc997
    have hm1013 := Option.some.inj hm1013
    subst hm1013
    refine TS.dp [] (fun e he => by cases he) mixed 12 [2, 3, 6, 7, 10, 11, 12, 13, 14, 15, 16, 21, 167] [0, 1, 2, 3, 4] (st 188 [(2, pt 0 0), (3, pt 1 0), (6, pt 2 0), (7, pt 3 0), (10, iv m18.1), (11, iv m18.2.1), (12, iv m18.2.2), (13, accV 4 (List.length v978)), (14, iv m954.2), (15, iv v317), (16, iv v810), (21, iv v977), (167, .bool false)]) (H65_11 p0 p1 p2 p3 p4 p5 r1 v978) ?_ ?_
    · exact QJ.rn (qs (st 188 [(2, pt 0 0), (3, pt 1 0), (6, pt 2 0), (7, pt 3 0), (10, iv m18.1), (11, iv m18.2.1), (12, iv m18.2.2), (13, accV 4 (List.length v978)), (14, iv m954.2), (15, iv v317), (16, iv v810), (21, iv v977), (154, iv v977)]) (H65_11 p0 p1 p2 p3 p4 p5 r1 v978) [] []) 1 (QJ.o { val := .bool false } (q_conv (e := decide (v977 > 0)) (b := false) (by kernel_rfl) hc997) (QJ.rn (qs (st 188 [(2, pt 0 0), (3, pt 1 0), (6, pt 2 0), (7, pt 3 0), (10, iv m18.1), (11, iv m18.2.1), (12, iv m18.2.2), (13, accV 4 (List.length v978)), (14, iv m954.2), (15, iv v317), (16, iv v810), (21, iv v977), (154, iv v977), (155, .bool false), (156, .bool false), (157, undef), (158, undef), (159, undef), (160, undef), (161, undef), (162, undef), (163, undef), (164, undef), (165, undef)]) (H65_11 p0 p1 p2 p3 p4 p5 r1 v978) [] []) 10 (QJ.dn ⟨rfl, SJ.la⟩)))
    exact hK
def P65l1 (p0 : Int) (p1 : Int) (p2 : Int) (p3 : Int) (p4 : Int) (p5 : Int) (m18 : (Int × Int × Int)) (r1 : ((Int × Int) × (Int × Int))) (v317 : Int) (r : ((List (Int × Int)) × Int)) : Post := fun e a h => e = .exit 2 ∧ Wk Try.prog 0 0 a h (st 188 [(2, pt 0 0), (3, pt 1 0), (6, pt 2 0), (7, pt 3 0), (10, iv m18.1), (11, iv m18.2.1), (12, iv m18.2.2), (13, accV 4 (List.length r.1)), (14, iv r.2), (15, iv v317)]) [cl 30 [iv p0, iv p1, iv p2, iv p3], cl 28 [iv p4, iv p5], cl 41 [iv r1.1.1, iv r1.1.2], cl 41 [iv r1.2.1, iv r1.2.2], accB 41 (List.length r.1) (List.flatMap e41 r.1)]
theorem L65l1 (p0 : Int) (p1 : Int) (p2 : Int) (p3 : Int) (p4 : Int) (p5 : Int) (m18 : (Int × Int × Int)) (r1 : ((Int × Int) × (Int × Int))) (v317 : Int) (v809 : Int) (v810 : Int) (v808 : (List (Int × Int))) (r : ((List (Int × Int)) × Int)) (hF : F65l1 p0 p1 p2 p3 p4 p5 m18 r1 v317 v809 v810 v808 = some r) : TL Try.prog 0 0 c65.s2.s2.s2.s2.s2.s2.s2.s2.s1.s2.bd.bd.s2.s1.bd.s2.bd.bd (st 188 [(2, pt 0 0), (3, pt 1 0), (6, pt 2 0), (7, pt 3 0), (10, iv m18.1), (11, iv m18.2.1), (12, iv m18.2.2), (13, accV 4 (List.length v808)), (14, iv v809), (15, iv v317), (16, iv v810)]) [cl 30 [iv p0, iv p1, iv p2, iv p3], cl 28 [iv p4, iv p5], cl 41 [iv r1.1.1, iv r1.1.2], cl 41 [iv r1.2.1, iv r1.2.2], accB 41 (List.length v808) (List.flatMap e41 v808)] (P65l1 p0 p1 p2 p3 p4 p5 m18 r1 v317 r) := by
  refine F65l1.partial_correctness p0 p1 p2 p3 p4 p5 m18 r1 v317 (motive := fun v809 v810 v808 r => TL Try.prog 0 0 c65.s2.s2.s2.s2.s2.s2.s2.s2.s1.s2.bd.bd.s2.s1.bd.s2.bd.bd (st 188 [(2, pt 0 0), (3, pt 1 0), (6, pt 2 0), (7, pt 3 0), (10, iv m18.1), (11, iv m18.2.1), (12, iv m18.2.2), (13, accV 4 (List.length v808)), (14, iv v809), (15, iv v317), (16, iv v810)]) [cl 30 [iv p0, iv p1, iv p2, iv p3], cl 28 [iv p4, iv p5], cl 41 [iv r1.1.1, iv r1.1.2], cl 41 [iv r1.2.1, iv r1.2.2], accB 41 (List.length v808) (List.flatMap e41 v808)] (P65l1 p0 p1 p2 p3 p4 p5 m18 r1 v317 r)) ?_ v809 v810 v808 r hF
  clear hF r v809 v810 v808
  intro again ih v809 v810 v808 r hF
  refine TL.round (TS.sq (TS.sq ?_))
  have hX := of_do hF
  clear hF
  obtain ⟨r942, h943, hF⟩ := hX
  refine TS.rg (TI.ra 3 [2, 3, 6, 7, 10, 11, 12, 13, 14, 15, 16, 92, 93, 94] (st 188 [(2, pt 0 0), (3, pt 1 0), (6, pt 2 0), (7, pt 3 0), (10, iv m18.1), (11, iv m18.2.1), (12, iv m18.2.2), (13, accV 4 (List.length v808)), (14, iv v809), (15, iv v317), (16, iv v810), (92, iv v810), (93, iv m18.2.2), (94, iv m18.1)]) (TI.cf (C74 _ _ _ h943) (TI.ra 2 [2, 3, 6, 7, 10, 11, 12, 13, 14, 15, 16, 97] (st 188 [(2, pt 0 0), (3, pt 1 0), (6, pt 2 0), (7, pt 3 0), (10, iv m18.1), (11, iv m18.2.1), (12, iv m18.2.2), (13, accV 4 (List.length v808)), (14, iv v809), (15, iv v317), (16, iv v810), (97, .bool (decide (v810 ≤ (w64 (r942 + 3)))))]) (TI.dn (NX.sq ?_)))))
  refine TS.cd (.tmp 97) (decide (v810 ≤ (w64 (r942 + 3)))) (fun hc944 => ?_) (fun hc944 => ?_)
  · replace hF := of_pos hF hc944
    refine TS.sk (NX.sq (TS.sq (TS.bk 3 (TS.sq (TS.rg (TI.rn 21 [2, 3, 6, 7, 10, 11, 12, 13, 14, 15, 16, 17] [0, 1, 2, 3, 4, 5] (st 188 [(2, pt 0 0), (3, pt 1 0), (6, pt 2 0), (7, pt 3 0), (10, iv m18.1), (11, iv m18.2.1), (12, iv m18.2.2), (13, accV 4 (List.length v808)), (14, iv v809), (15, iv v317), (16, iv v810), (17, pt 5 0)]) [cl 30 [iv p0, iv p1, iv p2, iv p3], cl 28 [iv p4, iv p5], cl 41 [iv r1.1.1, iv r1.1.2], cl 41 [iv r1.2.1, iv r1.2.2], accB 41 (List.length v808) (List.flatMap e41 v808), cl 41 [iv (w64 ((w64 (v317 * r1.1.1)) + (w64 (v810 * r1.2.1)))), iv (w64 ((w64 (v317 * r1.1.2)) + (w64 (v810 * r1.2.2))))]] (TI.dn (NX.sq ?_))))))))
    refine TS.sq ?_
    have hX := of_do hF
    clear hF
    obtain ⟨r945, h946, hF⟩ := hX
    refine TS.rg (TI.ra 2 [2, 3, 6, 7, 10, 11, 12, 13, 14, 15, 16, 17, 119, 120] (st 188 [(2, pt 0 0), (3, pt 1 0), (6, pt 2 0), (7, pt 3 0), (10, iv m18.1), (11, iv m18.2.1), (12, iv m18.2.2), (13, accV 4 (List.length v808)), (14, iv v809), (15, iv v317), (16, iv v810), (17, pt 5 0), (119, ag [iv p0, iv p1, iv p2, iv p3]), (120, ag [iv (w64 ((w64 (v317 * r1.1.1)) + (w64 (v810 * r1.2.1)))), iv (w64 ((w64 (v317 * r1.1.2)) + (w64 (v810 * r1.2.2))))])]) (TI.cf (C57 _ _ _ _ _ _ _ h946) (TI.rn 2 [2, 3, 6, 7, 10, 11, 12, 13, 14, 15, 16, 17, 18] [0, 1, 2, 3, 4, 5, 6] (st 188 [(2, pt 0 0), (3, pt 1 0), (6, pt 2 0), (7, pt 3 0), (10, iv m18.1), (11, iv m18.2.1), (12, iv m18.2.2), (13, accV 4 (List.length v808)), (14, iv v809), (15, iv v317), (16, iv v810), (17, pt 5 0), (18, pt 6 0)]) [cl 30 [iv p0, iv p1, iv p2, iv p3], cl 28 [iv p4, iv p5], cl 41 [iv r1.1.1, iv r1.1.2], cl 41 [iv r1.2.1, iv r1.2.2], accB 41 (List.length v808) (List.flatMap e41 v808), cl 41 [iv (w64 ((w64 (v317 * r1.1.1)) + (w64 (v810 * r1.2.1)))), iv (w64 ((w64 (v317 * r1.1.2)) + (w64 (v810 * r1.2.2))))], cl 28 [iv r945.1, iv r945.2]] (TI.dn (NX.sq (TS.sq (TS.rg (TI.rn 13 [2, 3, 6, 7, 10, 11, 12, 13, 14, 15, 16, 17, 19] [0, 1, 2, 3, 4, 5, 7] (st 188 [(2, pt 0 0), (3, pt 1 0), (6, pt 2 0), (7, pt 3 0), (10, iv m18.1), (11, iv m18.2.1), (12, iv m18.2.2), (13, accV 4 (List.length v808)), (14, iv v809), (15, iv v317), (16, iv v810), (17, pt 5 0), (19, pt 7 0)]) [cl 30 [iv p0, iv p1, iv p2, iv p3], cl 28 [iv p4, iv p5], cl 41 [iv r1.1.1, iv r1.1.2], cl 41 [iv r1.2.1, iv r1.2.2], accB 41 (List.length v808) (List.flatMap e41 v808), cl 41 [iv (w64 ((w64 (v317 * r1.1.1)) + (w64 (v810 * r1.2.1)))), iv (w64 ((w64 (v317 * r1.1.2)) + (w64 (v810 * r1.2.2))))], .dead, cl 28 [iv (w64 (p4 + r945.1)), iv (w64 (p5 + r945.2))]] ?_))))))))
    refine TI.dn (NX.sq (TS.sq ?_))
    have hX := of_do hF
    clear hF
    obtain ⟨r947, h948, hF⟩ := hX
    refine TS.rg (TI.rn 2 [2, 3, 6, 7, 10, 11, 12, 13, 14, 15, 16, 17, 133, 134] [0, 1, 2, 3, 4, 5] (st 188 [(2, pt 0 0), (3, pt 1 0), (6, pt 2 0), (7, pt 3 0), (10, iv m18.1), (11, iv m18.2.1), (12, iv m18.2.2), (13, accV 4 (List.length v808)), (14, iv v809), (15, iv v317), (16, iv v810), (17, pt 5 0), (133, ag [iv (w64 (p4 + r945.1)), iv (w64 (p5 + r945.2))]), (134, ag [iv (w64 (p4 + r945.1)), iv (w64 (p5 + r945.2))])]) (H65_8 p0 p1 p2 p3 p4 p5 r1 v808 v317 v810) (TI.cf (C64 _ _ _ _ _ h948) (TI.ra 1 [2, 3, 6, 7, 10, 11, 12, 13, 14, 15, 16, 17, 20] (st 188 [(2, pt 0 0), (3, pt 1 0), (6, pt 2 0), (7, pt 3 0), (10, iv m18.1), (11, iv m18.2.1), (12, iv m18.2.2), (13, accV 4 (List.length v808)), (14, iv v809), (15, iv v317), (16, iv v810), (17, pt 5 0), (20, iv r947)]) (TI.dn (NX.sq (TS.sq (TS.sq ?_)))))))
    have hX := of_do hF
    clear hF
    obtain ⟨m950, hm1016, hF⟩ := hX
    have hK : NX Try.prog 0 0 [.sq c65.s2.s2.s2.s2.s2.s2.s2.s2.s1.s2.bd.bd.s2.s1.bd.s2.bd.bd.s2.s1.bd.s2.s2.s2.s2.s1.s2, .sq c65.s2.s2.s2.s2.s2.s2.s2.s2.s1.s2.bd.bd.s2.s1.bd.s2.bd.bd.s2.s1.bd.s2.s2.s2.s2.s2, .bk 3, .sq c65.s2.s2.s2.s2.s2.s2.s2.s2.s1.s2.bd.bd.s2.s1.bd.s2.bd.bd.s2.s2] (Rd Try.prog 0 0 c65.s2.s2.s2.s2.s2.s2.s2.s2.s1.s2.bd.bd.s2.s1.bd.s2.bd.bd (P65l1 p0 p1 p2 p3 p4 p5 m18 r1 v317 r)) .normal (st 188 [(2, pt 0 0), (3, pt 1 0), (6, pt 2 0), (7, pt 3 0), (10, iv m18.1), (11, iv m18.2.1), (12, iv m18.2.2), (13, accV 4 (List.length v808)), (14, iv v809), (15, iv v317), (16, iv v810), (17, pt 5 0), (20, iv r947), (142, .bool m950)]) (H65_8 p0 p1 p2 p3 p4 p5 r1 v808 v317 v810) := by
      refine NX.sq ?_
      have hX := of_do hF
      clear hF
      obtain ⟨m954, hm955, hF⟩ := hX
      have hK : NX Try.prog 0 0 [.sq c65.s2.s2.s2.s2.s2.s2.s2.s2.s1.s2.bd.bd.s2.s1.bd.s2.bd.bd.s2.s1.bd.s2.s2.s2.s2.s2, .bk 3, .sq c65.s2.s2.s2.s2.s2.s2.s2.s2.s1.s2.bd.bd.s2.s1.bd.s2.bd.bd.s2.s2] (Rd Try.prog 0 0 c65.s2.s2.s2.s2.s2.s2.s2.s2.s1.s2.bd.bd.s2.s1.bd.s2.bd.bd (P65l1 p0 p1 p2 p3 p4 p5 m18 r1 v317 r)) .normal (st 188 [(2, pt 0 0), (3, pt 1 0), (6, pt 2 0), (7, pt 3 0), (10, iv m18.1), (11, iv m18.2.1), (12, iv m18.2.2), (13, accV 5 (List.length m954.1)), (14, iv m954.2), (15, iv v317), (16, iv v810), (17, pt 4 0), (20, iv r947)]) [cl 30 [iv p0, iv p1, iv p2, iv p3], cl 28 [iv p4, iv p5], cl 41 [iv r1.1.1, iv r1.1.2], cl 41 [iv r1.2.1, iv r1.2.2], cl 41 [iv (w64 ((w64 (v317 * r1.1.1)) + (w64 (v810 * r1.2.1)))), iv (w64 ((w64 (v317 * r1.1.2)) + (w64 (v810 * r1.2.2))))], accB 41 (List.length m954.1) (List.flatMap e41 m954.1)] := by
        refine NX.sq (TS.sq (TS.sq (TS.rg (TI.ra 3 [2, 3, 6, 7, 10, 11, 12, 13, 14, 15, 16, 17, 146] (st 188 [(2, pt 0 0), (3, pt 1 0), (6, pt 2 0), (7, pt 3 0), (10, iv m18.1), (11, iv m18.2.1), (12, iv m18.2.2), (13, accV 5 (List.length m954.1)), (14, iv m954.2), (15, iv v317), (16, iv v810), (17, pt 4 0), (146, .bool (decide (r947 > m954.2)))]) (TI.dn (NX.sq ?_))))))
        refine TS.cd (.tmp 146) (decide (r947 > m954.2)) (fun hc956 => ?_) (fun hc956 => ?_)
        · replace hF := of_pos hF hc956
          refine TS.ex 3 (NX.sqX (NX.bkX (NX.sq (TS.rg (TI.rn 3 [2, 3, 6, 7, 10, 11, 12, 13, 14, 15, 16] [0, 1, 2, 3, 5] (st 188 [(2, pt 0 0), (3, pt 1 0), (6, pt 2 0), (7, pt 3 0), (10, iv m18.1), (11, iv m18.2.1), (12, iv m18.2.2), (13, accV 5 (List.length m954.1)), (14, iv m954.2), (15, iv v317), (16, iv (w64 (v810 + 1)))]) [cl 30 [iv p0, iv p1, iv p2, iv p3], cl 28 [iv p4, iv p5], cl 41 [iv r1.1.1, iv r1.1.2], cl 41 [iv r1.2.1, iv r1.2.2], .dead, accB 41 (List.length m954.1) (List.flatMap e41 m954.1)] (TI.dn ?_))))))
          exact Rd.again (a2 := (st 188 [(2, pt 0 0), (3, pt 1 0), (6, pt 2 0), (7, pt 3 0), (10, iv m18.1), (11, iv m18.2.1), (12, iv m18.2.2), (13, accV 4 (List.length m954.1)), (14, iv m954.2), (15, iv v317), (16, iv (w64 (v810 + 1)))])) (h2 := [cl 30 [iv p0, iv p1, iv p2, iv p3], cl 28 [iv p4, iv p5], cl 41 [iv r1.1.1, iv r1.1.2], cl 41 [iv r1.2.1, iv r1.2.2], accB 41 (List.length m954.1) (List.flatMap e41 m954.1)]) (Wk.anew (base := 0) (L := 0) (f := [0, 1, 2, 3, 5]) (by decide) (by decide) (Nat.le_of_ble_eq_true rfl) rfl (.cons (At.blk (by kernel_rfl) (RnB.lit (.cons (.flat (by kernel_rfl)) (.cons (.flat (by kernel_rfl)) (.cons (.flat (by kernel_rfl)) (.cons (.flat (by kernel_rfl)) .nil)))))) (.cons (At.blk (by kernel_rfl) (RnB.lit (.cons (.flat (by kernel_rfl)) (.cons (.flat (by kernel_rfl)) .nil)))) (.cons (At.blk (by kernel_rfl) (RnB.lit (.cons (.flat (by kernel_rfl)) (.cons (.flat (by kernel_rfl)) .nil)))) (.cons (At.blk (by kernel_rfl) (RnB.lit (.cons (.flat (by kernel_rfl)) (.cons (.flat (by kernel_rfl)) .nil)))) (.cons (At.acc (by kernel_rfl) rfl (fun _ => rfl)) (.nil _)))))) (LRn.stx [2, 3, 6, 7, 10, 11, 12, 13, 14, 15, 16] [pt 0 0, pt 1 0, pt 2 0, pt 3 0, iv m18.1, iv m18.2.1, iv m18.2.2, accV 4 (List.length m954.1), iv m954.2, iv v317, iv (w64 (v810 + 1))] [pt 0 0, pt 1 0, pt 2 0, pt 3 0, iv m18.1, iv m18.2.1, iv m18.2.2, accV 5 (List.length m954.1), iv m954.2, iv v317, iv (w64 (v810 + 1))] (.cons (Rn.ptr _ _ _ (Nat.le_of_ble_eq_true rfl) rfl) (.cons (Rn.ptr _ _ _ (Nat.le_of_ble_eq_true rfl) rfl) (.cons (Rn.ptr _ _ _ (Nat.le_of_ble_eq_true rfl) rfl) (.cons (Rn.ptr _ _ _ (Nat.le_of_ble_eq_true rfl) rfl) (.cons (.flat (by kernel_rfl)) (.cons (.flat (by kernel_rfl)) (.cons (.flat (by kernel_rfl)) (.cons (Rn.acc (Nat.le_of_ble_eq_true rfl) rfl) (.cons (.flat (by kernel_rfl)) (.cons (.flat (by kernel_rfl)) (.cons (.flat (by kernel_rfl)) .nil))))))))))) (by kernel_rfl) (by kernel_rfl) rfl) rfl rfl) (ih m954.2 (w64 (v810 + 1)) m954.1 _ hF)
        · replace hF := of_neg hF hc956
          refine TS.sk (NX.sq (TS.sq ?_))
          have hX := of_guard hF
          clear hF
          obtain ⟨hg957, hF⟩ := hX
          refine TS.rg (TI.rn 3 [2, 3, 6, 7, 10, 11, 12, 14, 15, 16, 147, 149] [0, 1, 2, 3, 5, 6] (st 188 [(2, pt 0 0), (3, pt 1 0), (6, pt 2 0), (7, pt 3 0), (10, iv m18.1), (11, iv m18.2.1), (12, iv m18.2.2), (14, iv m954.2), (15, iv v317), (16, iv v810), (147, accV 5 (List.length m954.1)), (149, .slice (some ⟨6, 0, none⟩) 1 1)]) [cl 30 [iv p0, iv p1, iv p2, iv p3], cl 28 [iv p4, iv p5], cl 41 [iv r1.1.1, iv r1.1.2], cl 41 [iv r1.2.1, iv r1.2.2], .dead, accB 41 (List.length m954.1) (List.flatMap e41 m954.1), cl 41 [iv (w64 ((w64 (v317 * r1.1.1)) + (w64 (v810 * r1.2.1)))), iv (w64 ((w64 (v317 * r1.1.2)) + (w64 (v810 * r1.2.2))))]] (TI.acc (l := m954.1) (b := 5) (ts := #[63, 63]) (e := 41) (bytes := 16) (z := ag [iv 0, iv 0]) (y := .slice (some ⟨6, 0, none⟩) 1 1) (ys := [(w64 ((w64 (v317 * r1.1.1)) + (w64 (v810 * r1.2.1))), w64 ((w64 (v317 * r1.1.2)) + (w64 (v810 * r1.2.2))))]) (xs := List.flatMap e41 ([(w64 ((w64 (v317 * r1.1.1)) + (w64 (v810 * r1.2.1))), w64 ((w64 (v317 * r1.1.2)) + (w64 (v810 * r1.2.2))))])) (m := 1) (s := 2) (enc := e41) (by kernel_rfl) (by kernel_rfl) (by decide) (by kernel_rfl) (by kernel_rfl) (by kernel_rfl) (by kernel_rfl) (by kernel_rfl) (by kernel_rfl) (by kernel_rfl) (by kernel_rfl) (fun _ => rfl) rfl rfl (by omega) [2, 3, 6, 7, 10, 11, 12, 14, 15, 16, 150] [0, 1, 2, 3, 7] (a2 := (st 188 [(2, pt 0 0), (3, pt 1 0), (6, pt 2 0), (7, pt 3 0), (10, iv m18.1), (11, iv m18.2.1), (12, iv m18.2.2), (14, iv m954.2), (15, iv v317), (16, iv v810), (150, .slice (some ⟨7, 0, none⟩) (List.length (m954.1 ++ [(w64 ((w64 (v317 * r1.1.1)) + (w64 (v810 * r1.2.1))), w64 ((w64 (v317 * r1.1.2)) + (w64 (v810 * r1.2.2))))])) UNK)])) (h2 := [cl 30 [iv p0, iv p1, iv p2, iv p3], cl 28 [iv p4, iv p5], cl 41 [iv r1.1.1, iv r1.1.2], cl 41 [iv r1.2.1, iv r1.2.2], .dead, .dead, .dead, .cells 41 (List.flatMap e41 (m954.1 ++ [(w64 ((w64 (v317 * r1.1.1)) + (w64 (v810 * r1.2.1))), w64 ((w64 (v317 * r1.1.2)) + (w64 (v810 * r1.2.2))))]))]) (by kernel_rfl) (TI.ra 1 [2, 3, 6, 7, 10, 11, 12, 13, 14, 15, 16] (st 188 [(2, pt 0 0), (3, pt 1 0), (6, pt 2 0), (7, pt 3 0), (10, iv m18.1), (11, iv m18.2.1), (12, iv m18.2.2), (13, .slice (some ⟨7, 0, none⟩) (List.length (m954.1 ++ [(w64 ((w64 (v317 * r1.1.1)) + (w64 (v810 * r1.2.1))), w64 ((w64 (v317 * r1.1.2)) + (w64 (v810 * r1.2.2))))])) UNK), (14, iv m954.2), (15, iv v317), (16, iv v810)]) (TI.dn (NX.sq (TS.sq ?_))))))
          have hX := of_do hF
          clear hF
          obtain ⟨o958, h959, hF⟩ := hX
          replace h959 := Option.some.inj h959
          refine TS.rg (TI.ra 1 [2, 3, 6, 7, 10, 11, 12, 13, 14, 15, 16, 151] (st 188 [(2, pt 0 0), (3, pt 1 0), (6, pt 2 0), (7, pt 3 0), (10, iv m18.1), (11, iv m18.2.1), (12, iv m18.2.2), (13, .slice (some ⟨7, 0, none⟩) (List.length (m954.1 ++ [(w64 ((w64 (v317 * r1.1.1)) + (w64 (v810 * r1.2.1))), w64 ((w64 (v317 * r1.1.2)) + (w64 (v810 * r1.2.2))))])) UNK), (14, iv m954.2), (15, iv v317), (16, iv v810), (151, .slice (some ⟨7, 0, none⟩) (List.length (m954.1 ++ [(w64 ((w64 (v317 * r1.1.1)) + (w64 (v810 * r1.2.1))), w64 ((w64 (v317 * r1.1.2)) + (w64 (v810 * r1.2.2))))])) UNK)]) (TI.o { val := iv o958 } (q_convI (e := (List.length (m954.1 ++ [(w64 ((w64 (v317 * r1.1.1)) + (w64 (v810 * r1.2.1))), w64 ((w64 (v317 * r1.1.2)) + (w64 (v810 * r1.2.2))))]) : Int)) (y := o958) (by kernel_rfl) h959) [2, 3, 6, 7, 10, 11, 12, 13, 14, 15, 16, 152] [0, 1, 2, 3, 7] (st 188 [(2, pt 0 0), (3, pt 1 0), (6, pt 2 0), (7, pt 3 0), (10, iv m18.1), (11, iv m18.2.1), (12, iv m18.2.2), (13, .slice (some ⟨7, 0, none⟩) (List.length (m954.1 ++ [(w64 ((w64 (v317 * r1.1.1)) + (w64 (v810 * r1.2.1))), w64 ((w64 (v317 * r1.1.2)) + (w64 (v810 * r1.2.2))))])) UNK), (14, iv m954.2), (15, iv v317), (16, iv v810), (152, iv o958)]) [cl 30 [iv p0, iv p1, iv p2, iv p3], cl 28 [iv p4, iv p5], cl 41 [iv r1.1.1, iv r1.1.2], cl 41 [iv r1.2.1, iv r1.2.2], .dead, .dead, .dead, .cells 41 (List.flatMap e41 (m954.1 ++ [(w64 ((w64 (v317 * r1.1.1)) + (w64 (v810 * r1.2.1))), w64 ((w64 (v317 * r1.1.2)) + (w64 (v810 * r1.2.2))))]))] (TI.ra 2 [2, 3, 6, 7, 10, 11, 12, 13, 14, 15, 16, 21] (st 188 [(2, pt 0 0), (3, pt 1 0), (6, pt 2 0), (7, pt 3 0), (10, iv m18.1), (11, iv m18.2.1), (12, iv m18.2.2), (13, .slice (some ⟨7, 0, none⟩) (List.length (m954.1 ++ [(w64 ((w64 (v317 * r1.1.1)) + (w64 (v810 * r1.2.1))), w64 ((w64 (v317 * r1.1.2)) + (w64 (v810 * r1.2.2))))])) UNK), (14, iv m954.2), (15, iv v317), (16, iv v810), (21, iv (w64 (o958 - 1)))]) (TI.dn (NX.sq (TS.bk 4 ?_))))))
          have hX := of_do hF
          clear hF
          obtain ⟨r1014, h1015, hF⟩ := hX
          refine TS.lp (TL.weak (a2 := (st 188 [(2, pt 0 0), (3, pt 1 0), (6, pt 2 0), (7, pt 3 0), (10, iv m18.1), (11, iv m18.2.1), (12, iv m18.2.2), (13, accV 4 (List.length (m954.1 ++ [(w64 ((w64 (v317 * r1.1.1)) + (w64 (v810 * r1.2.1))), w64 ((w64 (v317 * r1.1.2)) + (w64 (v810 * r1.2.2))))]))), (14, iv m954.2), (15, iv v317), (16, iv v810), (21, iv (w64 (o958 - 1)))])) (h2 := [cl 30 [iv p0, iv p1, iv p2, iv p3], cl 28 [iv p4, iv p5], cl 41 [iv r1.1.1, iv r1.1.2], cl 41 [iv r1.2.1, iv r1.2.2], accB 41 (List.length (m954.1 ++ [(w64 ((w64 (v317 * r1.1.1)) + (w64 (v810 * r1.2.1))), w64 ((w64 (v317 * r1.1.2)) + (w64 (v810 * r1.2.2))))])) (List.flatMap e41 (m954.1 ++ [(w64 ((w64 (v317 * r1.1.1)) + (w64 (v810 * r1.2.1))), w64 ((w64 (v317 * r1.1.2)) + (w64 (v810 * r1.2.2))))]))]) (Wk.anew (base := 0) (L := 0) (f := [0, 1, 2, 3, 7]) (by decide) (by decide) (Nat.le_of_ble_eq_true rfl) rfl (.cons (At.blk (by kernel_rfl) (RnB.lit (.cons (.flat (by kernel_rfl)) (.cons (.flat (by kernel_rfl)) (.cons (.flat (by kernel_rfl)) (.cons (.flat (by kernel_rfl)) .nil)))))) (.cons (At.blk (by kernel_rfl) (RnB.lit (.cons (.flat (by kernel_rfl)) (.cons (.flat (by kernel_rfl)) .nil)))) (.cons (At.blk (by kernel_rfl) (RnB.lit (.cons (.flat (by kernel_rfl)) (.cons (.flat (by kernel_rfl)) .nil)))) (.cons (At.blk (by kernel_rfl) (RnB.lit (.cons (.flat (by kernel_rfl)) (.cons (.flat (by kernel_rfl)) .nil)))) (.cons (At.accU (by kernel_rfl) rfl (fun _ => rfl)) (.nil _)))))) (LRn.stx [2, 3, 6, 7, 10, 11, 12, 13, 14, 15, 16, 21] [pt 0 0, pt 1 0, pt 2 0, pt 3 0, iv m18.1, iv m18.2.1, iv m18.2.2, accV 4 (List.length (m954.1 ++ [(w64 ((w64 (v317 * r1.1.1)) + (w64 (v810 * r1.2.1))), w64 ((w64 (v317 * r1.1.2)) + (w64 (v810 * r1.2.2))))])), iv m954.2, iv v317, iv v810, iv (w64 (o958 - 1))] [pt 0 0, pt 1 0, pt 2 0, pt 3 0, iv m18.1, iv m18.2.1, iv m18.2.2, .slice (some ⟨7, 0, none⟩) (List.length (m954.1 ++ [(w64 ((w64 (v317 * r1.1.1)) + (w64 (v810 * r1.2.1))), w64 ((w64 (v317 * r1.1.2)) + (w64 (v810 * r1.2.2))))])) UNK, iv m954.2, iv v317, iv v810, iv (w64 (o958 - 1))] (.cons (Rn.ptr _ _ _ (Nat.le_of_ble_eq_true rfl) rfl) (.cons (Rn.ptr _ _ _ (Nat.le_of_ble_eq_true rfl) rfl) (.cons (Rn.ptr _ _ _ (Nat.le_of_ble_eq_true rfl) rfl) (.cons (Rn.ptr _ _ _ (Nat.le_of_ble_eq_true rfl) rfl) (.cons (.flat (by kernel_rfl)) (.cons (.flat (by kernel_rfl)) (.cons (.flat (by kernel_rfl)) (.cons (Rn.accU (Nat.le_of_ble_eq_true rfl) rfl (by simp)) (.cons (.flat (by kernel_rfl)) (.cons (.flat (by kernel_rfl)) (.cons (.flat (by kernel_rfl)) (.cons (.flat (by kernel_rfl)) .nil)))))))))))) (by kernel_rfl) (by kernel_rfl) rfl) rfl rfl) (TL.post (L65l2 p0 p1 p2 p3 p4 p5 m18 m954 r1 v317 v810 (w64 (o958 - 1)) (m954.1 ++ [(w64 ((w64 (v317 * r1.1.1)) + (w64 (v810 * r1.2.1))), w64 ((w64 (v317 * r1.1.2)) + (w64 (v810 * r1.2.2))))]) r1014 h1015) ?_))
          rintro e a1 h1 hp
          obtain ⟨rfl, hw⟩ := hp
          refine ⟨(st 188 [(2, pt 0 0), (3, pt 1 0), (6, pt 2 0), (7, pt 3 0), (10, iv m18.1), (11, iv m18.2.1), (12, iv m18.2.2), (13, accV 4 (List.length r1014)), (14, iv m954.2), (15, iv v317), (16, iv v810)]), [cl 30 [iv p0, iv p1, iv p2, iv p3], cl 28 [iv p4, iv p5], cl 41 [iv r1.1.1, iv r1.1.2], cl 41 [iv r1.2.1, iv r1.2.2], accB 41 (List.length r1014) (List.flatMap e41 r1014)], (NX.bkX (NX.bk (NX.sq (TS.rg (TI.ra 3 [2, 3, 6, 7, 10, 11, 12, 13, 14, 15, 16] (st 188 [(2, pt 0 0), (3, pt 1 0), (6, pt 2 0), (7, pt 3 0), (10, iv m18.1), (11, iv m18.2.1), (12, iv m18.2.2), (13, accV 4 (List.length r1014)), (14, iv m954.2), (15, iv v317), (16, iv (w64 (v810 + 1)))]) (TI.dn ?_)))))), hw⟩
          exact Rd.again (a2 := (st 188 [(2, pt 0 0), (3, pt 1 0), (6, pt 2 0), (7, pt 3 0), (10, iv m18.1), (11, iv m18.2.1), (12, iv m18.2.2), (13, accV 4 (List.length r1014)), (14, iv m954.2), (15, iv v317), (16, iv (w64 (v810 + 1)))])) (h2 := [cl 30 [iv p0, iv p1, iv p2, iv p3], cl 28 [iv p4, iv p5], cl 41 [iv r1.1.1, iv r1.1.2], cl 41 [iv r1.2.1, iv r1.2.2], accB 41 (List.length r1014) (List.flatMap e41 r1014)]) (Wk.anew (base := 0) (L := 0) (f := [0, 1, 2, 3, 4]) (by decide) (by decide) (Nat.le_of_ble_eq_true rfl) rfl (.cons (At.blk (by kernel_rfl) (RnB.lit (.cons (.flat (by kernel_rfl)) (.cons (.flat (by kernel_rfl)) (.cons (.flat (by kernel_rfl)) (.cons (.flat (by kernel_rfl)) .nil)))))) (.cons (At.blk (by kernel_rfl) (RnB.lit (.cons (.flat (by kernel_rfl)) (.cons (.flat (by kernel_rfl)) .nil)))) (.cons (At.blk (by kernel_rfl) (RnB.lit (.cons (.flat (by kernel_rfl)) (.cons (.flat (by kernel_rfl)) .nil)))) (.cons (At.blk (by kernel_rfl) (RnB.lit (.cons (.flat (by kernel_rfl)) (.cons (.flat (by kernel_rfl)) .nil)))) (.cons (At.acc (by kernel_rfl) rfl (fun _ => rfl)) (.nil _)))))) (LRn.stx [2, 3, 6, 7, 10, 11, 12, 13, 14, 15, 16] [pt 0 0, pt 1 0, pt 2 0, pt 3 0, iv m18.1, iv m18.2.1, iv m18.2.2, accV 4 (List.length r1014), iv m954.2, iv v317, iv (w64 (v810 + 1))] [pt 0 0, pt 1 0, pt 2 0, pt 3 0, iv m18.1, iv m18.2.1, iv m18.2.2, accV 4 (List.length r1014), iv m954.2, iv v317, iv (w64 (v810 + 1))] (.cons (Rn.ptr _ _ _ (Nat.le_of_ble_eq_true rfl) rfl) (.cons (Rn.ptr _ _ _ (Nat.le_of_ble_eq_true rfl) rfl) (.cons (Rn.ptr _ _ _ (Nat.le_of_ble_eq_true rfl) rfl) (.cons (Rn.ptr _ _ _ (Nat.le_of_ble_eq_true rfl) rfl) (.cons (.flat (by kernel_rfl)) (.cons (.flat (by kernel_rfl)) (.cons (.flat (by kernel_rfl)) (.cons (Rn.acc (Nat.le_of_ble_eq_true rfl) rfl) (.cons (.flat (by kernel_rfl)) (.cons (.flat (by kernel_rfl)) (.cons (.flat (by kernel_rfl)) .nil))))))))))) (by kernel_rfl) (by kernel_rfl) rfl) rfl rfl) (ih m954.2 (w64 (v810 + 1)) r1014 _ hF)
      clear hF
      have hF := hm955
      clear hm955
      refine TS.start ?_
      cases m950 with
      | true =>
        replace hF := of_pos hF rfl
        refine TS.cdT (.tmp 142) (TS.rg (TI.rn 3 [2, 3, 6, 7, 10, 11, 12, 13, 14, 15, 16, 17, 20] [0, 1, 2, 3, 5] (st 188 [(2, pt 0 0), (3, pt 1 0), (6, pt 2 0), (7, pt 3 0), (10, iv m18.1), (11, iv m18.2.1), (12, iv m18.2.2), (13, .slice none 0 0), (14, iv r947), (15, iv v317), (16, iv v810), (17, pt 5 0), (20, iv r947)]) [cl 30 [iv p0, iv p1, iv p2, iv p3], cl 28 [iv p4, iv p5], cl 41 [iv r1.1.1, iv r1.1.2], cl 41 [iv r1.2.1, iv r1.2.2], .dead, cl 41 [iv (w64 ((w64 (v317 * r1.1.1)) + (w64 (v810 * r1.2.1)))), iv (w64 ((w64 (v317 * r1.1.2)) + (w64 (v810 * r1.2.2))))], .dead, .dead] (TI.dn ?_)))
        have hF := Option.some.inj hF
        subst hF
        exact TS.weak (Wk.anew (base := 0) (L := 0) (f := [0, 1, 2, 3, 5, 8]) (by decide) (by decide) (Nat.le_of_ble_eq_true rfl) rfl (.cons (At.blk (by kernel_rfl) (RnB.lit (.cons (.flat (by kernel_rfl)) (.cons (.flat (by kernel_rfl)) (.cons (.flat (by kernel_rfl)) (.cons (.flat (by kernel_rfl)) .nil)))))) (.cons (At.blk (by kernel_rfl) (RnB.lit (.cons (.flat (by kernel_rfl)) (.cons (.flat (by kernel_rfl)) .nil)))) (.cons (At.blk (by kernel_rfl) (RnB.lit (.cons (.flat (by kernel_rfl)) (.cons (.flat (by kernel_rfl)) .nil)))) (.cons (At.blk (by kernel_rfl) (RnB.lit (.cons (.flat (by kernel_rfl)) (.cons (.flat (by kernel_rfl)) .nil)))) (.cons (At.blk (by kernel_rfl) (RnB.lit (.cons (.flat (by kernel_rfl)) (.cons (.flat (by kernel_rfl)) .nil)))) (.cons At.accN (.nil _))))))) (LRn.stx [2, 3, 6, 7, 10, 11, 12, 13, 14, 15, 16, 17, 20] [pt 0 0, pt 1 0, pt 2 0, pt 3 0, iv m18.1, iv m18.2.1, iv m18.2.2, accV 5 (List.length ([])), iv r947, iv v317, iv v810, pt 4 0, iv r947] [pt 0 0, pt 1 0, pt 2 0, pt 3 0, iv m18.1, iv m18.2.1, iv m18.2.2, .slice none 0 0, iv r947, iv v317, iv v810, pt 5 0, iv r947] (.cons (Rn.ptr _ _ _ (Nat.le_of_ble_eq_true rfl) rfl) (.cons (Rn.ptr _ _ _ (Nat.le_of_ble_eq_true rfl) rfl) (.cons (Rn.ptr _ _ _ (Nat.le_of_ble_eq_true rfl) rfl) (.cons (Rn.ptr _ _ _ (Nat.le_of_ble_eq_true rfl) rfl) (.cons (.flat (by kernel_rfl)) (.cons (.flat (by kernel_rfl)) (.cons (.flat (by kernel_rfl)) (.cons (Rn.accN) (.cons (.flat (by kernel_rfl)) (.cons (.flat (by kernel_rfl)) (.cons (.flat (by kernel_rfl)) (.cons (Rn.ptr _ _ _ (Nat.le_of_ble_eq_true rfl) rfl) (.cons (.flat (by kernel_rfl)) .nil))))))))))))) (by kernel_rfl) (by kernel_rfl) rfl) rfl rfl) hK
      | false =>
        replace hF := of_neg hF rfl
        refine TS.cdF (.tmp 142) (TS.sk ?_)
        have hF := Option.some.inj hF
        subst hF
        exact TS.weak (Wk.anew (base := 0) (L := 0) (f := [0, 1, 2, 3, 5, 4]) (by decide) (by decide) (Nat.le_of_ble_eq_true rfl) rfl (.cons (At.blk (by kernel_rfl) (RnB.lit (.cons (.flat (by kernel_rfl)) (.cons (.flat (by kernel_rfl)) (.cons (.flat (by kernel_rfl)) (.cons (.flat (by kernel_rfl)) .nil)))))) (.cons (At.blk (by kernel_rfl) (RnB.lit (.cons (.flat (by kernel_rfl)) (.cons (.flat (by kernel_rfl)) .nil)))) (.cons (At.blk (by kernel_rfl) (RnB.lit (.cons (.flat (by kernel_rfl)) (.cons (.flat (by kernel_rfl)) .nil)))) (.cons (At.blk (by kernel_rfl) (RnB.lit (.cons (.flat (by kernel_rfl)) (.cons (.flat (by kernel_rfl)) .nil)))) (.cons (At.blk (by kernel_rfl) (RnB.lit (.cons (.flat (by kernel_rfl)) (.cons (.flat (by kernel_rfl)) .nil)))) (.cons (At.acc (by kernel_rfl) rfl (fun _ => rfl)) (.nil _))))))) (LRn.stx [2, 3, 6, 7, 10, 11, 12, 13, 14, 15, 16, 17, 20] [pt 0 0, pt 1 0, pt 2 0, pt 3 0, iv m18.1, iv m18.2.1, iv m18.2.2, accV 5 (List.length v808), iv v809, iv v317, iv v810, pt 4 0, iv r947] [pt 0 0, pt 1 0, pt 2 0, pt 3 0, iv m18.1, iv m18.2.1, iv m18.2.2, accV 4 (List.length v808), iv v809, iv v317, iv v810, pt 5 0, iv r947] (.cons (Rn.ptr _ _ _ (Nat.le_of_ble_eq_true rfl) rfl) (.cons (Rn.ptr _ _ _ (Nat.le_of_ble_eq_true rfl) rfl) (.cons (Rn.ptr _ _ _ (Nat.le_of_ble_eq_true rfl) rfl) (.cons (Rn.ptr _ _ _ (Nat.le_of_ble_eq_true rfl) rfl) (.cons (.flat (by kernel_rfl)) (.cons (.flat (by kernel_rfl)) (.cons (.flat (by kernel_rfl)) (.cons (Rn.acc (Nat.le_of_ble_eq_true rfl) rfl) (.cons (.flat (by kernel_rfl)) (.cons (.flat (by kernel_rfl)) (.cons (.flat (by kernel_rfl)) (.cons (Rn.ptr _ _ _ (Nat.le_of_ble_eq_true rfl) rfl) (.cons (.flat (by kernel_rfl)) .nil))))))))))))) (by kernel_rfl) (by kernel_rfl) rfl) rfl rfl) hK
    rcases Bool.eq_false_or_eq_true (decide (v809 < 0)) with hc949 | hc949
    · replace hm1016 := of_pos hm1016 hc949
      have hm1016 := Option.some.inj hm1016
      subst hm1016
      exact TS.rg (TI.ra 1 [2, 3, 6, 7, 10, 11, 12, 13, 14, 15, 16, 17, 20, 136] (st 188 [(2, pt 0 0), (3, pt 1 0), (6, pt 2 0), (7, pt 3 0), (10, iv m18.1), (11, iv m18.2.1), (12, iv m18.2.2), (13, accV 4 (List.length v808)), (14, iv v809), (15, iv v317), (16, iv v810), (17, pt 5 0), (20, iv r947), (136, iv v809)]) (TI.o { val := .bool true } (q_conv (e := decide (v809 < 0)) (b := true) (by kernel_rfl) hc949) [2, 3, 6, 7, 10, 11, 12, 13, 14, 15, 16, 17, 20, 137] [0, 1, 2, 3, 4, 5] (st 188 [(2, pt 0 0), (3, pt 1 0), (6, pt 2 0), (7, pt 3 0), (10, iv m18.1), (11, iv m18.2.1), (12, iv m18.2.2), (13, accV 4 (List.length v808)), (14, iv v809), (15, iv v317), (16, iv v810), (17, pt 5 0), (20, iv r947), (137, .bool true)]) (H65_8 p0 p1 p2 p3 p4 p5 r1 v808 v317 v810) (TI.ra 5 [2, 3, 6, 7, 10, 11, 12, 13, 14, 15, 16, 17, 20, 142] (st 188 [(2, pt 0 0), (3, pt 1 0), (6, pt 2 0), (7, pt 3 0), (10, iv m18.1), (11, iv m18.2.1), (12, iv m18.2.2), (13, accV 4 (List.length v808)), (14, iv v809), (15, iv v317), (16, iv v810), (17, pt 5 0), (20, iv r947), (142, .bool true)]) (TI.dn hK))))
    · replace hm1016 := of_neg hm1016 hc949
      have hm1016 := Option.some.inj hm1016
      subst hm1016
      exact TS.rg (TI.ra 1 [2, 3, 6, 7, 10, 11, 12, 13, 14, 15, 16, 17, 20, 136] (st 188 [(2, pt 0 0), (3, pt 1 0), (6, pt 2 0), (7, pt 3 0), (10, iv m18.1), (11, iv m18.2.1), (12, iv m18.2.2), (13, accV 4 (List.length v808)), (14, iv v809), (15, iv v317), (16, iv v810), (17, pt 5 0), (20, iv r947), (136, iv v809)]) (TI.o { val := .bool false } (q_conv (e := decide (v809 < 0)) (b := false) (by kernel_rfl) hc949) [2, 3, 6, 7, 10, 11, 12, 13, 14, 15, 16, 17, 20, 137] [0, 1, 2, 3, 4, 5] (st 188 [(2, pt 0 0), (3, pt 1 0), (6, pt 2 0), (7, pt 3 0), (10, iv m18.1), (11, iv m18.2.1), (12, iv m18.2.2), (13, accV 4 (List.length v808)), (14, iv v809), (15, iv v317), (16, iv v810), (17, pt 5 0), (20, iv r947), (137, .bool false)]) (H65_8 p0 p1 p2 p3 p4 p5 r1 v808 v317 v810) (TI.ra 5 [2, 3, 6, 7, 10, 11, 12, 13, 14, 15, 16, 17, 20, 142] (st 188 [(2, pt 0 0), (3, pt 1 0), (6, pt 2 0), (7, pt 3 0), (10, iv m18.1), (11, iv m18.2.1), (12, iv m18.2.2), (13, accV 4 (List.length v808)), (14, iv v809), (15, iv v317), (16, iv v810), (17, pt 5 0), (20, iv r947), (142, .bool (decide (r947 < v809)))]) (TI.dn hK))))
  · replace hF := of_neg hF hc944
    refine TS.ex 2 (NX.sqX ?_)
    have hF := Option.some.inj hF
    subst hF
    exact Rd.out (e := .exit 2) (by intro h; cases h) (And.intro rfl (Wk.anew (base := 0) (L := 0) (f := [0, 1, 2, 3, 4]) (by decide) (by decide) (Nat.le_of_ble_eq_true rfl) rfl (.cons (At.blk (by kernel_rfl) (RnB.lit (.cons (.flat (by kernel_rfl)) (.cons (.flat (by kernel_rfl)) (.cons (.flat (by kernel_rfl)) (.cons (.flat (by kernel_rfl)) .nil)))))) (.cons (At.blk (by kernel_rfl) (RnB.lit (.cons (.flat (by kernel_rfl)) (.cons (.flat (by kernel_rfl)) .nil)))) (.cons (At.blk (by kernel_rfl) (RnB.lit (.cons (.flat (by kernel_rfl)) (.cons (.flat (by kernel_rfl)) .nil)))) (.cons (At.blk (by kernel_rfl) (RnB.lit (.cons (.flat (by kernel_rfl)) (.cons (.flat (by kernel_rfl)) .nil)))) (.cons (At.acc (by kernel_rfl) rfl (fun _ => rfl)) (.nil _)))))) (LRn.stx [2, 3, 6, 7, 10, 11, 12, 13, 14, 15] [pt 0 0, pt 1 0, pt 2 0, pt 3 0, iv m18.1, iv m18.2.1, iv m18.2.2, accV 4 (List.length v808), iv v809, iv v317] [pt 0 0, pt 1 0, pt 2 0, pt 3 0, iv m18.1, iv m18.2.1, iv m18.2.2, accV 4 (List.length v808), iv v809, iv v317] (.cons (Rn.ptr _ _ _ (Nat.le_of_ble_eq_true rfl) rfl) (.cons (Rn.ptr _ _ _ (Nat.le_of_ble_eq_true rfl) rfl) (.cons (Rn.ptr _ _ _ (Nat.le_of_ble_eq_true rfl) rfl) (.cons (Rn.ptr _ _ _ (Nat.le_of_ble_eq_true rfl) rfl) (.cons (.flat (by kernel_rfl)) (.cons (.flat (by kernel_rfl)) (.cons (.flat (by kernel_rfl)) (.cons (Rn.acc (Nat.le_of_ble_eq_true rfl) rfl) (.cons (.flat (by kernel_rfl)) (.cons (.flat (by kernel_rfl)) .nil)))))))))) (by kernel_rfl) (by kernel_rfl) rfl) rfl rfl))
def P65l0 (p0 : Int) (p1 : Int) (p2 : Int) (p3 : Int) (p4 : Int) (p5 : Int) (m18 : (Int × Int × Int)) (r1 : ((Int × Int) × (Int × Int))) (r : ((List (Int × Int)) × Int)) : Post := fun e a h => e = .exit 0 ∧ Wk Try.prog 0 0 a h (st 188 [(13, accV 0 (List.length r.1)), (14, iv r.2)]) [accB 41 (List.length r.1) (List.flatMap e41 r.1)]
theorem L65l0 (p0 : Int) (p1 : Int) (p2 : Int) (p3 : Int) (p4 : Int) (p5 : Int) (m18 : (Int × Int × Int)) (r1 : ((Int × Int) × (Int × Int))) (v318 : (List (Int × Int))) (v316 : Int) (v317 : Int) (r : ((List (Int × Int)) × Int)) (hF : F65l0 p0 p1 p2 p3 p4 p5 m18 r1 v318 v316 v317 = some r) : TL Try.prog 0 0 c65.s2.s2.s2.s2.s2.s2.s2.s2.s1.s2.bd.bd (st 188 [(2, pt 0 0), (3, pt 1 0), (6, pt 2 0), (7, pt 3 0), (10, iv m18.1), (11, iv m18.2.1), (12, iv m18.2.2), (13, accV 4 (List.length v318)), (14, iv v316), (15, iv v317)]) (H65_12 p0 p1 p2 p3 p4 p5 r1 v318) (P65l0 p0 p1 p2 p3 p4 p5 m18 r1 r) := by
  refine F65l0.partial_correctness p0 p1 p2 p3 p4 p5 m18 r1 (motive := fun v318 v316 v317 r => TL Try.prog 0 0 c65.s2.s2.s2.s2.s2.s2.s2.s2.s1.s2.bd.bd (st 188 [(2, pt 0 0), (3, pt 1 0), (6, pt 2 0), (7, pt 3 0), (10, iv m18.1), (11, iv m18.2.1), (12, iv m18.2.2), (13, accV 4 (List.length v318)), (14, iv v316), (15, iv v317)]) (H65_12 p0 p1 p2 p3 p4 p5 r1 v318) (P65l0 p0 p1 p2 p3 p4 p5 m18 r1 r)) ?_ v318 v316 v317 r hF
  clear hF r v318 v316 v317
  intro again ih v318 v316 v317 r hF
  refine TL.round (TS.sq (TS.sq ?_))
  have hX := of_do hF
  clear hF
  obtain ⟨r670, h671, hF⟩ := hX
  refine TS.rg (TI.ra 3 [2, 3, 6, 7, 10, 11, 12, 13, 14, 15, 80, 81, 82] (st 188 [(2, pt 0 0), (3, pt 1 0), (6, pt 2 0), (7, pt 3 0), (10, iv m18.1), (11, iv m18.2.1), (12, iv m18.2.2), (13, accV 4 (List.length v318)), (14, iv v316), (15, iv v317), (80, iv v317), (81, iv m18.2.1), (82, iv m18.1)]) (TI.cf (C74 _ _ _ h671) (TI.ra 2 [2, 3, 6, 7, 10, 11, 12, 13, 14, 15, 85] (st 188 [(2, pt 0 0), (3, pt 1 0), (6, pt 2 0), (7, pt 3 0), (10, iv m18.1), (11, iv m18.2.1), (12, iv m18.2.2), (13, accV 4 (List.length v318)), (14, iv v316), (15, iv v317), (85, .bool (decide (v317 ≤ (w64 (r670 + 3)))))]) (TI.dn (NX.sq ?_)))))
  refine TS.cd (.tmp 85) (decide (v317 ≤ (w64 (r670 + 3)))) (fun hc672 => ?_) (fun hc672 => ?_)
  · replace hF := of_pos hF hc672
    refine TS.sk (NX.sq (TS.sq (TS.bk 1 (TS.sq ?_))))
    have hX := of_do hF
    clear hF
    obtain ⟨r673, h674, hF⟩ := hX
    refine TS.rg (TI.ra 2 [2, 3, 6, 7, 10, 11, 12, 13, 14, 15, 88, 89] (st 188 [(2, pt 0 0), (3, pt 1 0), (6, pt 2 0), (7, pt 3 0), (10, iv m18.1), (11, iv m18.2.1), (12, iv m18.2.2), (13, accV 4 (List.length v318)), (14, iv v316), (15, iv v317), (88, iv m18.2.2), (89, iv m18.1)]) (TI.cf (C74 _ _ _ h674) (TI.ra 2 [2, 3, 6, 7, 10, 11, 12, 13, 14, 15, 16] (st 188 [(2, pt 0 0), (3, pt 1 0), (6, pt 2 0), (7, pt 3 0), (10, iv m18.1), (11, iv m18.2.1), (12, iv m18.2.2), (13, accV 4 (List.length v318)), (14, iv v316), (15, iv v317), (16, iv (w64 (r673 - 2)))]) (TI.dn (NX.sq (TS.bk 2 ?_))))))
    have hX := of_do hF
    clear hF
    obtain ⟨r1017, h1018, hF⟩ := hX
    refine TS.lp (TL.weak (a2 := (st 188 [(2, pt 0 0), (3, pt 1 0), (6, pt 2 0), (7, pt 3 0), (10, iv m18.1), (11, iv m18.2.1), (12, iv m18.2.2), (13, accV 4 (List.length v318)), (14, iv v316), (15, iv v317), (16, iv (w64 (r673 - 2)))])) (h2 := (H65_12 p0 p1 p2 p3 p4 p5 r1 v318)) (Wk.anew (base := 0) (L := 0) (f := [0, 1, 2, 3, 4]) (by decide) (by decide) (Nat.le_of_ble_eq_true rfl) rfl (.cons (At.blk (by kernel_rfl) (RnB.lit (.cons (.flat (by kernel_rfl)) (.cons (.flat (by kernel_rfl)) (.cons (.flat (by kernel_rfl)) (.cons (.flat (by kernel_rfl)) .nil)))))) (.cons (At.blk (by kernel_rfl) (RnB.lit (.cons (.flat (by kernel_rfl)) (.cons (.flat (by kernel_rfl)) .nil)))) (.cons (At.blk (by kernel_rfl) (RnB.lit (.cons (.flat (by kernel_rfl)) (.cons (.flat (by kernel_rfl)) .nil)))) (.cons (At.blk (by kernel_rfl) (RnB.lit (.cons (.flat (by kernel_rfl)) (.cons (.flat (by kernel_rfl)) .nil)))) (.cons (At.acc (by kernel_rfl) rfl (fun _ => rfl)) (.nil _)))))) (LRn.stx [2, 3, 6, 7, 10, 11, 12, 13, 14, 15, 16] [pt 0 0, pt 1 0, pt 2 0, pt 3 0, iv m18.1, iv m18.2.1, iv m18.2.2, accV 4 (List.length v318), iv v316, iv v317, iv (w64 (r673 - 2))] [pt 0 0, pt 1 0, pt 2 0, pt 3 0, iv m18.1, iv m18.2.1, iv m18.2.2, accV 4 (List.length v318), iv v316, iv v317, iv (w64 (r673 - 2))] (.cons (Rn.ptr _ _ _ (Nat.le_of_ble_eq_true rfl) rfl) (.cons (Rn.ptr _ _ _ (Nat.le_of_ble_eq_true rfl) rfl) (.cons (Rn.ptr _ _ _ (Nat.le_of_ble_eq_true rfl) rfl) (.cons (Rn.ptr _ _ _ (Nat.le_of_ble_eq_true rfl) rfl) (.cons (.flat (by kernel_rfl)) (.cons (.flat (by kernel_rfl)) (.cons (.flat (by kernel_rfl)) (.cons (Rn.acc (Nat.le_of_ble_eq_true rfl) rfl) (.cons (.flat (by kernel_rfl)) (.cons (.flat (by kernel_rfl)) (.cons (.flat (by kernel_rfl)) .nil))))))))))) (by kernel_rfl) (by kernel_rfl) rfl) rfl rfl) (TL.post (L65l1 p0 p1 p2 p3 p4 p5 m18 r1 v317 v316 (w64 (r673 - 2)) v318 r1017 h1018) ?_))
    rintro e a1 h1 hp
    obtain ⟨rfl, hw⟩ := hp
    refine ⟨(st 188 [(2, pt 0 0), (3, pt 1 0), (6, pt 2 0), (7, pt 3 0), (10, iv m18.1), (11, iv m18.2.1), (12, iv m18.2.2), (13, accV 4 (List.length r1017.1)), (14, iv r1017.2), (15, iv v317)]), [cl 30 [iv p0, iv p1, iv p2, iv p3], cl 28 [iv p4, iv p5], cl 41 [iv r1.1.1, iv r1.1.2], cl 41 [iv r1.2.1, iv r1.2.2], accB 41 (List.length r1017.1) (List.flatMap e41 r1017.1)], (NX.bkX (NX.bk (NX.sq (TS.rg (TI.ra 3 [2, 3, 6, 7, 10, 11, 12, 13, 14, 15] (S65_10 m18 r1017 v317) (TI.dn ?_)))))), hw⟩
    exact Rd.again (a2 := (S65_10 m18 r1017 v317)) (h2 := [cl 30 [iv p0, iv p1, iv p2, iv p3], cl 28 [iv p4, iv p5], cl 41 [iv r1.1.1, iv r1.1.2], cl 41 [iv r1.2.1, iv r1.2.2], accB 41 (List.length r1017.1) (List.flatMap e41 r1017.1)]) (Wk.anew (base := 0) (L := 0) (f := [0, 1, 2, 3, 4]) (by decide) (by decide) (Nat.le_of_ble_eq_true rfl) rfl (.cons (At.blk (by kernel_rfl) (RnB.lit (.cons (.flat (by kernel_rfl)) (.cons (.flat (by kernel_rfl)) (.cons (.flat (by kernel_rfl)) (.cons (.flat (by kernel_rfl)) .nil)))))) (.cons (At.blk (by kernel_rfl) (RnB.lit (.cons (.flat (by kernel_rfl)) (.cons (.flat (by kernel_rfl)) .nil)))) (.cons (At.blk (by kernel_rfl) (RnB.lit (.cons (.flat (by kernel_rfl)) (.cons (.flat (by kernel_rfl)) .nil)))) (.cons (At.blk (by kernel_rfl) (RnB.lit (.cons (.flat (by kernel_rfl)) (.cons (.flat (by kernel_rfl)) .nil)))) (.cons (At.acc (by kernel_rfl) rfl (fun _ => rfl)) (.nil _)))))) (LRn.stx [2, 3, 6, 7, 10, 11, 12, 13, 14, 15] [pt 0 0, pt 1 0, pt 2 0, pt 3 0, iv m18.1, iv m18.2.1, iv m18.2.2, accV 4 (List.length r1017.1), iv r1017.2, iv (w64 (v317 + 1))] [pt 0 0, pt 1 0, pt 2 0, pt 3 0, iv m18.1, iv m18.2.1, iv m18.2.2, accV 4 (List.length r1017.1), iv r1017.2, iv (w64 (v317 + 1))] (.cons (Rn.ptr _ _ _ (Nat.le_of_ble_eq_true rfl) rfl) (.cons (Rn.ptr _ _ _ (Nat.le_of_ble_eq_true rfl) rfl) (.cons (Rn.ptr _ _ _ (Nat.le_of_ble_eq_true rfl) rfl) (.cons (Rn.ptr _ _ _ (Nat.le_of_ble_eq_true rfl) rfl) (.cons (.flat (by kernel_rfl)) (.cons (.flat (by kernel_rfl)) (.cons (.flat (by kernel_rfl)) (.cons (Rn.acc (Nat.le_of_ble_eq_true rfl) rfl) (.cons (.flat (by kernel_rfl)) (.cons (.flat (by kernel_rfl)) .nil)))))))))) (by kernel_rfl) (by kernel_rfl) rfl) rfl rfl) (ih r1017.1 r1017.2 (w64 (v317 + 1)) _ hF)
  · replace hF := of_neg hF hc672
    refine TS.ex 0 (NX.sqX ?_)
    have hF := Option.some.inj hF
    subst hF
    exact Rd.out (e := .exit 0) (by intro h; cases h) (And.intro rfl (Wk.anew (base := 0) (L := 0) (f := [4]) (by decide) (by decide) (Nat.le_of_ble_eq_true rfl) rfl (.cons (At.acc (by kernel_rfl) rfl (fun _ => rfl)) (.nil _)) (LRn.stx [13, 14] [accV 0 (List.length v318), iv v316] [accV 4 (List.length v318), iv v316] (.cons (Rn.acc (Nat.le_of_ble_eq_true rfl) rfl) (.cons (.flat (by kernel_rfl)) .nil)) (by kernel_rfl) (by kernel_rfl) rfl) rfl rfl))
theorem B65 (p0 : Int) (p1 : Int) (p2 : Int) (p3 : Int) (p4 : Int) (p5 : Int) (r : ((List (Int × Int)) × Int)) (hF : F65 p0 p1 p2 p3 p4 p5 = some r) : TS Try.prog 0 0 c65 (st 188 [(0, ag [iv p0, iv p1, iv p2, iv p3]), (1, ag [iv p4, iv p5])]) [] (NX Try.prog 0 0 [] (FinP Try.prog Try.f65 0 (V65 0 r) (N65 0 r))) := by
  unfold F65 at hF
  refine TS.sq (TS.rg (TI.rn 4 [2, 3] [0, 1] (st 188 [(2, pt 0 0), (3, pt 1 0)]) [cl 30 [iv p0, iv p1, iv p2, iv p3], cl 28 [iv p4, iv p5]] (TI.dn (NX.sq (TS.sq ?_)))))
  have hX := of_do hF
  clear hF
  obtain ⟨r1, h2, hF⟩ := hX
  refine TS.rg (TI.ra 1 [2, 3, 23] (st 188 [(2, pt 0 0), (3, pt 1 0), (23, ag [iv p0, iv p1, iv p2, iv p3])]) (TI.cf (C62 _ _ _ _ _ h2) (TI.rn 7 [2, 3, 6, 7] [0, 1, 2, 3] (st 188 [(2, pt 0 0), (3, pt 1 0), (6, pt 2 0), (7, pt 3 0)]) (H65_14 p0 p1 p2 p3 p4 p5 r1) (TI.dn (NX.sq (TS.sq ?_))))))
  have hX := of_do hF
  clear hF
  obtain ⟨r3, h4, hF⟩ := hX
  have hX := of_do hF
  clear hF
  obtain ⟨r5, h6, hF⟩ := hX
  have hT : ∀ e ∈ ([⟨57, [ag [iv p0, iv p1, iv p2, iv p3], ag [iv r1.1.1, iv r1.1.2]], (H65_14 p0 p1 p2 p3 p4 p5 r1), ag [iv r3.1, iv r3.2], []⟩, ⟨57, [ag [iv p0, iv p1, iv p2, iv p3], ag [iv r1.2.1, iv r1.2.2]], (H65_14 p0 p1 p2 p3 p4 p5 r1), ag [iv r5.1, iv r5.2], []⟩] : List Entry), PureSim Try.prog e.g e.args e.h e.v e.new := by
    intro e he
    simp only [List.mem_cons, List.not_mem_nil, or_false] at he
    rcases he with rfl | rfl
    · exact PureSim.ak (C57 _ _ _ _ _ _ _ h4)
    · exact PureSim.ak (C57 _ _ _ _ _ _ _ h6)
  refine TS.dp [⟨57, [ag [iv p0, iv p1, iv p2, iv p3], ag [iv r1.1.1, iv r1.1.2]], (H65_14 p0 p1 p2 p3 p4 p5 r1), ag [iv r3.1, iv r3.2], []⟩, ⟨57, [ag [iv p0, iv p1, iv p2, iv p3], ag [iv r1.2.1, iv r1.2.2]], (H65_14 p0 p1 p2 p3 p4 p5 r1), ag [iv r5.1, iv r5.2], []⟩] hT mixed 8 [2, 3, 6, 7, 8, 9] [0, 1, 2, 3, 4, 5] (st 188 [(2, pt 0 0), (3, pt 1 0), (6, pt 2 0), (7, pt 3 0), (8, pt 4 0), (9, pt 5 0)]) [cl 30 [iv p0, iv p1, iv p2, iv p3], cl 28 [iv p4, iv p5], cl 41 [iv r1.1.1, iv r1.1.2], cl 41 [iv r1.2.1, iv r1.2.2], cl 28 [iv r3.1, iv r3.2], cl 28 [iv r5.1, iv r5.2]] ?_ ?_
  · refine QJ.rn (qs (st 188 [(2, pt 0 0), (3, pt 1 0), (6, pt 2 0), (7, pt 3 0), (27, ag [iv p0, iv p1, iv p2, iv p3]), (28, ag [iv r1.1.1, iv r1.1.2])]) (H65_14 p0 p1 p2 p3 p4 p5 r1) [] []) 2 (QJ.o { val := ag [iv r3.1, iv r3.2], new := [] } (qOf_call (g := 57) (args := [ag [iv p0, iv p1, iv p2, iv p3], ag [iv r1.1.1, iv r1.1.2]]) (by kernel_rfl) lookC_hit) (QJ.rn (qs (st 188 [(2, pt 0 0), (3, pt 1 0), (6, pt 2 0), (7, pt 3 0), (27, ag [iv p0, iv p1, iv p2, iv p3]), (28, ag [iv r1.1.1, iv r1.1.2]), (29, ag [iv r3.1, iv r3.2]), (30, ag [iv p0, iv p1, iv p2, iv p3]), (31, ag [iv r1.2.1, iv r1.2.2])]) (H65_14 p0 p1 p2 p3 p4 p5 r1) [] []) 2 ?_))
    exact QJ.o { val := ag [iv r5.1, iv r5.2], new := [] } (qOf_call (g := 57) (args := [ag [iv p0, iv p1, iv p2, iv p3], ag [iv r1.2.1, iv r1.2.2]]) (by kernel_rfl) (lookC_skip (by intro _ ha _; have hr := Option.some.inj (h4.symm.trans (Eq.trans (congr (congr (congr (congr (congr (congrArg F57 (Eq.refl p0)) (Eq.refl p1)) (Eq.refl p2)) (Eq.refl p3)) (show r1.1.1 = r1.2.1 from congrArg (leafI 4) ha)) (show r1.1.2 = r1.2.2 from congrArg (leafI 5) ha)) h6)); first | (subst hr; rfl) | (cases hr; done) | (cases hr; rfl)) lookC_hit)) (QJ.rn (qs (st 188 [(2, pt 0 0), (3, pt 1 0), (6, pt 2 0), (7, pt 3 0), (8, pt 4 0), (9, pt 5 0), (27, ag [iv p0, iv p1, iv p2, iv p3]), (28, ag [iv r1.1.1, iv r1.1.2]), (29, ag [iv r3.1, iv r3.2]), (30, ag [iv p0, iv p1, iv p2, iv p3]), (31, ag [iv r1.2.1, iv r1.2.2]), (32, ag [iv r5.1, iv r5.2])]) [cl 30 [iv p0, iv p1, iv p2, iv p3], cl 28 [iv p4, iv p5], cl 41 [iv r1.1.1, iv r1.1.2], cl 41 [iv r1.2.1, iv r1.2.2], cl 28 [iv 0, iv 0], cl 28 [iv 0, iv 0]] [(7, 5, 6), (6, 4, 5)] []) 2 (QJ.dn ⟨rfl, SJ.la⟩))
  refine TS.sq (TS.rg (TI.ra 12 [2, 3, 6, 7, 8, 9, 10] (st 188 [(2, pt 0 0), (3, pt 1 0), (6, pt 2 0), (7, pt 3 0), (8, pt 4 0), (9, pt 5 0), (10, iv (w64 ((w64 (r3.1 * r5.2)) - (w64 (r3.2 * r5.1)))))]) (TI.dn (NX.sq (TS.sq ?_)))))
  refine TS.dp [] (fun e he => by cases he) mixed 25 [2, 3, 6, 7, 10, 11, 12] [0, 1, 2, 3] (st 188 [(2, pt 0 0), (3, pt 1 0), (6, pt 2 0), (7, pt 3 0), (10, iv (w64 ((w64 (r3.1 * r5.2)) - (w64 (r3.2 * r5.1))))), (11, iv (w64 (0 - (w64 ((w64 (p4 * r5.2)) - (w64 (p5 * r5.1))))))), (12, iv (w64 (0 - (w64 ((w64 (r3.1 * p5)) - (w64 (r3.2 * p4)))))))]) (H65_13 p0 p1 p2 p3 p4 p5 r1) ?_ ?_
  · exact QJ.rn (qs (st 188 [(2, pt 0 0), (3, pt 1 0), (6, pt 2 0), (7, pt 3 0), (8, pt 4 0), (9, pt 5 0), (10, iv (w64 ((w64 (r3.1 * r5.2)) - (w64 (r3.2 * r5.1))))), (11, iv (w64 (0 - (w64 ((w64 (p4 * r5.2)) - (w64 (p5 * r5.1))))))), (44, pt 1 0), (45, iv p4), (46, pt 5 1), (47, iv r5.2), (48, iv (w64 (p4 * r5.2))), (49, pt 1 1), (50, iv p5), (51, pt 5 0), (52, iv r5.1), (53, iv (w64 (p5 * r5.1))), (54, iv (w64 ((w64 (p4 * r5.2)) - (w64 (p5 * r5.1))))), (55, iv (w64 (0 - (w64 ((w64 (p4 * r5.2)) - (w64 (p5 * r5.1))))))), (56, pt 4 0), (57, iv r3.1), (58, pt 1 1), (59, iv p5), (60, iv (w64 (r3.1 * p5))), (61, pt 4 1), (62, iv r3.2), (63, pt 1 0), (64, iv p4), (65, iv (w64 (r3.2 * p4))), (66, iv (w64 ((w64 (r3.1 * p5)) - (w64 (r3.2 * p4))))), (67, iv (w64 (0 - (w64 ((w64 (r3.1 * p5)) - (w64 (r3.2 * p4)))))))]) [cl 30 [iv p0, iv p1, iv p2, iv p3], cl 28 [iv p4, iv p5], cl 41 [iv r1.1.1, iv r1.1.2], cl 41 [iv r1.2.1, iv r1.2.2], cl 28 [iv r3.1, iv r3.2], cl 28 [iv r5.1, iv r5.2]] [] []) 25 (QJ.dn ⟨rfl, SJ.la⟩)
  refine TS.sq (TS.sq (TS.rg (TI.ra 2 [2, 3, 6, 7, 10, 11, 12, 69] (st 188 [(2, pt 0 0), (3, pt 1 0), (6, pt 2 0), (7, pt 3 0), (10, iv (w64 ((w64 (r3.1 * r5.2)) - (w64 (r3.2 * r5.1))))), (11, iv (w64 (0 - (w64 ((w64 (p4 * r5.2)) - (w64 (p5 * r5.1))))))), (12, iv (w64 (0 - (w64 ((w64 (r3.1 * p5)) - (w64 (r3.2 * p4))))))), (69, .bool (decide ((w64 ((w64 (r3.1 * r5.2)) - (w64 (r3.2 * r5.1)))) < 0)))]) (TI.dn (NX.sq ?_)))))
  have hX := of_do hF
  clear hF
  obtain ⟨m18, hm19, hF⟩ := hX
  have hK : NX Try.prog 0 0 [.sq c65.s2.s2.s2.s2.s2.s2] (FinP Try.prog Try.f65 0 (V65 0 r) (N65 0 r)) .normal (st 188 [(2, pt 0 0), (3, pt 1 0), (6, pt 2 0), (7, pt 3 0), (10, iv m18.1), (11, iv m18.2.1), (12, iv m18.2.2)]) (H65_14 p0 p1 p2 p3 p4 p5 r1) := by
    refine NX.sq (TS.sq (TS.rg (TI.ra 1 [2, 3, 6, 7, 10, 11, 12, 13] (st 188 [(2, pt 0 0), (3, pt 1 0), (6, pt 2 0), (7, pt 3 0), (10, iv m18.1), (11, iv m18.2.1), (12, iv m18.2.2), (13, .slice none 0 0)]) (TI.dn (NX.sq (TS.sq (TS.rg (TI.ra 1 [2, 3, 6, 7, 10, 11, 12, 13, 14] (st 188 [(2, pt 0 0), (3, pt 1 0), (6, pt 2 0), (7, pt 3 0), (10, iv m18.1), (11, iv m18.2.1), (12, iv m18.2.2), (13, .slice none 0 0), (14, iv (-1))]) ?_))))))))
    refine TI.dn (NX.sq (TS.sq (TS.sq ?_)))
    have hX := of_do hF
    clear hF
    obtain ⟨r20, h21, hF⟩ := hX
    refine TS.rg (TI.ra 2 [2, 3, 6, 7, 10, 11, 12, 13, 14, 76, 77] (st 188 [(2, pt 0 0), (3, pt 1 0), (6, pt 2 0), (7, pt 3 0), (10, iv m18.1), (11, iv m18.2.1), (12, iv m18.2.2), (13, .slice none 0 0), (14, iv (-1)), (76, iv m18.2.1), (77, iv m18.1)]) (TI.cf (C74 _ _ _ h21) (TI.ra 2 [2, 3, 6, 7, 10, 11, 12, 13, 14, 15] (st 188 [(2, pt 0 0), (3, pt 1 0), (6, pt 2 0), (7, pt 3 0), (10, iv m18.1), (11, iv m18.2.1), (12, iv m18.2.2), (13, .slice none 0 0), (14, iv (-1)), (15, iv (w64 (r20 - 2)))]) (TI.dn (NX.sq (TS.bk 0 ?_))))))
    have hX := of_do hF
    clear hF
    obtain ⟨r1019, h1020, hF⟩ := hX
    refine TS.lp (TL.weak (a2 := (st 188 [(2, pt 0 0), (3, pt 1 0), (6, pt 2 0), (7, pt 3 0), (10, iv m18.1), (11, iv m18.2.1), (12, iv m18.2.2), (13, accV 4 (List.length ([]))), (14, iv (-1)), (15, iv (w64 (r20 - 2)))])) (h2 := [cl 30 [iv p0, iv p1, iv p2, iv p3], cl 28 [iv p4, iv p5], cl 41 [iv r1.1.1, iv r1.1.2], cl 41 [iv r1.2.1, iv r1.2.2], accB 41 (List.length ([])) (List.flatMap e41 ([]))]) (Wk.anew (base := 0) (L := 0) (f := [0, 1, 2, 3, 4]) (by decide) (by decide) (Nat.le_of_ble_eq_true rfl) rfl (.cons (At.blk (by kernel_rfl) (RnB.lit (.cons (.flat (by kernel_rfl)) (.cons (.flat (by kernel_rfl)) (.cons (.flat (by kernel_rfl)) (.cons (.flat (by kernel_rfl)) .nil)))))) (.cons (At.blk (by kernel_rfl) (RnB.lit (.cons (.flat (by kernel_rfl)) (.cons (.flat (by kernel_rfl)) .nil)))) (.cons (At.blk (by kernel_rfl) (RnB.lit (.cons (.flat (by kernel_rfl)) (.cons (.flat (by kernel_rfl)) .nil)))) (.cons (At.blk (by kernel_rfl) (RnB.lit (.cons (.flat (by kernel_rfl)) (.cons (.flat (by kernel_rfl)) .nil)))) (.cons At.accN (.nil _)))))) (LRn.stx [2, 3, 6, 7, 10, 11, 12, 13, 14, 15] [pt 0 0, pt 1 0, pt 2 0, pt 3 0, iv m18.1, iv m18.2.1, iv m18.2.2, accV 4 (List.length ([])), iv (-1), iv (w64 (r20 - 2))] [pt 0 0, pt 1 0, pt 2 0, pt 3 0, iv m18.1, iv m18.2.1, iv m18.2.2, .slice none 0 0, iv (-1), iv (w64 (r20 - 2))] (.cons (Rn.ptr _ _ _ (Nat.le_of_ble_eq_true rfl) rfl) (.cons (Rn.ptr _ _ _ (Nat.le_of_ble_eq_true rfl) rfl) (.cons (Rn.ptr _ _ _ (Nat.le_of_ble_eq_true rfl) rfl) (.cons (Rn.ptr _ _ _ (Nat.le_of_ble_eq_true rfl) rfl) (.cons (.flat (by kernel_rfl)) (.cons (.flat (by kernel_rfl)) (.cons (.flat (by kernel_rfl)) (.cons (Rn.accN) (.cons (.flat (by kernel_rfl)) (.cons (.flat (by kernel_rfl)) .nil)))))))))) (by kernel_rfl) (by kernel_rfl) rfl) rfl rfl) (TL.post (L65l0 p0 p1 p2 p3 p4 p5 m18 r1 ([]) (-1) (w64 (r20 - 2)) r1019 h1020) ?_))
    rintro e a1 h1 hp
    obtain ⟨rfl, hw⟩ := hp
    refine ⟨(st 188 [(13, accV 0 (List.length r1019.1)), (14, iv r1019.2)]), [accB 41 (List.length r1019.1) (List.flatMap e41 r1019.1)], (NX.bkX (NX.sq (TS.sq (TS.rg (TI.ra 4 [4, 5] (st 188 [(4, accV 0 (List.length r1019.1)), (5, iv r1019.2)]) (TI.dn (NX.sq (TS.rt ?_)))))))), hw⟩
    have hF := Option.some.inj hF
    subst hF
    exact ⟨.inr rfl, rfl, .tuple ⟨[accV 0 (List.length r1019.1), iv r1019.2]⟩, by kernel_rfl, WkV.made (L := 0) (f := [0]) (by decide) (by decide) rfl (.cons (At.acc (by kernel_rfl) rfl (fun _ => rfl)) (.nil _)) (Rn.tuple' (.cons (Rn.acc (Nat.le_of_ble_eq_true rfl) rfl) (.cons (.flat (by kernel_rfl)) .nil)))⟩
  clear hF
  have hF := hm19
  clear hm19
  refine TS.start ?_
  refine TS.cd (.tmp 69) (decide ((w64 ((w64 (r3.1 * r5.2)) - (w64 (r3.2 * r5.1)))) < 0)) (fun hc1021 => ?_) (fun hc1021 => ?_)
  · replace hF := of_pos hF hc1021
    have hX := of_do hF
    clear hF
    obtain ⟨o1022, h1023, hF⟩ := hX
    replace h1023 := Option.some.inj h1023
    have hX := of_do hF
    clear hF
    obtain ⟨o1024, h1025, hF⟩ := hX
    replace h1025 := Option.some.inj h1025
    refine TS.rg (TI.ra 3 [2, 3, 6, 7, 12, 71, 72] (st 188 [(2, pt 0 0), (3, pt 1 0), (6, pt 2 0), (7, pt 3 0), (12, iv (w64 (0 - (w64 ((w64 (r3.1 * p5)) - (w64 (r3.2 * p4))))))), (71, iv (w64 (0 - (w64 ((w64 (r3.1 * r5.2)) - (w64 (r3.2 * r5.1))))))), (72, iv (w64 (0 - (w64 ((w64 (p4 * r5.2)) - (w64 (p5 * r5.1)))))))]) (TI.o { val := iv o1022 } (q_convI (e := w64 (0 - (w64 (0 - (w64 ((w64 (p4 * r5.2)) - (w64 (p5 * r5.1)))))))) (y := o1022) (by kernel_rfl) h1023) [2, 3, 6, 7, 12, 71, 73] [0, 1, 2, 3] (st 188 [(2, pt 0 0), (3, pt 1 0), (6, pt 2 0), (7, pt 3 0), (12, iv (w64 (0 - (w64 ((w64 (r3.1 * p5)) - (w64 (r3.2 * p4))))))), (71, iv (w64 (0 - (w64 ((w64 (r3.1 * r5.2)) - (w64 (r3.2 * r5.1))))))), (73, iv o1022)]) (H65_13 p0 p1 p2 p3 p4 p5 r1) (TI.ra 1 [2, 3, 6, 7, 71, 73, 74] (st 188 [(2, pt 0 0), (3, pt 1 0), (6, pt 2 0), (7, pt 3 0), (71, iv (w64 (0 - (w64 ((w64 (r3.1 * r5.2)) - (w64 (r3.2 * r5.1))))))), (73, iv o1022), (74, iv (w64 (0 - (w64 ((w64 (r3.1 * p5)) - (w64 (r3.2 * p4)))))))]) (TI.o { val := iv o1024 } (q_convI (e := w64 (0 - (w64 (0 - (w64 ((w64 (r3.1 * p5)) - (w64 (r3.2 * p4)))))))) (y := o1024) (by kernel_rfl) h1025) [2, 3, 6, 7, 71, 73, 75] [0, 1, 2, 3] (st 188 [(2, pt 0 0), (3, pt 1 0), (6, pt 2 0), (7, pt 3 0), (71, iv (w64 (0 - (w64 ((w64 (r3.1 * r5.2)) - (w64 (r3.2 * r5.1))))))), (73, iv o1022), (75, iv o1024)]) (H65_13 p0 p1 p2 p3 p4 p5 r1) (TI.ra 3 [2, 3, 6, 7, 10, 11, 12] (st 188 [(2, pt 0 0), (3, pt 1 0), (6, pt 2 0), (7, pt 3 0), (10, iv (w64 (0 - (w64 ((w64 (r3.1 * r5.2)) - (w64 (r3.2 * r5.1))))))), (11, iv o1022), (12, iv o1024)]) (TI.dn ?_))))))
    have hF := Option.some.inj hF
    subst hF
    exact TS.weak (Wk.anew (base := 0) (L := 0) (f := [0, 1, 2, 3]) (by decide) (by decide) (Nat.le_of_ble_eq_true rfl) rfl (.cons (At.blk (by kernel_rfl) (RnB.lit (.cons (.flat (by kernel_rfl)) (.cons (.flat (by kernel_rfl)) (.cons (.flat (by kernel_rfl)) (.cons (.flat (by kernel_rfl)) .nil)))))) (.cons (At.blk (by kernel_rfl) (RnB.lit (.cons (.flat (by kernel_rfl)) (.cons (.flat (by kernel_rfl)) .nil)))) (.cons (At.blk (by kernel_rfl) (RnB.lit (.cons (.flat (by kernel_rfl)) (.cons (.flat (by kernel_rfl)) .nil)))) (.cons (At.blk (by kernel_rfl) (RnB.lit (.cons (.flat (by kernel_rfl)) (.cons (.flat (by kernel_rfl)) .nil)))) (.nil _))))) (LRn.stx [2, 3, 6, 7, 10, 11, 12] [pt 0 0, pt 1 0, pt 2 0, pt 3 0, iv (w64 (0 - (w64 ((w64 (r3.1 * r5.2)) - (w64 (r3.2 * r5.1)))))), iv o1022, iv o1024] [pt 0 0, pt 1 0, pt 2 0, pt 3 0, iv (w64 (0 - (w64 ((w64 (r3.1 * r5.2)) - (w64 (r3.2 * r5.1)))))), iv o1022, iv o1024] (.cons (Rn.ptr _ _ _ (Nat.le_of_ble_eq_true rfl) rfl) (.cons (Rn.ptr _ _ _ (Nat.le_of_ble_eq_true rfl) rfl) (.cons (Rn.ptr _ _ _ (Nat.le_of_ble_eq_true rfl) rfl) (.cons (Rn.ptr _ _ _ (Nat.le_of_ble_eq_true rfl) rfl) (.cons (.flat (by kernel_rfl)) (.cons (.flat (by kernel_rfl)) (.cons (.flat (by kernel_rfl)) .nil))))))) (by kernel_rfl) (by kernel_rfl) rfl) rfl rfl) hK
  · replace hF := of_neg hF hc1021
    refine TS.sk ?_
    have hF := Option.some.inj hF
    subst hF
    exact TS.weak (Wk.anew (base := 0) (L := 0) (f := [0, 1, 2, 3]) (by decide) (by decide) (Nat.le_of_ble_eq_true rfl) rfl (.cons (At.blk (by kernel_rfl) (RnB.lit (.cons (.flat (by kernel_rfl)) (.cons (.flat (by kernel_rfl)) (.cons (.flat (by kernel_rfl)) (.cons (.flat (by kernel_rfl)) .nil)))))) (.cons (At.blk (by kernel_rfl) (RnB.lit (.cons (.flat (by kernel_rfl)) (.cons (.flat (by kernel_rfl)) .nil)))) (.cons (At.blk (by kernel_rfl) (RnB.lit (.cons (.flat (by kernel_rfl)) (.cons (.flat (by kernel_rfl)) .nil)))) (.cons (At.blk (by kernel_rfl) (RnB.lit (.cons (.flat (by kernel_rfl)) (.cons (.flat (by kernel_rfl)) .nil)))) (.nil _))))) (LRn.stx [2, 3, 6, 7, 10, 11, 12] [pt 0 0, pt 1 0, pt 2 0, pt 3 0, iv (w64 ((w64 (r3.1 * r5.2)) - (w64 (r3.2 * r5.1)))), iv (w64 (0 - (w64 ((w64 (p4 * r5.2)) - (w64 (p5 * r5.1)))))), iv (w64 (0 - (w64 ((w64 (r3.1 * p5)) - (w64 (r3.2 * p4))))))] [pt 0 0, pt 1 0, pt 2 0, pt 3 0, iv (w64 ((w64 (r3.1 * r5.2)) - (w64 (r3.2 * r5.1)))), iv (w64 (0 - (w64 ((w64 (p4 * r5.2)) - (w64 (p5 * r5.1)))))), iv (w64 (0 - (w64 ((w64 (r3.1 * p5)) - (w64 (r3.2 * p4))))))] (.cons (Rn.ptr _ _ _ (Nat.le_of_ble_eq_true rfl) rfl) (.cons (Rn.ptr _ _ _ (Nat.le_of_ble_eq_true rfl) rfl) (.cons (Rn.ptr _ _ _ (Nat.le_of_ble_eq_true rfl) rfl) (.cons (Rn.ptr _ _ _ (Nat.le_of_ble_eq_true rfl) rfl) (.cons (.flat (by kernel_rfl)) (.cons (.flat (by kernel_rfl)) (.cons (.flat (by kernel_rfl)) .nil))))))) (by kernel_rfl) (by kernel_rfl) rfl) rfl rfl) hK
theorem C65 (p0 : Int) (p1 : Int) (p2 : Int) (p3 : Int) (p4 : Int) (p5 : Int) (r : ((List (Int × Int)) × Int)) (hF : F65 p0 p1 p2 p3 p4 p5 = some r) : PureSim Try.prog 65 [ag [iv p0, iv p1, iv p2, iv p3], ag [iv p4, iv p5]] [] (V65 0 r) (N65 0 r) :=
  PureSim.of_Fin Try.func65 (c := c65) (by kernel_rfl) (by kernel_rfl) 0 rfl [0, 1] [] (by kernel_rfl) (B65 p0 p1 p2 p3 p4 p5 r hF)

-- agonic/agonicref06.Best
noncomputable def c29 : Code := Try.f29.code
def S29_0 (r4 : ((List (Int × Int)) × Int)) (o7 : (Int × Int)) (p4 : Int) (r9 : (Int × Int)) (p5 : Int) : CAct := (st 49 [(3, pt 1 0), (4, pt 2 0), (5, pt 3 0), (6, iv 0), (9, accV 5 (List.length r4.1)), (11, pt 6 0), (35, accV 5 (List.length r4.1)), (36, .pointer (some ⟨5, 0 + (Int.toNat 0) * 2, none⟩)), (37, ag [iv o7.1, iv o7.2]), (38, pt 1 0), (39, iv p4), (40, pt 6 0), (41, iv r9.1), (42, iv (w64 (p4 + r9.1))), (43, pt 1 1), (44, iv p5), (45, pt 6 1), (46, iv r9.2), (47, iv (w64 (p5 + r9.2))), (48, ag [iv (w64 (p4 + r9.1)), iv (w64 (p5 + r9.2))])])
def S29_1 (r4 : ((List (Int × Int)) × Int)) (o7 : (Int × Int)) (p4 : Int) (r9 : (Int × Int)) (p5 : Int) : CAct := (st 49 [(3, pt 1 0), (4, pt 2 0), (5, pt 3 0), (9, accV 5 (List.length r4.1)), (11, pt 6 0), (35, accV 5 (List.length r4.1)), (36, .pointer (some ⟨5, 0 + (Int.toNat 0) * 2, none⟩)), (37, ag [iv o7.1, iv o7.2]), (38, pt 1 0), (39, iv p4), (40, pt 6 0), (41, iv r9.1), (42, iv (w64 (p4 + r9.1))), (43, pt 1 1), (44, iv p5), (45, pt 6 1), (46, iv r9.2), (47, iv (w64 (p5 + r9.2))), (48, ag [iv (w64 (p4 + r9.1)), iv (w64 (p5 + r9.2))])])
def S29_2 (r4 : ((List (Int × Int)) × Int)) (o7 : (Int × Int)) : CAct := (st 49 [(3, pt 1 0), (4, pt 2 0), (5, pt 3 0), (9, accV 5 (List.length r4.1)), (11, pt 6 0), (35, accV 5 (List.length r4.1)), (36, .pointer (some ⟨5, 0 + (Int.toNat 0) * 2, none⟩)), (37, ag [iv o7.1, iv o7.2])])
def S29_3 (r4 : ((List (Int × Int)) × Int)) : CAct := (st 49 [(3, pt 1 0), (4, pt 2 0), (5, pt 3 0), (9, accV 5 (List.length r4.1)), (11, pt 6 0), (35, accV 5 (List.length r4.1)), (36, .pointer (some ⟨5, 0 + (Int.toNat 0) * 2, none⟩))])
def H29_4 (p4 : Int) (p5 : Int) (o7 : (Int × Int)) (r4 : ((List (Int × Int)) × Int)) (r9 : (Int × Int)) : List Blk := [.dead, cl 28 [iv p4, iv p5], cl 41 [iv o7.1, iv o7.2], cl 28 [iv 0, iv 0], .dead, accB 41 (List.length r4.1) (List.flatMap e41 r4.1), cl 28 [iv r9.1, iv r9.2]]
def H29_5 (p0 : Int) (p1 : Int) (p2 : Int) (p3 : Int) (p4 : Int) (p5 : Int) (r4 : ((List (Int × Int)) × Int)) : List Blk := [cl 30 [iv p0, iv p1, iv p2, iv p3], cl 28 [iv p4, iv p5], cl 41 [iv 0, iv 0], cl 28 [iv 0, iv 0], .dead, accB 41 (List.length r4.1) (List.flatMap e41 r4.1)]
def H29_6 (p4 : Int) (p5 : Int) (r4 : ((List (Int × Int)) × Int)) (r9 : (Int × Int)) : List Blk := [.dead, cl 28 [iv p4, iv p5], cl 41 [iv 0, iv 0], cl 28 [iv 0, iv 0], .dead, accB 41 (List.length r4.1) (List.flatMap e41 r4.1), cl 28 [iv r9.1, iv r9.2]]
def S29_7 (r4 : ((List (Int × Int)) × Int)) : CAct := (st 49 [(3, pt 1 0), (4, pt 2 0), (5, pt 3 0), (9, accV 5 (List.length r4.1)), (11, pt 6 0), (35, accV 5 (List.length r4.1))])
def F29 (p0 : Int) (p1 : Int) (p2 : Int) (p3 : Int) (p4 : Int) (p5 : Int) : Option ((Int × Int) × (Int × Int) × Int) :=
  F17 p0 p1 p2 p3 p4 p5 0 0 >>= fun r1 =>
  if r1.2 != 0 then
    some ((0, 0), (0, 0), r1.2)
  else
    F65 p0 p1 p2 p3 p4 p5 >>= fun r4 =>
    if (0 : Int) ≤ 0 ∧ 0 < (List.length r4.1 : Int) then
      some (List.getD r4.1 (Int.toNat 0) (0, 0)) >>= fun o7 =>
      F57 p0 p1 p2 p3 o7.1 o7.2 >>= fun r9 =>
      some ((o7.1, o7.2), (w64 (p4 + r9.1), w64 (p5 + r9.2)), 0)
    else none
def V29 (b : Nat) (r : ((Int × Int) × (Int × Int) × Int)) : Value := .tuple ⟨[ag [iv r.1.1, iv r.1.2], ag [iv r.2.1.1, iv r.2.1.2], iv r.2.2]⟩
def N29 (b : Nat) (r : ((Int × Int) × (Int × Int) × Int)) : List Blk := []
theorem B29 (p0 : Int) (p1 : Int) (p2 : Int) (p3 : Int) (p4 : Int) (p5 : Int) (r : ((Int × Int) × (Int × Int) × Int)) (hF : F29 p0 p1 p2 p3 p4 p5 = some r) : TS Try.prog 0 0 c29 (st 49 [(0, ag [iv p0, iv p1, iv p2, iv p3]), (1, ag [iv p4, iv p5])]) [] (NX Try.prog 0 0 [] (FinP Try.prog Try.f29 0 (V29 0 r) (N29 0 r))) := by
  unfold F29 at hF
  refine TS.sq (TS.rg (TI.rn 5 [2, 3, 4, 5] [0, 1, 2, 3] (st 49 [(2, pt 0 0), (3, pt 1 0), (4, pt 2 0), (5, pt 3 0)]) [cl 30 [iv p0, iv p1, iv p2, iv p3], cl 28 [iv p4, iv p5], cl 41 [iv 0, iv 0], cl 28 [iv 0, iv 0]] (TI.dn (NX.sq (TS.sq ?_)))))
  have hX := of_do hF
  clear hF
  obtain ⟨r1, h2, hF⟩ := hX
  refine TS.rg (TI.ra 3 [2, 3, 4, 5, 13, 14, 15] (st 49 [(2, pt 0 0), (3, pt 1 0), (4, pt 2 0), (5, pt 3 0), (13, ag [iv p0, iv p1, iv p2, iv p3]), (14, ag [iv p4, iv p5]), (15, ag [iv 0, iv 0])]) (TI.cf (C17 _ _ _ _ _ _ _ _ _ h2) (TI.rn 6 [2, 3, 4, 5, 8] [0, 1, 2, 3] (st 49 [(2, pt 0 0), (3, pt 1 0), (4, pt 2 0), (5, pt 3 0), (8, iv r1.2)]) [cl 30 [iv p0, iv p1, iv p2, iv p3], cl 28 [iv p4, iv p5], cl 41 [iv 0, iv 0], cl 28 [iv 0, iv 0], .dead] (TI.dn (NX.sq (TS.sq (TS.sq (TS.rg ?_))))))))
  refine TI.ra 2 [2, 3, 4, 5, 8, 20] (st 49 [(2, pt 0 0), (3, pt 1 0), (4, pt 2 0), (5, pt 3 0), (8, iv r1.2), (20, .bool (r1.2 != 0))]) (TI.dn (NX.sq ?_))
  refine TS.cd (.tmp 20) (r1.2 != 0) (fun hc3 => ?_) (fun hc3 => ?_)
  · replace hF := of_pos hF hc3
    refine TS.sq (TS.rg (TI.rn 6 [4, 5, 6] [2, 3] (st 49 [(4, pt 2 0), (5, pt 3 0), (6, iv r1.2)]) [.dead, .dead, cl 41 [iv 0, iv 0], cl 28 [iv 0, iv 0], .dead] (TI.dn (NX.sq (TS.rt (NX.sqR ?_))))))
    have hF := Option.some.inj hF
    subst hF
    exact ⟨.inr rfl, rfl, .tuple ⟨[ag [iv 0, iv 0], ag [iv 0, iv 0], iv r1.2]⟩, by kernel_rfl, WkV.flat0 (by kernel_rfl) (Nat.le_of_ble_eq_true rfl)⟩
  · replace hF := of_neg hF hc3
    refine TS.sk (NX.sq (TS.sq ?_))
    have hX := of_do hF
    clear hF
    obtain ⟨r4, h5, hF⟩ := hX
    refine TS.rg (TI.ra 2 [2, 3, 4, 5, 25, 26] (st 49 [(2, pt 0 0), (3, pt 1 0), (4, pt 2 0), (5, pt 3 0), (25, ag [iv p0, iv p1, iv p2, iv p3]), (26, ag [iv p4, iv p5])]) (TI.cp 65 [ag [iv p0, iv p1, iv p2, iv p3], ag [iv p4, iv p5]] (.tuple ⟨[accV 5 (List.length r4.1), iv r4.2]⟩) [accB 41 (List.length r4.1) (List.flatMap e41 r4.1)] (PureSim.ren (hc := []) (fun i => List.getD [] i (0, 0)) (C65 _ _ _ _ _ _ _ h5) (.nil _) (.cons (.flat (by kernel_rfl)) (.cons (.flat (by kernel_rfl)) .nil)) (Rn.tuple' (.cons (Rn.acc (i' := 5) (Nat.le_of_ble_eq_true rfl) rfl) (.cons (.flat (by kernel_rfl)) .nil))) (newflat_cons (accB_flat (fun _ => rfl)) newflat_nil)) (TI.rn 5 [2, 3, 4, 5, 9] [0, 1, 2, 3, 5] (st 49 [(2, pt 0 0), (3, pt 1 0), (4, pt 2 0), (5, pt 3 0), (9, accV 5 (List.length r4.1))]) (H29_5 p0 p1 p2 p3 p4 p5 r4) (TI.dn (NX.sq (TS.sq ?_))))))
    have hX := of_guard hF
    clear hF
    obtain ⟨hg6, hF⟩ := hX
    have hX := of_do hF
    clear hF
    obtain ⟨o7, h8, hF⟩ := hX
    replace h8 := Option.some.inj h8
    have hX := of_do hF
    clear hF
    obtain ⟨r9, h10, hF⟩ := hX
    have hT : ∀ e ∈ ([⟨57, [ag [iv p0, iv p1, iv p2, iv p3], ag [iv o7.1, iv o7.2]], (H29_5 p0 p1 p2 p3 p4 p5 r4), ag [iv r9.1, iv r9.2], []⟩] : List Entry), PureSim Try.prog e.g e.args e.h e.v e.new := by
      intro e he
      simp only [List.mem_cons, List.not_mem_nil, or_false] at he
      rcases he with rfl
      · exact PureSim.ak (C57 _ _ _ _ _ _ _ h10)
    refine TS.dp [⟨57, [ag [iv p0, iv p1, iv p2, iv p3], ag [iv o7.1, iv o7.2]], (H29_5 p0 p1 p2 p3 p4 p5 r4), ag [iv r9.1, iv r9.2], []⟩] hT mixed 6 [3, 4, 5, 9, 11] [1, 2, 3, 5, 6] (st 49 [(3, pt 1 0), (4, pt 2 0), (5, pt 3 0), (9, accV 5 (List.length r4.1)), (11, pt 6 0)]) (H29_6 p4 p5 r4 r9) ?_ ?_
    · refine QJ.rn (qs (st 49 [(2, pt 0 0), (3, pt 1 0), (4, pt 2 0), (5, pt 3 0), (9, accV 5 (List.length r4.1)), (30, ag [iv p0, iv p1, iv p2, iv p3]), (31, accV 5 (List.length r4.1))]) (H29_5 p0 p1 p2 p3 p4 p5 r4) [] []) 2 (QJ.o { val := .pointer (some ⟨5, 0 + (Int.toNat 0) * 2, none⟩) } (q_ixAcc (P := Try.prog) (t := 63) (s := 2) (e := 41) 5 (List.length r4.1) (by kernel_rfl) hg6 (by kernel_rfl) (by kernel_rfl)) ?_)
      exact QJ.o { val := ag [iv o7.1, iv o7.2] } (q_eqv (q_ldA (P := Try.prog) (hp := (H29_5 p0 p1 p2 p3 p4 p5 r4)) (t := 41) (b := 5) (off := 0 + (Int.toNat 0) * 2) (l := r4.1) (enc := e41) (s := 2) (T := 41) (i := Int.toNat 0) (by kernel_rfl) (accB_at (h := (H29_5 p0 p1 p2 p3 p4 p5 r4)) (n := List.length r4.1) (i := Int.toNat 0) (by kernel_rfl) (by first | omega | (simp only [List.length_set, List.length_replicate, List.length_cons, List.length_nil, List.length_append]; omega))) (by kernel_rfl) (by kernel_rfl) (fun _ => rfl) (by omega) (by first | omega | (simp only [List.length_set, List.length_replicate, List.length_cons, List.length_nil, List.length_append]; omega)) (0, 0)) (congrArg (fun (z : (Int × Int)) => ({ val := ag [iv z.1, iv z.2] } : QRes)) h8)) (QJ.o { val := ag [iv r9.1, iv r9.2], new := [] } (qOf_call (g := 57) (args := [ag [iv p0, iv p1, iv p2, iv p3], ag [iv o7.1, iv o7.2]]) (by kernel_rfl) lookC_hit) (QJ.rn (qs (st 49 [(2, pt 0 0), (3, pt 1 0), (4, pt 2 0), (5, pt 3 0), (9, accV 5 (List.length r4.1)), (11, pt 6 0), (30, ag [iv p0, iv p1, iv p2, iv p3]), (31, accV 5 (List.length r4.1)), (32, .pointer (some ⟨5, 0 + (Int.toNat 0) * 2, none⟩)), (33, ag [iv o7.1, iv o7.2]), (34, ag [iv r9.1, iv r9.2])]) [cl 30 [iv p0, iv p1, iv p2, iv p3], cl 28 [iv p4, iv p5], cl 41 [iv 0, iv 0], cl 28 [iv 0, iv 0], .dead, accB 41 (List.length r4.1) (List.flatMap e41 r4.1), cl 28 [iv 0, iv 0]] [(5, 6, 7)] []) 1 (QJ.dn ⟨rfl, SJ.la⟩)))
    refine TS.sq ?_
    refine TS.draw' (id := 6) (b := true) (ops := c29.s2.s2.s2.s2.s2.s1.rops) (fin := (qs (S29_1 r4 o7 p4 r9 p5) (H29_4 p4 p5 o7 r4 r9) [] [(14, 2)])) (fin2 := (qs (S29_1 r4 o7 p4 r9 p5) (H29_4 p4 p5 o7 r4 r9) [] [(14, 2)])) (a1 := (S29_0 r4 o7 p4 r9 p5)) (h1 := [.dead, cl 28 [iv p4, iv p5], cl 41 [iv o7.1, iv o7.2], cl 28 [iv (w64 (p4 + r9.1)), iv (w64 (p5 + r9.2))], .dead, accB 41 (List.length r4.1) (List.flatMap e41 r4.1), cl 28 [iv r9.1, iv r9.2]]) (a2 := (st 49 [(4, pt 2 0), (5, pt 3 0), (6, iv 0)])) (h2 := [.dead, .dead, cl 41 [iv o7.1, iv o7.2], cl 28 [iv (w64 (p4 + r9.1)), iv (w64 (p5 + r9.2))], .dead, .dead, .dead]) [] (fun e he => by cases he) mixed (by kernel_rfl) rfl 15 (by kernel_rfl) [(14, 2)] ?_ rfl (.inr ⟨?_, (by kernel_rfl)⟩) ?_ [4, 5, 6] [2, 3] (by kernel_rfl) ?_
    · refine QI.run (s1 := (qs (S29_7 r4) (H29_6 p4 p5 r4 r9) [] [])) 1 (by kernel_rfl) (by kernel_rfl) (QI.op (q := { val := .pointer (some ⟨5, 0 + (Int.toNat 0) * 2, none⟩) }) (s1 := (qs (S29_3 r4) (H29_6 p4 p5 r4 r9) [] [])) (by decide) (q_ixAcc (P := Try.prog) (t := 63) (s := 2) (e := 41) 5 (List.length r4.1) (by kernel_rfl) hg6 (by kernel_rfl) (by kernel_rfl)) (by kernel_rfl) ?_)
      exact QI.op (q := { val := ag [iv o7.1, iv o7.2] }) (s1 := (qs (S29_2 r4 o7) (H29_6 p4 p5 r4 r9) [] [])) (by decide) (q_eqv (q_ldA (P := Try.prog) (hp := (H29_6 p4 p5 r4 r9)) (t := 41) (b := 5) (off := 0 + (Int.toNat 0) * 2) (l := r4.1) (enc := e41) (s := 2) (T := 41) (i := Int.toNat 0) (by kernel_rfl) (accB_at (h := (H29_6 p4 p5 r4 r9)) (n := List.length r4.1) (i := Int.toNat 0) (by kernel_rfl) (by first | omega | (simp only [List.length_set, List.length_replicate, List.length_cons, List.length_nil, List.length_append]; omega))) (by kernel_rfl) (by kernel_rfl) (fun _ => rfl) (by omega) (by first | omega | (simp only [List.length_set, List.length_replicate, List.length_cons, List.length_nil, List.length_append]; omega)) (0, 0)) (congrArg (fun (z : (Int × Int)) => ({ val := ag [iv z.1, iv z.2] } : QRes)) h8)) (by kernel_rfl) (QI.run (s1 := (qs (S29_1 r4 o7 p4 r9 p5) (H29_4 p4 p5 o7 r4 r9) [] [(14, 2)])) 12 (by kernel_rfl) (by kernel_rfl) (QI.done (by kernel_rfl)))
    · refine QI.run (s1 := (qs (S29_7 r4) (H29_6 p4 p5 r4 r9) [] [])) 1 (by kernel_rfl) (by kernel_rfl) (QI.op (q := { val := .pointer (some ⟨5, 0 + (Int.toNat 0) * 2, none⟩) }) (s1 := (qs (S29_3 r4) (H29_6 p4 p5 r4 r9) [] [])) (by decide) (q_ixAcc (P := Try.prog) (t := 63) (s := 2) (e := 41) 5 (List.length r4.1) (by kernel_rfl) hg6 (by kernel_rfl) (by kernel_rfl)) (by kernel_rfl) ?_)
      exact QI.op (q := { val := ag [iv o7.1, iv o7.2] }) (s1 := (qs (S29_2 r4 o7) (H29_6 p4 p5 r4 r9) [] [])) (by decide) (q_eqv (q_ldA (P := Try.prog) (hp := (H29_6 p4 p5 r4 r9)) (t := 41) (b := 5) (off := 0 + (Int.toNat 0) * 2) (l := r4.1) (enc := e41) (s := 2) (T := 41) (i := Int.toNat 0) (by kernel_rfl) (accB_at (h := (H29_6 p4 p5 r4 r9)) (n := List.length r4.1) (i := Int.toNat 0) (by kernel_rfl) (by first | omega | (simp only [List.length_set, List.length_replicate, List.length_cons, List.length_nil, List.length_append]; omega))) (by kernel_rfl) (by kernel_rfl) (fun _ => rfl) (by omega) (by first | omega | (simp only [List.length_set, List.length_replicate, List.length_cons, List.length_nil, List.length_append]; omega)) (0, 0)) (congrArg (fun (z : (Int × Int)) => ({ val := ag [iv z.1, iv z.2] } : QRes)) h8)) (by kernel_rfl) (QI.run (s1 := (qs (S29_1 r4 o7 p4 r9 p5) (H29_4 p4 p5 o7 r4 r9) [] [(14, 2)])) 12 (by kernel_rfl) (by kernel_rfl) (QI.done (by kernel_rfl)))
    · exact SI.run (a2 := (S29_0 r4 o7 p4 r9 p5)) (h2 := [.dead, cl 28 [iv p4, iv p5], cl 41 [iv o7.1, iv o7.2], cl 28 [iv (w64 (p4 + r9.1)), iv (w64 (p5 + r9.2))], .dead, accB 41 (List.length r4.1) (List.flatMap e41 r4.1), cl 28 [iv r9.1, iv r9.2]]) 2 (by kernel_rfl) (SI.done (by kernel_rfl))
    refine TS.rt ?_
    have hF := Option.some.inj hF
    subst hF
    exact ⟨.inr rfl, rfl, .tuple ⟨[ag [iv o7.1, iv o7.2], ag [iv (w64 (p4 + r9.1)), iv (w64 (p5 + r9.2))], iv 0]⟩, by kernel_rfl, WkV.flat0 (by kernel_rfl) (Nat.le_of_ble_eq_true rfl)⟩
theorem C29 (p0 : Int) (p1 : Int) (p2 : Int) (p3 : Int) (p4 : Int) (p5 : Int) (r : ((Int × Int) × (Int × Int) × Int)) (hF : F29 p0 p1 p2 p3 p4 p5 = some r) : PureSim Try.prog 29 [ag [iv p0, iv p1, iv p2, iv p3], ag [iv p4, iv p5]] [] (V29 0 r) (N29 0 r) :=
  PureSim.of_Fin Try.func29 (c := c29) (by kernel_rfl) (by kernel_rfl) 0 rfl [0, 1] [] (by kernel_rfl) (B29 p0 p1 p2 p3 p4 p5 r hF)

-- agonic/agonicref06.All
noncomputable def c31 : Code := Try.f31.code
def F31 (p0 : Int) (p1 : Int) (p2 : Int) (p3 : Int) (p4 : Int) (p5 : Int) : Option ((List (Int × Int)) × Int) :=
  F17 p0 p1 p2 p3 p4 p5 0 0 >>= fun r1 =>
  if r1.2 != 0 then
    some ([], r1.2)
  else
    F65 p0 p1 p2 p3 p4 p5 >>= fun r4 =>
    some (r4.1, 0)
def V31 (b : Nat) (r : ((List (Int × Int)) × Int)) : Value := .tuple ⟨[accV (b + 0) (List.length r.1), iv r.2]⟩
def N31 (b : Nat) (r : ((List (Int × Int)) × Int)) : List Blk := [accB 41 (List.length r.1) (List.flatMap e41 r.1)]
theorem B31 (p0 : Int) (p1 : Int) (p2 : Int) (p3 : Int) (p4 : Int) (p5 : Int) (r : ((List (Int × Int)) × Int)) (hF : F31 p0 p1 p2 p3 p4 p5 = some r) : TS Try.prog 0 0 c31 (st 27 [(0, ag [iv p0, iv p1, iv p2, iv p3]), (1, ag [iv p4, iv p5])]) [] (NX Try.prog 0 0 [] (FinP Try.prog Try.f31 0 (V31 0 r) (N31 0 r))) := by
  unfold F31 at hF
  refine TS.sq (TS.rg (TI.rn 4 [2, 3] [0, 1] (st 27 [(2, pt 0 0), (3, pt 1 0)]) [cl 30 [iv p0, iv p1, iv p2, iv p3], cl 28 [iv p4, iv p5]] (TI.dn (NX.sq (TS.sq ?_)))))
  have hX := of_do hF
  clear hF
  obtain ⟨r1, h2, hF⟩ := hX
  refine TS.rg (TI.ra 3 [2, 3, 11, 12, 13] (st 27 [(2, pt 0 0), (3, pt 1 0), (11, ag [iv p0, iv p1, iv p2, iv p3]), (12, ag [iv p4, iv p5]), (13, ag [iv 0, iv 0])]) (TI.cf (C17 _ _ _ _ _ _ _ _ _ h2) (TI.rn 6 [2, 3, 7] [0, 1] (st 27 [(2, pt 0 0), (3, pt 1 0), (7, iv r1.2)]) [cl 30 [iv p0, iv p1, iv p2, iv p3], cl 28 [iv p4, iv p5], .dead] (TI.dn (NX.sq (TS.sq (TS.sq (TS.rg ?_))))))))
  refine TI.ra 2 [2, 3, 7, 18] (st 27 [(2, pt 0 0), (3, pt 1 0), (7, iv r1.2), (18, .bool (r1.2 != 0))]) (TI.dn (NX.sq ?_))
  refine TS.cd (.tmp 18) (r1.2 != 0) (fun hc3 => ?_) (fun hc3 => ?_)
  · replace hF := of_pos hF hc3
    refine TS.sq (TS.rg (TI.rn 3 [4, 5] [] (st 27 [(4, .slice none 0 0), (5, iv r1.2)]) [.dead, .dead, .dead] (TI.dn (NX.sq (TS.rt (NX.sqR ?_))))))
    have hF := Option.some.inj hF
    subst hF
    exact ⟨.inr rfl, rfl, .tuple ⟨[.slice none 0 0, iv r1.2]⟩, by kernel_rfl, WkV.made (L := 0) (f := [3]) (by decide) (by decide) rfl (.cons At.accN (.nil _)) (Rn.tuple' (.cons Rn.accN (.cons (.flat (by kernel_rfl)) .nil)))⟩
  · replace hF := of_neg hF hc3
    refine TS.sk (NX.sq (TS.sq ?_))
    have hX := of_do hF
    clear hF
    obtain ⟨r4, h5, hF⟩ := hX
    refine TS.rg (TI.rn 2 [21, 22] [] (st 27 [(21, ag [iv p0, iv p1, iv p2, iv p3]), (22, ag [iv p4, iv p5])]) [.dead, .dead, .dead] (TI.cp 65 [ag [iv p0, iv p1, iv p2, iv p3], ag [iv p4, iv p5]] (.tuple ⟨[accV 3 (List.length r4.1), iv r4.2]⟩) [accB 41 (List.length r4.1) (List.flatMap e41 r4.1)] (PureSim.ren (hc := []) (fun i => List.getD [] i (0, 0)) (C65 _ _ _ _ _ _ _ h5) (.nil _) (.cons (.flat (by kernel_rfl)) (.cons (.flat (by kernel_rfl)) .nil)) (Rn.tuple' (.cons (Rn.acc (i' := 3) (Nat.le_of_ble_eq_true rfl) rfl) (.cons (.flat (by kernel_rfl)) .nil))) (newflat_cons (accB_flat (fun _ => rfl)) newflat_nil)) (TI.rn 5 [8] [3] (st 27 [(8, accV 3 (List.length r4.1))]) [.dead, .dead, .dead, accB 41 (List.length r4.1) (List.flatMap e41 r4.1)] (TI.dn (NX.sq (TS.sq (TS.rg (TI.ra 3 [4, 5] (st 27 [(4, accV 3 (List.length r4.1)), (5, iv 0)]) ?_))))))))
    refine TI.dn (NX.sq (TS.rt ?_))
    have hF := Option.some.inj hF
    subst hF
    exact ⟨.inr rfl, rfl, .tuple ⟨[accV 3 (List.length r4.1), iv 0]⟩, by kernel_rfl, WkV.made (L := 0) (f := [3]) (by decide) (by decide) rfl (.cons (At.acc (by kernel_rfl) rfl (fun _ => rfl)) (.nil _)) (Rn.tuple' (.cons (Rn.acc (Nat.le_of_ble_eq_true rfl) rfl) (.cons (.flat (by kernel_rfl)) .nil)))⟩
theorem C31 (p0 : Int) (p1 : Int) (p2 : Int) (p3 : Int) (p4 : Int) (p5 : Int) (r : ((List (Int × Int)) × Int)) (hF : F31 p0 p1 p2 p3 p4 p5 = some r) : PureSim Try.prog 31 [ag [iv p0, iv p1, iv p2, iv p3], ag [iv p4, iv p5]] [] (V31 0 r) (N31 0 r) :=
  PureSim.of_Fin Try.func31 (c := c31) (by kernel_rfl) (by kernel_rfl) 0 rfl [0, 1] [] (by kernel_rfl) (B31 p0 p1 p2 p3 p4 p5 r hF)

-- agonic/agoniclaw06.chosen
noncomputable def c19 : Code := Try.f19.code
def F19 (p0 : Int) (p1 : Int) : Option (Int × Int) :=
  some (p0, p1)
def V19 (b : Nat) (r : (Int × Int)) : Value := ag [iv r.1, iv r.2]
def N19 (b : Nat) (r : (Int × Int)) : List Blk := []
theorem B19 (p0 : Int) (p1 : Int) (r : (Int × Int)) (hF : F19 p0 p1 = some r) : TS Try.prog 0 0 c19 (st 4 [(0, ag [iv p0, iv p1])]) [] (NX Try.prog 0 0 [] (FinP Try.prog Try.f19 0 (V19 0 r) (N19 0 r))) := by
  unfold F19 at hF
  refine TS.sq (TS.rg (TI.rn 2 [1, 2] [0, 1] (st 4 [(1, pt 0 0), (2, pt 1 0)]) [cl 27 [iv p0, iv p1], cl 41 [iv 0, iv 0]] (TI.dn (NX.sq (TS.sq (TS.rg (TI.rn 2 [2] [1] (st 4 [(2, pt 1 0)]) [.dead, cl 41 [iv p0, iv p1]] (TI.dn ?_))))))))
  refine NX.sq (TS.rt ?_)
  have hF := Option.some.inj hF
  subst hF
  exact ⟨.inr rfl, rfl, ag [iv p0, iv p1], by kernel_rfl, WkV.flat0 (by kernel_rfl) (Nat.le_of_ble_eq_true rfl)⟩
theorem C19 (p0 : Int) (p1 : Int) (r : (Int × Int)) (hF : F19 p0 p1 = some r) : PureSim Try.prog 19 [ag [iv p0, iv p1]] [] (V19 0 r) (N19 0 r) :=
  PureSim.of_Fin Try.func19 (c := c19) (by kernel_rfl) (by kernel_rfl) 0 rfl [0] [] (by kernel_rfl) (B19 p0 p1 r hF)

-- agonic/agonicref06.Complete
noncomputable def c27 : Code := Try.f27.code
def S27_0 (p4 : Int) (p7 : Int) (p5 : Int) (p6 : Int) : CAct := (st 47 [(7, iv (w64 ((w64 (p4 * p7)) - (w64 (p5 * p6))))), (8, pt 3 0), (27, iv (w64 ((w64 (p4 * p7)) - (w64 (p5 * p6)))))])
def S27_1 (p4 : Int) (p7 : Int) (p5 : Int) (p6 : Int) : CAct := (st 47 [(8, pt 3 0), (29, .bool false), (30, iv (w64 ((w64 (p4 * p7)) - (w64 (p5 * p6)))))])
def S27_2 (p4 : Int) (p7 : Int) (p5 : Int) (p6 : Int) : CAct := (st 47 [(7, iv (w64 ((w64 (p4 * p7)) - (w64 (p5 * p6))))), (8, pt 3 0), (28, .bool false)])
def S27_3 (p4 : Int) (p7 : Int) (p5 : Int) (p6 : Int) : CAct := (st 47 [(7, iv (w64 ((w64 (p4 * p7)) - (w64 (p5 * p6))))), (8, pt 3 0), (28, .bool true)])
def H27_4 (p0 : Int) (p1 : Int) (p2 : Int) (p3 : Int) (p4 : Int) (p5 : Int) (p6 : Int) (p7 : Int) : List Blk := [cl 30 [iv p0, iv p1, iv p2, iv p3], cl 41 [iv p4, iv p5], cl 41 [iv p6, iv p7]]
def S27_5 (r1 : (Int × Int)) : CAct := (st 47 [(8, pt 3 0), (33, .bool true), (35, ag [iv r1.1, iv r1.2])])
def S27_6 (r3 : (Int × Int)) : CAct := (st 47 [(8, pt 3 0), (38, .bool true), (40, ag [iv r3.1, iv r3.2])])
def H27_7 (r1 : (Int × Int)) (r3 : (Int × Int)) : List Blk := [.dead, .dead, .dead, cl 30 [iv r1.1, iv r1.2, iv r3.1, iv r3.2]]
def F27 (p0 : Int) (p1 : Int) (p2 : Int) (p3 : Int) (p4 : Int) (p5 : Int) (p6 : Int) (p7 : Int) : Option Bool :=
  F57 p0 p1 p2 p3 p4 p5 >>= fun r1 =>
  F57 p0 p1 p2 p3 p6 p7 >>= fun r3 =>
  (
    if (w64 ((w64 (p4 * p7)) - (w64 (p5 * p6)))) == 1 then
      F55 r1.1 r1.2 2000 >>= fun r6 =>
      if r6 then
        F55 r3.1 r3.2 2000 >>= fun r8 =>
        if r8 then
          F51 r1.1 r1.2 r3.1 r3.2 >>= fun r10 =>
          some (r10)
        else
          some (false)
      else
        some (false)
    else
      if (w64 ((w64 (p4 * p7)) - (w64 (p5 * p6)))) == (-1) then
        F55 r1.1 r1.2 2000 >>= fun r13 =>
        if r13 then
          F55 r3.1 r3.2 2000 >>= fun r15 =>
          if r15 then
            F51 r1.1 r1.2 r3.1 r3.2 >>= fun r17 =>
            some (r17)
          else
            some (false)
        else
          some (false)
      else
        some (false)
  : Option Bool) >>= fun m19 =>
  some m19
def V27 (b : Nat) (r : Bool) : Value := .bool r
def N27 (b : Nat) (r : Bool) : List Blk := []
theorem B27 (p0 : Int) (p1 : Int) (p2 : Int) (p3 : Int) (p4 : Int) (p5 : Int) (p6 : Int) (p7 : Int) (r : Bool) (hF : F27 p0 p1 p2 p3 p4 p5 p6 p7 = some r) : TS Try.prog 0 0 c27 (st 47 [(0, ag [iv p0, iv p1, iv p2, iv p3]), (1, ag [iv p4, iv p5]), (2, ag [iv p6, iv p7])]) [] (NX Try.prog 0 0 [] (FinP Try.prog Try.f27 0 (V27 0 r) (N27 0 r))) := by
  unfold F27 at hF
  refine TS.sq (TS.rg (TI.rn 4 [3, 4, 5] [0, 1, 2] (st 47 [(3, pt 0 0), (4, pt 1 0), (5, pt 2 0)]) (H27_4 p0 p1 p2 p3 p4 p5 p6 p7) (TI.dn (NX.sq (TS.sq (TS.rg (TI.ra 12 [3, 4, 5, 7] (st 47 [(3, pt 0 0), (4, pt 1 0), (5, pt 2 0), (7, iv (w64 ((w64 (p4 * p7)) - (w64 (p5 * p6)))))]) (TI.dn ?_))))))))
  refine NX.sq (TS.sq ?_)
  have hX := of_do hF
  clear hF
  obtain ⟨r1, h2, hF⟩ := hX
  have hX := of_do hF
  clear hF
  obtain ⟨r3, h4, hF⟩ := hX
  have hT : ∀ e ∈ ([⟨57, [ag [iv p0, iv p1, iv p2, iv p3], ag [iv p4, iv p5]], (H27_4 p0 p1 p2 p3 p4 p5 p6 p7), ag [iv r1.1, iv r1.2], []⟩, ⟨57, [ag [iv p0, iv p1, iv p2, iv p3], ag [iv p6, iv p7]], (H27_4 p0 p1 p2 p3 p4 p5 p6 p7), ag [iv r3.1, iv r3.2], []⟩] : List Entry), PureSim Try.prog e.g e.args e.h e.v e.new := by
    intro e he
    simp only [List.mem_cons, List.not_mem_nil, or_false] at he
    rcases he with rfl | rfl
    · exact PureSim.ak (C57 _ _ _ _ _ _ _ h2)
    · exact PureSim.ak (C57 _ _ _ _ _ _ _ h4)
  refine TS.dp [⟨57, [ag [iv p0, iv p1, iv p2, iv p3], ag [iv p4, iv p5]], (H27_4 p0 p1 p2 p3 p4 p5 p6 p7), ag [iv r1.1, iv r1.2], []⟩, ⟨57, [ag [iv p0, iv p1, iv p2, iv p3], ag [iv p6, iv p7]], (H27_4 p0 p1 p2 p3 p4 p5 p6 p7), ag [iv r3.1, iv r3.2], []⟩] hT mixed 8 [7, 8] [3] (st 47 [(7, iv (w64 ((w64 (p4 * p7)) - (w64 (p5 * p6))))), (8, pt 3 0)]) (H27_7 r1 r3) ?_ ?_
  · refine QJ.rn (qs (st 47 [(3, pt 0 0), (4, pt 1 0), (5, pt 2 0), (7, iv (w64 ((w64 (p4 * p7)) - (w64 (p5 * p6))))), (20, ag [iv p0, iv p1, iv p2, iv p3]), (21, ag [iv p4, iv p5])]) (H27_4 p0 p1 p2 p3 p4 p5 p6 p7) [] []) 2 (QJ.o { val := ag [iv r1.1, iv r1.2], new := [] } (qOf_call (g := 57) (args := [ag [iv p0, iv p1, iv p2, iv p3], ag [iv p4, iv p5]]) (by kernel_rfl) lookC_hit) (QJ.rn (qs (st 47 [(3, pt 0 0), (4, pt 1 0), (5, pt 2 0), (7, iv (w64 ((w64 (p4 * p7)) - (w64 (p5 * p6))))), (20, ag [iv p0, iv p1, iv p2, iv p3]), (21, ag [iv p4, iv p5]), (22, ag [iv r1.1, iv r1.2]), (23, ag [iv p0, iv p1, iv p2, iv p3]), (24, ag [iv p6, iv p7])]) (H27_4 p0 p1 p2 p3 p4 p5 p6 p7) [] []) 2 ?_))
    exact QJ.o { val := ag [iv r3.1, iv r3.2], new := [] } (qOf_call (g := 57) (args := [ag [iv p0, iv p1, iv p2, iv p3], ag [iv p6, iv p7]]) (by kernel_rfl) (lookC_skip (by intro _ ha _; have hr := Option.some.inj (h2.symm.trans (Eq.trans (congr (congr (congr (congr (congr (congrArg F57 (Eq.refl p0)) (Eq.refl p1)) (Eq.refl p2)) (Eq.refl p3)) (show p4 = p6 from congrArg (leafI 4) ha)) (show p5 = p7 from congrArg (leafI 5) ha)) h4)); first | (subst hr; rfl) | (cases hr; done) | (cases hr; rfl)) lookC_hit)) (QJ.rn (qs (st 47 [(3, pt 0 0), (4, pt 1 0), (5, pt 2 0), (7, iv (w64 ((w64 (p4 * p7)) - (w64 (p5 * p6))))), (8, pt 3 0), (20, ag [iv p0, iv p1, iv p2, iv p3]), (21, ag [iv p4, iv p5]), (22, ag [iv r1.1, iv r1.2]), (23, ag [iv p0, iv p1, iv p2, iv p3]), (24, ag [iv p6, iv p7]), (25, ag [iv r3.1, iv r3.2]), (26, ag [iv r1.1, iv r1.2, iv r3.1, iv r3.2])]) [cl 30 [iv p0, iv p1, iv p2, iv p3], cl 41 [iv p4, iv p5], cl 41 [iv p6, iv p7], cl 30 [iv 0, iv 0, iv 0, iv 0]] [(7, 3, 4)] []) 2 (QJ.dn ⟨rfl, SJ.la⟩))
  refine TS.sq ?_
  have hX := of_do hF
  clear hF
  obtain ⟨m19, hm20, hF⟩ := hX
  have hK : NX Try.prog 0 0 [.sq c27.s2.s2.s2.s2] (FinP Try.prog Try.f27 0 (V27 0 r) (N27 0 r)) .normal (st 47 [(6, .bool m19)]) [.dead, .dead, .dead, .dead] := by
    refine NX.sq (TS.rt ?_)
    have hF := Option.some.inj hF
    subst hF
    exact ⟨.inr rfl, rfl, .bool m19, by kernel_rfl, WkV.flat0 (by kernel_rfl) (Nat.le_of_ble_eq_true rfl)⟩
  rcases Bool.eq_false_or_eq_true ((w64 ((w64 (p4 * p7)) - (w64 (p5 * p6)))) == 1) with hc5 | hc5
  · replace hm20 := of_pos hm20 hc5
    have hX := of_do hm20
    clear hm20
    obtain ⟨r6, h7, hm20⟩ := hX
    cases r6 with
    | true =>
      replace hm20 := of_pos hm20 rfl
      have hX := of_do hm20
      clear hm20
      obtain ⟨r8, h9, hm20⟩ := hX
      cases r8 with
      | true =>
        replace hm20 := of_pos hm20 rfl
        have hX := of_do hm20
        clear hm20
        obtain ⟨r10, h11, hm20⟩ := hX
        have hm20 := Option.some.inj hm20
        subst hm20
        refine TS.rg (TI.ra 1 [7, 8, 27] (S27_0 p4 p7 p5 p6) (TI.o { val := .bool true } (q_conv (e := (w64 ((w64 (p4 * p7)) - (w64 (p5 * p6)))) == 1) (b := true) (by kernel_rfl) hc5) [7, 8, 28] [3] (S27_3 p4 p7 p5 p6) (H27_7 r1 r3) (TI.ra 7 [8, 33, 35] (S27_5 r1) (TI.cf (C55 _ _ _ _ h7) (TI.ra 4 [8, 38, 40] (S27_6 r3) (TI.cf (C55 _ _ _ _ h9) (TI.rn 3 [43, 44] [] (st 47 [(43, .bool true), (44, ag [iv r1.1, iv r1.2, iv r3.1, iv r3.2])]) [.dead, .dead, .dead, .dead] (TI.cf (C51 _ _ _ _ _ h11) ?_))))))))
        exact TI.ra 2 [6] (st 47 [(6, .bool r10)]) (TI.dn hK)
      | false =>
        replace hm20 := of_neg hm20 rfl
        have hm20 := Option.some.inj hm20
        subst hm20
        refine TS.rg (TI.ra 1 [7, 8, 27] (S27_0 p4 p7 p5 p6) (TI.o { val := .bool true } (q_conv (e := (w64 ((w64 (p4 * p7)) - (w64 (p5 * p6)))) == 1) (b := true) (by kernel_rfl) hc5) [7, 8, 28] [3] (S27_3 p4 p7 p5 p6) (H27_7 r1 r3) (TI.ra 7 [8, 33, 35] (S27_5 r1) (TI.cf (C55 _ _ _ _ h7) (TI.ra 4 [8, 38, 40] (S27_6 r3) (TI.cf (C55 _ _ _ _ h9) (TI.rn 6 [6] [] (st 47 [(6, .bool false)]) [.dead, .dead, .dead, .dead] (TI.dn ?_))))))))
        exact hK
    | false =>
      replace hm20 := of_neg hm20 rfl
      have hm20 := Option.some.inj hm20
      subst hm20
      exact TS.rg (TI.ra 1 [7, 8, 27] (S27_0 p4 p7 p5 p6) (TI.o { val := .bool true } (q_conv (e := (w64 ((w64 (p4 * p7)) - (w64 (p5 * p6)))) == 1) (b := true) (by kernel_rfl) hc5) [7, 8, 28] [3] (S27_3 p4 p7 p5 p6) (H27_7 r1 r3) (TI.ra 7 [8, 33, 35] (S27_5 r1) (TI.cf (C55 _ _ _ _ h7) (TI.rn 11 [6] [] (st 47 [(6, .bool false)]) [.dead, .dead, .dead, .dead] (TI.dn hK))))))
  · replace hm20 := of_neg hm20 hc5
    rcases Bool.eq_false_or_eq_true ((w64 ((w64 (p4 * p7)) - (w64 (p5 * p6)))) == (-1)) with hc12 | hc12
    · replace hm20 := of_pos hm20 hc12
      have hX := of_do hm20
      clear hm20
      obtain ⟨r13, h14, hm20⟩ := hX
      cases r13 with
      | true =>
        replace hm20 := of_pos hm20 rfl
        have hX := of_do hm20
        clear hm20
        obtain ⟨r15, h16, hm20⟩ := hX
        cases r15 with
        | true =>
          replace hm20 := of_pos hm20 rfl
          have hX := of_do hm20
          clear hm20
          obtain ⟨r17, h18, hm20⟩ := hX
          have hm20 := Option.some.inj hm20
          subst hm20
          refine TS.rg (TI.ra 1 [7, 8, 27] (S27_0 p4 p7 p5 p6) (TI.o { val := .bool false } (q_conv (e := (w64 ((w64 (p4 * p7)) - (w64 (p5 * p6)))) == 1) (b := false) (by kernel_rfl) hc5) [7, 8, 28] [3] (S27_2 p4 p7 p5 p6) (H27_7 r1 r3) (TI.ra 2 [8, 29, 30] (S27_1 p4 p7 p5 p6) (TI.o { val := .bool true } (q_conv (e := (w64 ((w64 (p4 * p7)) - (w64 (p5 * p6)))) == (-1)) (b := true) (by kernel_rfl) hc12) [8, 29, 31] [3] (st 47 [(8, pt 3 0), (29, .bool false), (31, .bool true)]) (H27_7 r1 r3) (TI.ra 4 [8, 33, 35] (S27_5 r1) (TI.cf (C55 _ _ _ _ h14) (TI.ra 4 [8, 38, 40] (S27_6 r3) (TI.cf (C55 _ _ _ _ h16) ?_))))))))
          exact TI.rn 3 [43, 44] [] (st 47 [(43, .bool true), (44, ag [iv r1.1, iv r1.2, iv r3.1, iv r3.2])]) [.dead, .dead, .dead, .dead] (TI.cf (C51 _ _ _ _ _ h18) (TI.ra 2 [6] (st 47 [(6, .bool r17)]) (TI.dn hK)))
        | false =>
          replace hm20 := of_neg hm20 rfl
          have hm20 := Option.some.inj hm20
          subst hm20
          refine TS.rg (TI.ra 1 [7, 8, 27] (S27_0 p4 p7 p5 p6) (TI.o { val := .bool false } (q_conv (e := (w64 ((w64 (p4 * p7)) - (w64 (p5 * p6)))) == 1) (b := false) (by kernel_rfl) hc5) [7, 8, 28] [3] (S27_2 p4 p7 p5 p6) (H27_7 r1 r3) (TI.ra 2 [8, 29, 30] (S27_1 p4 p7 p5 p6) (TI.o { val := .bool true } (q_conv (e := (w64 ((w64 (p4 * p7)) - (w64 (p5 * p6)))) == (-1)) (b := true) (by kernel_rfl) hc12) [8, 29, 31] [3] (st 47 [(8, pt 3 0), (29, .bool false), (31, .bool true)]) (H27_7 r1 r3) (TI.ra 4 [8, 33, 35] (S27_5 r1) (TI.cf (C55 _ _ _ _ h14) (TI.ra 4 [8, 38, 40] (S27_6 r3) (TI.cf (C55 _ _ _ _ h16) ?_))))))))
          exact TI.rn 6 [6] [] (st 47 [(6, .bool false)]) [.dead, .dead, .dead, .dead] (TI.dn hK)
      | false =>
        replace hm20 := of_neg hm20 rfl
        have hm20 := Option.some.inj hm20
        subst hm20
        refine TS.rg (TI.ra 1 [7, 8, 27] (S27_0 p4 p7 p5 p6) (TI.o { val := .bool false } (q_conv (e := (w64 ((w64 (p4 * p7)) - (w64 (p5 * p6)))) == 1) (b := false) (by kernel_rfl) hc5) [7, 8, 28] [3] (S27_2 p4 p7 p5 p6) (H27_7 r1 r3) (TI.ra 2 [8, 29, 30] (S27_1 p4 p7 p5 p6) (TI.o { val := .bool true } (q_conv (e := (w64 ((w64 (p4 * p7)) - (w64 (p5 * p6)))) == (-1)) (b := true) (by kernel_rfl) hc12) [8, 29, 31] [3] (st 47 [(8, pt 3 0), (29, .bool false), (31, .bool true)]) (H27_7 r1 r3) (TI.ra 4 [8, 33, 35] (S27_5 r1) (TI.cf (C55 _ _ _ _ h14) (TI.rn 11 [6] [] (st 47 [(6, .bool false)]) [.dead, .dead, .dead, .dead] (TI.dn ?_))))))))
        exact hK
    · replace hm20 := of_neg hm20 hc12
      have hm20 := Option.some.inj hm20
      subst hm20
      exact TS.rg (TI.ra 1 [7, 8, 27] (S27_0 p4 p7 p5 p6) (TI.o { val := .bool false } (q_conv (e := (w64 ((w64 (p4 * p7)) - (w64 (p5 * p6)))) == 1) (b := false) (by kernel_rfl) hc5) [7, 8, 28] [3] (S27_2 p4 p7 p5 p6) (H27_7 r1 r3) (TI.ra 2 [8, 29, 30] (S27_1 p4 p7 p5 p6) (TI.o { val := .bool false } (q_conv (e := (w64 ((w64 (p4 * p7)) - (w64 (p5 * p6)))) == (-1)) (b := false) (by kernel_rfl) hc12) [8, 29, 31] [3] (st 47 [(8, pt 3 0), (29, .bool false), (31, .bool false)]) (H27_7 r1 r3) (TI.rn 16 [6] [] (st 47 [(6, .bool false)]) [.dead, .dead, .dead, .dead] (TI.dn hK))))))
theorem C27 (p0 : Int) (p1 : Int) (p2 : Int) (p3 : Int) (p4 : Int) (p5 : Int) (p6 : Int) (p7 : Int) (r : Bool) (hF : F27 p0 p1 p2 p3 p4 p5 p6 p7 = some r) : PureSim Try.prog 27 [ag [iv p0, iv p1, iv p2, iv p3], ag [iv p4, iv p5], ag [iv p6, iv p7]] [] (V27 0 r) (N27 0 r) :=
  PureSim.of_Fin Try.func27 (c := c27) (by kernel_rfl) (by kernel_rfl) 0 rfl [0, 1, 2] [] (by kernel_rfl) (B27 p0 p1 p2 p3 p4 p5 p6 p7 r hF)

end Go.Proofs.Ytenjelagfbceeaa
