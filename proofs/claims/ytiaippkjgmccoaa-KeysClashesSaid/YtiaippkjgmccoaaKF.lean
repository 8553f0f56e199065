/- What functions of the program compute, and that they do. -/
import Derived.Test.YtiaippkjgmccoaaKE
set_option linter.unusedVariables false
set_option linter.unusedSimpArgs false
set_option maxRecDepth 100000
set_option maxHeartbeats 4000000
namespace Go.Proofs.Ytiaippkjgmccoaa
open Go Go.Cl
noncomputable section
noncomputable def c74 : Code := Try.f74.code
def S74_0 (p0 : Int) (p1 : Bool) (p4 : Int) (p5 : Bool) (r1 : (Int × Bool)) (p2 : Int) (p3 : Bool) (p6 : Int) (p7 : Bool) : CAct := (st 31 [(3, pt 0 0), (4, pt 1 0), (5, pt 2 0), (7, pt 0 0), (8, ag [iv p0, .bool p1]), (9, ag [iv p4, .bool p5]), (10, ag [iv r1.1, .bool r1.2]), (11, .bool true), (12, .bool true), (13, pt 0 2), (14, ag [iv p2, .bool p3]), (15, ag [iv p6, .bool p7]), (16, .bool false), (17, .bool false), (18, .bool false), (19, pt 0 2), (20, ag [iv p2, .bool p3]), (21, ag [iv p4, .bool p5])])
def S74_1 (p0 : Int) (p1 : Bool) (p4 : Int) (p5 : Bool) (r1 : (Int × Bool)) (p2 : Int) (p3 : Bool) : CAct := (st 31 [(3, pt 0 0), (4, pt 1 0), (5, pt 2 0), (7, pt 0 0), (8, ag [iv p0, .bool p1]), (9, ag [iv p4, .bool p5]), (10, ag [iv r1.1, .bool r1.2]), (11, .bool false), (12, .bool false), (13, undef), (14, undef), (15, undef), (16, undef), (17, .bool false), (18, .bool false), (19, pt 0 2), (20, ag [iv p2, .bool p3]), (21, ag [iv p4, .bool p5])])
def S74_2 (p0 : Int) (p1 : Bool) (p4 : Int) (p5 : Bool) (r1 : (Int × Bool)) (p2 : Int) (p3 : Bool) (p6 : Int) (p7 : Bool) : CAct := (st 31 [(3, pt 0 0), (4, pt 1 0), (5, pt 2 0), (7, pt 0 0), (8, ag [iv p0, .bool p1]), (9, ag [iv p4, .bool p5]), (10, ag [iv r1.1, .bool r1.2]), (11, .bool true), (12, .bool true), (13, pt 0 2), (14, ag [iv p2, .bool p3]), (15, ag [iv p6, .bool p7])])
def S74_3 (p0 : Int) (p1 : Bool) (p4 : Int) (p5 : Bool) : CAct := (st 31 [(3, pt 0 0), (4, pt 1 0), (5, pt 2 0), (7, pt 0 0), (8, ag [iv p0, .bool p1]), (9, ag [iv p4, .bool p5])])
def H74_4 (p0 : Int) (p1 : Bool) (p2 : Int) (p3 : Bool) (p4 : Int) (p5 : Bool) (p6 : Int) (p7 : Bool) : List Blk := [cl 93 [iv p0, .bool p1, iv p2, .bool p3], cl 55 [iv p4, .bool p5], cl 55 [iv p6, .bool p7]]
def F74 (p0 : Int) (p1 : Bool) (p2 : Int) (p3 : Bool) (p4 : Int) (p5 : Bool) (p6 : Int) (p7 : Bool) : Option Bool :=
 F76 p4 p5 >>= fun r1 =>
 (
  if ((p0 == r1.1) && ((p1 == r1.2) && true)) then
   if ((p2 == p6) && ((p3 == p7) && true)) then
    some (true)
   else
    F76 p4 p5 >>= fun r5 =>
    if ((p2 == r5.1) && ((p3 == r5.2) && true)) then
     some (((p0 == p6) && ((p1 == p7) && true)))
    else
     some (false)
  else
   F76 p4 p5 >>= fun r8 =>
   if ((p2 == r8.1) && ((p3 == r8.2) && true)) then
    some (((p0 == p6) && ((p1 == p7) && true)))
   else
    some (false)
 : Option Bool) >>= fun m11 =>
 some m11
def V74 (b : Nat) (r : Bool) : Value := .bool r
def N74 (b : Nat) (r : Bool) : List Blk := []
theorem B74 (p0 : Int) (p1 : Bool) (p2 : Int) (p3 : Bool) (p4 : Int) (p5 : Bool) (p6 : Int) (p7 : Bool) (r : Bool) (hF : F74 p0 p1 p2 p3 p4 p5 p6 p7 = some r) : TS Try.prog 0 0 c74 (st 31 [(0, ag [iv p0, .bool p1, iv p2, .bool p3]), (1, ag [iv p4, .bool p5]), (2, ag [iv p6, .bool p7])]) [] (NX Try.prog 0 0 [] (FinP Try.prog Try.f74 0 (V74 0 r) (N74 0 r))) := by
 unfold F74 at hF
 refine TS.sq (TS.rg (TI.rn 4 [3, 4, 5] [0, 1, 2] (st 31 [(3, pt 0 0), (4, pt 1 0), (5, pt 2 0)]) (H74_4 p0 p1 p2 p3 p4 p5 p6 p7) (TI.dn (NX.sq (TS.sq ?_)))))
 have hX := of_do hF
 clear hF
 obtain ⟨r1, h2, hF⟩ := hX
 have hX := of_do hF
 clear hF
 obtain ⟨m11, hm12, hF⟩ := hX
 have hK : NX Try.prog 0 0 [.sq c74.s2.s2] (FinP Try.prog Try.f74 0 (V74 0 r) (N74 0 r)) .normal (st 31 [(6, .bool m11)]) [.dead, .dead, .dead] := by
  refine NX.sq (TS.rt ?_)
  have hF := Option.some.inj hF
  subst hF
  exact ⟨.inr rfl, rfl, .bool m11, by kernel_rfl, WkV.flat0 (by kernel_rfl) (Nat.le_of_ble_eq_true rfl)⟩
 rcases Bool.eq_false_or_eq_true (((p0 == r1.1) && ((p1 == r1.2) && true))) with hc3 | hc3
 · replace hm12 := of_pos hm12 hc3
   rcases Bool.eq_false_or_eq_true (((p2 == p6) && ((p3 == p7) && true))) with hc4 | hc4
   · replace hm12 := of_pos hm12 hc4
     have hm12 := Option.some.inj hm12
     subst hm12
     have hT : ∀ e ∈ ([⟨76, [ag [iv p4, .bool p5]], (H74_4 p0 p1 p2 p3 p4 p5 p6 p7), ag [iv r1.1, .bool r1.2], []⟩] : List Entry), PureSim Try.prog e.g e.args e.h e.v e.new := by
      intro e he
      simp only [List.mem_cons, List.not_mem_nil, or_false] at he
      rcases he with rfl
      exact PureSim.ak (C76 _ _ _ h2)
     refine TS.dp [⟨76, [ag [iv p4, .bool p5]], (H74_4 p0 p1 p2 p3 p4 p5 p6 p7), ag [iv r1.1, .bool r1.2], []⟩] hT mixed 21 [6] [] (st 31 [(6, .bool true)]) [.dead, .dead, .dead] ?_ ?_
     · exact QJ.rn (qs (S74_3 p0 p1 p4 p5) (H74_4 p0 p1 p2 p3 p4 p5 p6 p7) [] []) 3 (QJ.o { val := ag [iv r1.1, .bool r1.2], new := [] } (qOf_call (g := 76) (args := [ag [iv p4, .bool p5]]) (by kernel_rfl) lookC_hit) (QJ.o { val := .bool true } (q_conv (e := ((p0 == r1.1) && ((p1 == r1.2) && true))) (b := true) (by kernel_rfl) hc3) (QJ.rn (qs (S74_2 p0 p1 p4 p5 r1 p2 p3 p6 p7) (H74_4 p0 p1 p2 p3 p4 p5 p6 p7) [] []) 4 (QJ.o { val := .bool true } (q_conv (e := ((p2 == p6) && ((p3 == p7) && true))) (b := true) (by kernel_rfl) hc4) (QJ.rn (qs (st 31 [(3, pt 0 0), (4, pt 1 0), (5, pt 2 0), (7, pt 0 0), (8, ag [iv p0, .bool p1]), (9, ag [iv p4, .bool p5]), (10, ag [iv r1.1, .bool r1.2]), (11, .bool true), (12, .bool true), (13, pt 0 2), (14, ag [iv p2, .bool p3]), (15, ag [iv p6, .bool p7]), (16, .bool true), (17, .bool true), (18, .bool true), (19, undef), (20, undef), (21, undef), (22, undef), (23, undef), (24, undef), (25, undef), (26, undef), (27, undef)]) (H74_4 p0 p1 p2 p3 p4 p5 p6 p7) [] []) 11 (QJ.dn ⟨rfl, SJ.la⟩))))))
     exact hK
   replace hm12 := of_neg hm12 hc4
   have hX := of_do hm12
   clear hm12
   obtain ⟨r5, h6, hm12⟩ := hX
   rcases Bool.eq_false_or_eq_true (((p2 == r5.1) && ((p3 == r5.2) && true))) with hc7 | hc7
   · replace hm12 := of_pos hm12 hc7
     have hm12 := Option.some.inj hm12
     subst hm12
     have hT : ∀ e ∈ ([⟨76, [ag [iv p4, .bool p5]], (H74_4 p0 p1 p2 p3 p4 p5 p6 p7), ag [iv r1.1, .bool r1.2], []⟩, ⟨76, [ag [iv p4, .bool p5]], (H74_4 p0 p1 p2 p3 p4 p5 p6 p7), ag [iv r5.1, .bool r5.2], []⟩] : List Entry), PureSim Try.prog e.g e.args e.h e.v e.new := by
      intro e he
      simp only [List.mem_cons, List.not_mem_nil, or_false] at he
      rcases he with rfl | rfl
      · exact PureSim.ak (C76 _ _ _ h2)
      exact PureSim.ak (C76 _ _ _ h6)
     refine TS.dp [⟨76, [ag [iv p4, .bool p5]], (H74_4 p0 p1 p2 p3 p4 p5 p6 p7), ag [iv r1.1, .bool r1.2], []⟩, ⟨76, [ag [iv p4, .bool p5]], (H74_4 p0 p1 p2 p3 p4 p5 p6 p7), ag [iv r5.1, .bool r5.2], []⟩] hT mixed 21 [6] [] (st 31 [(6, .bool ((p0 == p6) && ((p1 == p7) && true)))]) [.dead, .dead, .dead] ?_ ?_
     · refine QJ.rn (qs (S74_3 p0 p1 p4 p5) (H74_4 p0 p1 p2 p3 p4 p5 p6 p7) [] []) 3 (QJ.o { val := ag [iv r1.1, .bool r1.2], new := [] } (qOf_call (g := 76) (args := [ag [iv p4, .bool p5]]) (by kernel_rfl) lookC_hit) (QJ.o { val := .bool true } (q_conv (e := ((p0 == r1.1) && ((p1 == r1.2) && true))) (b := true) (by kernel_rfl) hc3) (QJ.rn (qs (S74_2 p0 p1 p4 p5 r1 p2 p3 p6 p7) (H74_4 p0 p1 p2 p3 p4 p5 p6 p7) [] []) 4 (QJ.o { val := .bool false } (q_conv (e := ((p2 == p6) && ((p3 == p7) && true))) (b := false) (by kernel_rfl) hc4) (QJ.rn (qs (S74_0 p0 p1 p4 p5 r1 p2 p3 p6 p7) (H74_4 p0 p1 p2 p3 p4 p5 p6 p7) [] []) 5 ?_)))))
       exact QJ.o { val := ag [iv r5.1, .bool r5.2], new := [] } (qOf_call (g := 76) (args := [ag [iv p4, .bool p5]]) (by kernel_rfl) (lookC_skip (by intro _ ha hh; first | (exact absurd (congrArg List.length hh) (Nat.ne_of_beq_eq_false rfl)) | (have hr := Option.some.inj (h2.symm.trans (Eq.trans (congr (congrArg F76 (Eq.refl p4)) (Eq.refl p5)) h6)); first | (subst hr; rfl) | (cases hr; done) | (cases hr; rfl))) lookC_hit)) (QJ.o { val := .bool true } (q_conv (e := ((p2 == r5.1) && ((p3 == r5.2) && true))) (b := true) (by kernel_rfl) hc7) (QJ.rn (qs (st 31 [(3, pt 0 0), (4, pt 1 0), (5, pt 2 0), (7, pt 0 0), (8, ag [iv p0, .bool p1]), (9, ag [iv p4, .bool p5]), (10, ag [iv r1.1, .bool r1.2]), (11, .bool true), (12, .bool true), (13, pt 0 2), (14, ag [iv p2, .bool p3]), (15, ag [iv p6, .bool p7]), (16, .bool false), (17, .bool false), (18, .bool false), (19, pt 0 2), (20, ag [iv p2, .bool p3]), (21, ag [iv p4, .bool p5]), (22, ag [iv r5.1, .bool r5.2]), (23, .bool true), (24, .bool true), (25, pt 0 0), (26, ag [iv p0, .bool p1]), (27, ag [iv p6, .bool p7])]) (H74_4 p0 p1 p2 p3 p4 p5 p6 p7) [] []) 4 (QJ.dn ⟨rfl, SJ.la⟩)))
     exact hK
   replace hm12 := of_neg hm12 hc7
   have hm12 := Option.some.inj hm12
   subst hm12
   have hT : ∀ e ∈ ([⟨76, [ag [iv p4, .bool p5]], (H74_4 p0 p1 p2 p3 p4 p5 p6 p7), ag [iv r1.1, .bool r1.2], []⟩, ⟨76, [ag [iv p4, .bool p5]], (H74_4 p0 p1 p2 p3 p4 p5 p6 p7), ag [iv r5.1, .bool r5.2], []⟩] : List Entry), PureSim Try.prog e.g e.args e.h e.v e.new := by
    intro e he
    simp only [List.mem_cons, List.not_mem_nil, or_false] at he
    rcases he with rfl | rfl
    · exact PureSim.ak (C76 _ _ _ h2)
    exact PureSim.ak (C76 _ _ _ h6)
   refine TS.dp [⟨76, [ag [iv p4, .bool p5]], (H74_4 p0 p1 p2 p3 p4 p5 p6 p7), ag [iv r1.1, .bool r1.2], []⟩, ⟨76, [ag [iv p4, .bool p5]], (H74_4 p0 p1 p2 p3 p4 p5 p6 p7), ag [iv r5.1, .bool r5.2], []⟩] hT mixed 21 [6] [] (st 31 [(6, .bool false)]) [.dead, .dead, .dead] ?_ ?_
   · refine QJ.rn (qs (S74_3 p0 p1 p4 p5) (H74_4 p0 p1 p2 p3 p4 p5 p6 p7) [] []) 3 (QJ.o { val := ag [iv r1.1, .bool r1.2], new := [] } (qOf_call (g := 76) (args := [ag [iv p4, .bool p5]]) (by kernel_rfl) lookC_hit) (QJ.o { val := .bool true } (q_conv (e := ((p0 == r1.1) && ((p1 == r1.2) && true))) (b := true) (by kernel_rfl) hc3) (QJ.rn (qs (S74_2 p0 p1 p4 p5 r1 p2 p3 p6 p7) (H74_4 p0 p1 p2 p3 p4 p5 p6 p7) [] []) 4 (QJ.o { val := .bool false } (q_conv (e := ((p2 == p6) && ((p3 == p7) && true))) (b := false) (by kernel_rfl) hc4) (QJ.rn (qs (S74_0 p0 p1 p4 p5 r1 p2 p3 p6 p7) (H74_4 p0 p1 p2 p3 p4 p5 p6 p7) [] []) 5 ?_)))))
     exact QJ.o { val := ag [iv r5.1, .bool r5.2], new := [] } (qOf_call (g := 76) (args := [ag [iv p4, .bool p5]]) (by kernel_rfl) (lookC_skip (by intro _ ha hh; first | (exact absurd (congrArg List.length hh) (Nat.ne_of_beq_eq_false rfl)) | (have hr := Option.some.inj (h2.symm.trans (Eq.trans (congr (congrArg F76 (Eq.refl p4)) (Eq.refl p5)) h6)); first | (subst hr; rfl) | (cases hr; done) | (cases hr; rfl))) lookC_hit)) (QJ.o { val := .bool false } (q_conv (e := ((p2 == r5.1) && ((p3 == r5.2) && true))) (b := false) (by kernel_rfl) hc7) (QJ.rn (qs (st 31 [(3, pt 0 0), (4, pt 1 0), (5, pt 2 0), (7, pt 0 0), (8, ag [iv p0, .bool p1]), (9, ag [iv p4, .bool p5]), (10, ag [iv r1.1, .bool r1.2]), (11, .bool true), (12, .bool true), (13, pt 0 2), (14, ag [iv p2, .bool p3]), (15, ag [iv p6, .bool p7]), (16, .bool false), (17, .bool false), (18, .bool false), (19, pt 0 2), (20, ag [iv p2, .bool p3]), (21, ag [iv p4, .bool p5]), (22, ag [iv r5.1, .bool r5.2]), (23, .bool false), (24, .bool false), (25, undef), (26, undef), (27, undef)]) (H74_4 p0 p1 p2 p3 p4 p5 p6 p7) [] []) 4 (QJ.dn ⟨rfl, SJ.la⟩)))
   exact hK
 replace hm12 := of_neg hm12 hc3
 have hX := of_do hm12
 clear hm12
 obtain ⟨r8, h9, hm12⟩ := hX
 rcases Bool.eq_false_or_eq_true (((p2 == r8.1) && ((p3 == r8.2) && true))) with hc10 | hc10
 · replace hm12 := of_pos hm12 hc10
   have hm12 := Option.some.inj hm12
   subst hm12
   have hT : ∀ e ∈ ([⟨76, [ag [iv p4, .bool p5]], (H74_4 p0 p1 p2 p3 p4 p5 p6 p7), ag [iv r1.1, .bool r1.2], []⟩, ⟨76, [ag [iv p4, .bool p5]], (H74_4 p0 p1 p2 p3 p4 p5 p6 p7), ag [iv r8.1, .bool r8.2], []⟩] : List Entry), PureSim Try.prog e.g e.args e.h e.v e.new := by
    intro e he
    simp only [List.mem_cons, List.not_mem_nil, or_false] at he
    rcases he with rfl | rfl
    · exact PureSim.ak (C76 _ _ _ h2)
    exact PureSim.ak (C76 _ _ _ h9)
   refine TS.dp [⟨76, [ag [iv p4, .bool p5]], (H74_4 p0 p1 p2 p3 p4 p5 p6 p7), ag [iv r1.1, .bool r1.2], []⟩, ⟨76, [ag [iv p4, .bool p5]], (H74_4 p0 p1 p2 p3 p4 p5 p6 p7), ag [iv r8.1, .bool r8.2], []⟩] hT mixed 21 [6] [] (st 31 [(6, .bool ((p0 == p6) && ((p1 == p7) && true)))]) [.dead, .dead, .dead] ?_ ?_
   · refine QJ.rn (qs (S74_3 p0 p1 p4 p5) (H74_4 p0 p1 p2 p3 p4 p5 p6 p7) [] []) 3 (QJ.o { val := ag [iv r1.1, .bool r1.2], new := [] } (qOf_call (g := 76) (args := [ag [iv p4, .bool p5]]) (by kernel_rfl) lookC_hit) (QJ.o { val := .bool false } (q_conv (e := ((p0 == r1.1) && ((p1 == r1.2) && true))) (b := false) (by kernel_rfl) hc3) (QJ.rn (qs (S74_1 p0 p1 p4 p5 r1 p2 p3) (H74_4 p0 p1 p2 p3 p4 p5 p6 p7) [] []) 10 ?_)))
     exact QJ.o { val := ag [iv r8.1, .bool r8.2], new := [] } (qOf_call (g := 76) (args := [ag [iv p4, .bool p5]]) (by kernel_rfl) (lookC_skip (by intro _ ha hh; first | (exact absurd (congrArg List.length hh) (Nat.ne_of_beq_eq_false rfl)) | (have hr := Option.some.inj (h2.symm.trans (Eq.trans (congr (congrArg F76 (Eq.refl p4)) (Eq.refl p5)) h9)); first | (subst hr; rfl) | (cases hr; done) | (cases hr; rfl))) lookC_hit)) (QJ.o { val := .bool true } (q_conv (e := ((p2 == r8.1) && ((p3 == r8.2) && true))) (b := true) (by kernel_rfl) hc10) (QJ.rn (qs (st 31 [(3, pt 0 0), (4, pt 1 0), (5, pt 2 0), (7, pt 0 0), (8, ag [iv p0, .bool p1]), (9, ag [iv p4, .bool p5]), (10, ag [iv r1.1, .bool r1.2]), (11, .bool false), (12, .bool false), (13, undef), (14, undef), (15, undef), (16, undef), (17, .bool false), (18, .bool false), (19, pt 0 2), (20, ag [iv p2, .bool p3]), (21, ag [iv p4, .bool p5]), (22, ag [iv r8.1, .bool r8.2]), (23, .bool true), (24, .bool true), (25, pt 0 0), (26, ag [iv p0, .bool p1]), (27, ag [iv p6, .bool p7])]) (H74_4 p0 p1 p2 p3 p4 p5 p6 p7) [] []) 4 (QJ.dn ⟨rfl, SJ.la⟩)))
   exact hK
 replace hm12 := of_neg hm12 hc10
 have hm12 := Option.some.inj hm12
 subst hm12
 have hT : ∀ e ∈ ([⟨76, [ag [iv p4, .bool p5]], (H74_4 p0 p1 p2 p3 p4 p5 p6 p7), ag [iv r1.1, .bool r1.2], []⟩, ⟨76, [ag [iv p4, .bool p5]], (H74_4 p0 p1 p2 p3 p4 p5 p6 p7), ag [iv r8.1, .bool r8.2], []⟩] : List Entry), PureSim Try.prog e.g e.args e.h e.v e.new := by
  intro e he
  simp only [List.mem_cons, List.not_mem_nil, or_false] at he
  rcases he with rfl | rfl
  · exact PureSim.ak (C76 _ _ _ h2)
  exact PureSim.ak (C76 _ _ _ h9)
 refine TS.dp [⟨76, [ag [iv p4, .bool p5]], (H74_4 p0 p1 p2 p3 p4 p5 p6 p7), ag [iv r1.1, .bool r1.2], []⟩, ⟨76, [ag [iv p4, .bool p5]], (H74_4 p0 p1 p2 p3 p4 p5 p6 p7), ag [iv r8.1, .bool r8.2], []⟩] hT mixed 21 [6] [] (st 31 [(6, .bool false)]) [.dead, .dead, .dead] ?_ ?_
 · refine QJ.rn (qs (S74_3 p0 p1 p4 p5) (H74_4 p0 p1 p2 p3 p4 p5 p6 p7) [] []) 3 (QJ.o { val := ag [iv r1.1, .bool r1.2], new := [] } (qOf_call (g := 76) (args := [ag [iv p4, .bool p5]]) (by kernel_rfl) lookC_hit) (QJ.o { val := .bool false } (q_conv (e := ((p0 == r1.1) && ((p1 == r1.2) && true))) (b := false) (by kernel_rfl) hc3) (QJ.rn (qs (S74_1 p0 p1 p4 p5 r1 p2 p3) (H74_4 p0 p1 p2 p3 p4 p5 p6 p7) [] []) 10 ?_)))
   exact QJ.o { val := ag [iv r8.1, .bool r8.2], new := [] } (qOf_call (g := 76) (args := [ag [iv p4, .bool p5]]) (by kernel_rfl) (lookC_skip (by intro _ ha hh; first | (exact absurd (congrArg List.length hh) (Nat.ne_of_beq_eq_false rfl)) | (have hr := Option.some.inj (h2.symm.trans (Eq.trans (congr (congrArg F76 (Eq.refl p4)) (Eq.refl p5)) h9)); first | (subst hr; rfl) | (cases hr; done) | (cases hr; rfl))) lookC_hit)) (QJ.o { val := .bool false } (q_conv (e := ((p2 == r8.1) && ((p3 == r8.2) && true))) (b := false) (by kernel_rfl) hc10) (QJ.rn (qs (st 31 [(3, pt 0 0), (4, pt 1 0), (5, pt 2 0), (7, pt 0 0), (8, ag [iv p0, .bool p1]), (9, ag [iv p4, .bool p5]), (10, ag [iv r1.1, .bool r1.2]), (11, .bool false), (12, .bool false), (13, undef), (14, undef), (15, undef), (16, undef), (17, .bool false), (18, .bool false), (19, pt 0 2), (20, ag [iv p2, .bool p3]), (21, ag [iv p4, .bool p5]), (22, ag [iv r8.1, .bool r8.2]), (23, .bool false), (24, .bool false), (25, undef), (26, undef), (27, undef)]) (H74_4 p0 p1 p2 p3 p4 p5 p6 p7) [] []) 4 (QJ.dn ⟨rfl, SJ.la⟩)))
 exact hK
theorem C74 (p0 : Int) (p1 : Bool) (p2 : Int) (p3 : Bool) (p4 : Int) (p5 : Bool) (p6 : Int) (p7 : Bool) (r : Bool) (hF : F74 p0 p1 p2 p3 p4 p5 p6 p7 = some r) : PureSim Try.prog 74 [ag [iv p0, .bool p1, iv p2, .bool p3], ag [iv p4, .bool p5], ag [iv p6, .bool p7]] [] (V74 0 r) (N74 0 r) :=
 PureSim.of_Fin Try.func74 (c := c74) (by kernel_rfl) (by kernel_rfl) 0 rfl [0, 1, 2] [] (by kernel_rfl) (B74 p0 p1 p2 p3 p4 p5 p6 p7 r hF)
noncomputable def c31 : Code := Try.f31.code
def S31_0 (p2 : (List (Int × Bool))) (v81 : Int) (v145 : Int) (p1 : (List ((Int × Bool) × (Int × Bool)))) : CAct := (st 67 [(1, sv 1 p2.length ANY), (2, pt 2 0), (7, iv v81), (8, .bool true), (9, iv v145), (44, .bool (decide (v145 < (p1.length : Int)))), (47, .bool true), (48, .bool true), (49, undef), (50, undef), (51, undef), (52, undef), (53, undef), (54, undef), (55, undef), (56, undef), (57, undef), (58, undef), (59, undef), (60, undef), (61, undef), (62, undef)])
def H31_1 (p1 : (List ((Int × Bool) × (Int × Bool)))) (p2 : (List (Int × Bool))) (p0 : Int) : List Blk := [ab 93 e93 p1, ab 55 e55 p2, cl 30 [iv p0, sv 0 p1.length ANY]]
def H31_2 (p1 : (List ((Int × Bool) × (Int × Bool)))) (p2 : (List (Int × Bool))) : List Blk := [ab 93 e93 p1, ab 55 e55 p2, .dead]
def H31_3 (p1 : (List ((Int × Bool) × (Int × Bool)))) (p2 : (List (Int × Bool))) : List Blk := [ab 93 e93 p1, ab 55 e55 p2]
def S31_4 (p2 : (List (Int × Bool))) : CAct := (st 67 [(1, sv 1 p2.length ANY), (2, pt 2 0)])
def F31l0 (p0 : Int) (p1 : (List ((Int × Bool) × (Int × Bool)))) (p2 : (List (Int × Bool))) (v13 : Int) : Option (Unit ⊕ Unit) :=
 if decide (v13 < (p2.length : Int)) then
  if (0 : Int) ≤ v13 ∧ v13 < (p2.length : Int) then
   some (List.getD p2 (Int.toNat v13) (0, false)) >>= fun o24 =>
   F65 p0 p1 o24.1 o24.2 >>= fun r26 =>
   if !r26 then
    some (.inl ())
   else
    F31l0 p0 p1 p2 (w64 (v13 + 1))
  else none
 else
  some (.inr ())
 partial_fixpoint
def F31l2 (p0 : Int) (p1 : (List ((Int × Bool) × (Int × Bool)))) (p2 : (List (Int × Bool))) (v81 : Int) (v144 : Bool) (v145 : Int) : Option Bool :=
 if decide (v145 < (p1.length : Int)) then
  (
   if v144 then
    some (true)
   else
    if (0 : Int) ≤ v145 ∧ v145 < (p1.length : Int) then
     some (List.getD p1 (Int.toNat v145) ((0, false), (0, false))) >>= fun o164 =>
     if (0 : Int) ≤ w64 (v81 - 1) ∧ w64 (v81 - 1) < (p2.length : Int) then
      some (List.getD p2 (Int.toNat (w64 (v81 - 1))) (0, false)) >>= fun o167 =>
      if (0 : Int) ≤ v81 ∧ v81 < (p2.length : Int) then
       some (List.getD p2 (Int.toNat v81) (0, false)) >>= fun o170 =>
       F74 o164.1.1 o164.1.2 o164.2.1 o164.2.2 o167.1 o167.2 o170.1 o170.2 >>= fun r172 =>
       some (r172)
      else none
     else none
    else none
  : Option Bool) >>= fun m174 =>
  F31l2 p0 p1 p2 v81 m174 (w64 (v145 + 1))
 else
  some v144
 partial_fixpoint
def F31l1 (p0 : Int) (p1 : (List ((Int × Bool) × (Int × Bool)))) (p2 : (List (Int × Bool))) (v81 : Int) : Option (Unit ⊕ Unit) :=
 if decide (v81 < (p2.length : Int)) then
  F31l2 p0 p1 p2 v81 false 0 >>= fun r176 =>
  if !r176 then
   some (.inl ())
  else
   F31l1 p0 p1 p2 (w64 (v81 + 1))
 else
  some (.inr ())
 partial_fixpoint
def F31 (p0 : Int) (p1 : (List ((Int × Bool) × (Int × Bool)))) (p2 : (List (Int × Bool))) : Option Int :=
 F27 p0 p1 >>= fun r1 =>
 if r1 != 0 then
  some r1
 else
  if (p2.length : Int) == 0 then
   some 2
  else
   if decide ((p2.length : Int) > 100) then
    some 3
   else
    F31l0 p0 p1 p2 0 >>= fun r29 =>
    match r29 with
    | .inl o31 =>
     some 6
    | .inr o32 =>
     F31l1 p0 p1 p2 1 >>= fun r179 =>
     match r179 with
     | .inl o181 =>
      some 14
     | .inr o182 =>
      some 0
def V31 (b : Nat) (r : Int) : Value := iv r
def N31 (b : Nat) (r : Int) : List Blk := []
def P31l0 (p0 : Int) (p1 : (List ((Int × Bool) × (Int × Bool)))) (p2 : (List (Int × Bool))) (r : (Unit ⊕ Unit)) : Post := fun e a h => (match r with | .inl q0 => e = .ret ∧ Wk Try.prog 2 2 a h (st 67 [(4, iv 6)]) (H31_3 p1 p2) | .inr q0 => e = .exit 0 ∧ Wk Try.prog 2 2 a h (S31_4 p2) (H31_1 p1 p2 p0))
theorem L31l0 (p0 : Int) (p1 : (List ((Int × Bool) × (Int × Bool)))) (p2 : (List (Int × Bool))) (v13 : Int) (r : (Unit ⊕ Unit)) (hF : F31l0 p0 p1 p2 v13 = some r) : TL Try.prog 2 2 c31.s2.s2.s2.s2.s2.s1.s2.bd.bd (st 67 [(1, sv 1 p2.length ANY), (2, pt 2 0), (6, iv v13)]) (H31_1 p1 p2 p0) (P31l0 p0 p1 p2 r) := by
 refine F31l0.partial_correctness p0 p1 p2 (motive := fun v13 r => TL Try.prog 2 2 c31.s2.s2.s2.s2.s2.s1.s2.bd.bd (st 67 [(1, sv 1 p2.length ANY), (2, pt 2 0), (6, iv v13)]) (H31_1 p1 p2 p0) (P31l0 p0 p1 p2 r)) ?_ v13 r hF
 clear hF r v13
 intro again ih v13 r hF
 refine TL.round (TS.sq (TS.sq (TS.rg (TI.ra 4 [1, 2, 6, 24] (st 67 [(1, sv 1 p2.length ANY), (2, pt 2 0), (6, iv v13), (24, .bool (decide (v13 < (p2.length : Int))))]) (TI.dn (NX.sq ?_))))))
 refine TS.cd (.tmp 24) (decide (v13 < (p2.length : Int))) (fun hc22 => ?_) (fun hc22 => ?_)
 · replace hF := of_pos hF hc22
   refine TS.sk (NX.sq (TS.sq (TS.bk 1 (TS.sq ?_))))
   have hX := of_guard hF
   clear hF
   obtain ⟨hg23, hF⟩ := hX
   have hX := of_do hF
   clear hF
   obtain ⟨o24, h25, hF⟩ := hX
   replace h25 := Option.some.inj h25
   have hX := of_do hF
   clear hF
   obtain ⟨r26, h27, hF⟩ := hX
   have hT : ∀ e ∈ ([⟨65, [ag [iv p0, sv 0 p1.length ANY], ag [iv o24.1, .bool o24.2]], (H31_1 p1 p2 p0), .bool r26, []⟩] : List Entry), PureSim Try.prog e.g e.args e.h e.v e.new := by
    intro e he
    simp only [List.mem_cons, List.not_mem_nil, or_false] at he
    rcases he with rfl
    exact (PureSim.ren (hc := [ab 93 e93 p1]) (fun i => List.getD [(0, 0)] i (0, 0)) (C65 _ _ _ _ _ h27) (.ac (.nil _)) (.cons (Rn.agg' (.fl (.cons (Rn.any _ _ _ _ _ _ (Nat.le_of_ble_eq_true rfl) rfl rfl (by decide)) .nil))) (.fl .nil)) (.flat (by kernel_rfl)) newflat_nil)
   refine TS.dp [⟨65, [ag [iv p0, sv 0 p1.length ANY], ag [iv o24.1, .bool o24.2]], (H31_1 p1 p2 p0), .bool r26, []⟩] hT mixed 5 [1, 2, 6, 33] [0, 1, 2] (st 67 [(1, sv 1 p2.length ANY), (2, pt 2 0), (6, iv v13), (33, .bool (!r26))]) (H31_1 p1 p2 p0) ?_ ?_
   · exact QJ.rn (qs (st 67 [(1, sv 1 p2.length ANY), (2, pt 2 0), (6, iv v13), (24, .bool (decide (v13 < (p2.length : Int)))), (27, ag [iv p0, sv 0 p1.length ANY]), (28, sv 1 p2.length ANY), (29, iv v13)]) (H31_1 p1 p2 p0) [] []) 3 (QJ.o { val := .pointer (some ⟨1, 0 + (Int.toNat v13) * 2, none⟩) } (q_ixS 1 0 ((Int.toNat v13) * 2) (by kernel_rfl) hg23) (QJ.o { val := ag [iv o24.1, .bool o24.2] } (q_nAa Try.prog (H31_1 p1 p2 p0) 55 1 (0 + (Int.toNat v13) * 2) p2 e55 2 55 (Int.toNat v13) (0, false) h25) (QJ.dn ⟨rfl, (SJ.o { val := .bool r26, new := [] } (qOf_call (g := 65) (args := [ag [iv p0, sv 0 p1.length ANY], ag [iv o24.1, .bool o24.2]]) (by kernel_rfl) lookC_hit) SJ.la)⟩)))
   refine TS.cd (.tmp 33) (!r26) (fun hc28 => ?_) (fun hc28 => ?_)
   · replace hF := of_pos hF hc28
     refine TS.sq (TS.rg (TI.rn 1 [4] [0, 1] (st 67 [(4, iv 6)]) (H31_2 p1 p2) (TI.dn (NX.sq (TS.rt (NX.bkR (NX.sqR ?_)))))))
     have hF := Option.some.inj hF
     subst hF
     exact Rd.out (e := .ret) (by intro h; cases h) (And.intro rfl (Wk.an [] (.ac (.ac (.nil _))) [iv 6] (.fl .nil)))
   replace hF := of_neg hF hc28
   refine TS.sk (NX.bk (NX.sq (TS.rg (TI.ra 3 [1, 2, 6] (st 67 [(1, sv 1 p2.length ANY), (2, pt 2 0), (6, iv (w64 (v13 + 1)))]) (TI.dn ?_)))))
   exact Rd.again (a2 := (st 67 [(1, sv 1 p2.length ANY), (2, pt 2 0), (6, iv (w64 (v13 + 1)))])) (h2 := (H31_1 p1 p2 p0)) (Wk.an [2] (.ac (.ac (.lt (.fl (.sl .nil)) (.nil _)))) [sv 1 p2.length ANY, pt 2 0, iv (w64 (v13 + 1))] (.sl (.pp (.fl .nil)))) (ih (w64 (v13 + 1)) _ hF)
 replace hF := of_neg hF hc22
 refine TS.ex 0 (NX.sqX ?_)
 have hF := Option.some.inj hF
 subst hF
 exact Rd.out (e := .exit 0) (by intro h; cases h) (And.intro rfl (Wk.an [2] (.ac (.ac (.lt (.fl (.sl .nil)) (.nil _)))) [sv 1 p2.length ANY, pt 2 0] (.sl (.pp .nil))))
def P31l2 (p0 : Int) (p1 : (List ((Int × Bool) × (Int × Bool)))) (p2 : (List (Int × Bool))) (v81 : Int) (r : Bool) : Post := fun e a h => e = .exit 4 ∧ Wk Try.prog 2 2 a h (st 67 [(1, sv 1 p2.length ANY), (2, pt 2 0), (7, iv v81), (8, .bool r)]) (H31_1 p1 p2 p0)
theorem L31l2 (p0 : Int) (p1 : (List ((Int × Bool) × (Int × Bool)))) (p2 : (List (Int × Bool))) (v81 : Int) (v144 : Bool) (v145 : Int) (r : Bool) (hF : F31l2 p0 p1 p2 v81 v144 v145 = some r) : TL Try.prog 2 2 c31.s2.s2.s2.s2.s2.s2.s1.s2.bd.bd.s2.s1.bd.s2.s1.s2.bd.bd (st 67 [(1, sv 1 p2.length ANY), (2, pt 2 0), (7, iv v81), (8, .bool v144), (9, iv v145)]) (H31_1 p1 p2 p0) (P31l2 p0 p1 p2 v81 r) := by
 refine F31l2.partial_correctness p0 p1 p2 v81 (motive := fun v144 v145 r => TL Try.prog 2 2 c31.s2.s2.s2.s2.s2.s2.s1.s2.bd.bd.s2.s1.bd.s2.s1.s2.bd.bd (st 67 [(1, sv 1 p2.length ANY), (2, pt 2 0), (7, iv v81), (8, .bool v144), (9, iv v145)]) (H31_1 p1 p2 p0) (P31l2 p0 p1 p2 v81 r)) ?_ v144 v145 r hF
 clear hF r v144 v145
 intro again ih v144 v145 r hF
 refine TL.round (TS.sq (TS.sq (TS.rg (TI.ra 5 [1, 2, 7, 8, 9, 44] (st 67 [(1, sv 1 p2.length ANY), (2, pt 2 0), (7, iv v81), (8, .bool v144), (9, iv v145), (44, .bool (decide (v145 < (p1.length : Int))))]) (TI.dn (NX.sq ?_))))))
 refine TS.cd (.tmp 44) (decide (v145 < (p1.length : Int))) (fun hc162 => ?_) (fun hc162 => ?_)
 · replace hF := of_pos hF hc162
   refine TS.sk (NX.sq (TS.sq (TS.bk 5 ?_)))
   have hX := of_do hF
   clear hF
   obtain ⟨m174, hm175, hF⟩ := hX
   have hK : NX Try.prog 2 2 [.bk 5, .sq c31.s2.s2.s2.s2.s2.s2.s1.s2.bd.bd.s2.s1.bd.s2.s1.s2.bd.bd.s2.s2] (Rd Try.prog 2 2 c31.s2.s2.s2.s2.s2.s2.s1.s2.bd.bd.s2.s1.bd.s2.s1.s2.bd.bd (P31l2 p0 p1 p2 v81 r)) .normal (st 67 [(1, sv 1 p2.length ANY), (2, pt 2 0), (7, iv v81), (8, .bool m174), (9, iv v145)]) (H31_1 p1 p2 p0) := by
    refine NX.bk (NX.sq (TS.rg (TI.ra 3 [1, 2, 7, 8, 9] (st 67 [(1, sv 1 p2.length ANY), (2, pt 2 0), (7, iv v81), (8, .bool m174), (9, iv (w64 (v145 + 1)))]) (TI.dn ?_))))
    exact Rd.again (a2 := (st 67 [(1, sv 1 p2.length ANY), (2, pt 2 0), (7, iv v81), (8, .bool m174), (9, iv (w64 (v145 + 1)))])) (h2 := (H31_1 p1 p2 p0)) (Wk.an [2] (.ac (.ac (.lt (.fl (.sl .nil)) (.nil _)))) [sv 1 p2.length ANY, pt 2 0, iv v81, .bool m174, iv (w64 (v145 + 1))] (.sl (.pp (.fl (.fl (.fl .nil)))))) (ih m174 (w64 (v145 + 1)) _ hF)
   cases v144 with
   | true =>
    replace hm175 := of_pos hm175 rfl
    have hm175 := Option.some.inj hm175
    subst hm175
    refine TS.drawT [] (fun e he => by cases he) mixed 16 [] (S31_0 p2 v81 v145 p1) (H31_1 p1 p2 p0) ?_ ?_
    · exact QJ.rn (qs (S31_0 p2 v81 v145 p1) (H31_1 p1 p2 p0) [] []) 16 (QJ.dn ⟨by kernel_rfl, by kernel_rfl, by kernel_rfl⟩)
    exact TI.rn 0 [1, 2, 7, 9, 48, 53, 58, 62] [0, 1, 2] (st 67 [(1, sv 1 p2.length ANY), (2, pt 2 0), (7, iv v81), (9, iv v145), (48, .bool true), (53, undef), (58, undef), (62, undef)]) (H31_1 p1 p2 p0) (TI.ra 3 [1, 2, 7, 8, 9] (st 67 [(1, sv 1 p2.length ANY), (2, pt 2 0), (7, iv v81), (8, .bool true), (9, iv v145)]) (TI.dn hK))
   | false =>
    replace hm175 := of_neg hm175 rfl
    have hX := of_guard hm175
    clear hm175
    obtain ⟨hg163, hm175⟩ := hX
    have hX := of_do hm175
    clear hm175
    obtain ⟨o164, h165, hm175⟩ := hX
    replace h165 := Option.some.inj h165
    have hX := of_guard hm175
    clear hm175
    obtain ⟨hg166, hm175⟩ := hX
    have hX := of_do hm175
    clear hm175
    obtain ⟨o167, h168, hm175⟩ := hX
    replace h168 := Option.some.inj h168
    have hX := of_guard hm175
    clear hm175
    obtain ⟨hg169, hm175⟩ := hX
    have hX := of_do hm175
    clear hm175
    obtain ⟨o170, h171, hm175⟩ := hX
    replace h171 := Option.some.inj h171
    have hX := of_do hm175
    clear hm175
    obtain ⟨r172, h173, hm175⟩ := hX
    have hm175 := Option.some.inj hm175
    subst hm175
    refine TS.drawT [] (fun e he => by cases he) mixed 16 [] (st 67 [(1, sv 1 p2.length ANY), (2, pt 2 0), (7, iv v81), (8, .bool false), (9, iv v145), (44, .bool (decide (v145 < (p1.length : Int)))), (47, .bool false), (48, .bool false), (49, pt 2 1), (50, sv 0 p1.length ANY), (51, iv v145), (52, .pointer (some ⟨0, 0 + (Int.toNat v145) * 4, none⟩)), (53, ag [iv o164.1.1, .bool o164.1.2, iv o164.2.1, .bool o164.2.2]), (54, sv 1 p2.length ANY), (55, iv v81), (56, iv (w64 (v81 - 1))), (57, .pointer (some ⟨1, 0 + (Int.toNat (w64 (v81 - 1))) * 2, none⟩)), (58, ag [iv o167.1, .bool o167.2]), (59, sv 1 p2.length ANY), (60, iv v81), (61, .pointer (some ⟨1, 0 + (Int.toNat v81) * 2, none⟩)), (62, ag [iv o170.1, .bool o170.2])]) (H31_1 p1 p2 p0) ?_ ?_
    · refine QJ.rn (qs (st 67 [(1, sv 1 p2.length ANY), (2, pt 2 0), (7, iv v81), (8, .bool false), (9, iv v145), (44, .bool (decide (v145 < (p1.length : Int)))), (47, .bool false), (48, .bool false), (49, pt 2 1), (50, sv 0 p1.length ANY), (51, iv v145)]) (H31_1 p1 p2 p0) [] []) 5 (QJ.o { val := .pointer (some ⟨0, 0 + (Int.toNat v145) * 4, none⟩) } (q_ixS 0 0 ((Int.toNat v145) * 4) (by kernel_rfl) hg163) (QJ.o { val := ag [iv o164.1.1, .bool o164.1.2, iv o164.2.1, .bool o164.2.2] } (q_nAa Try.prog (H31_1 p1 p2 p0) 93 0 (0 + (Int.toNat v145) * 4) p1 e93 4 93 (Int.toNat v145) ((0, false), (0, false)) h165) (QJ.rn (qs (st 67 [(1, sv 1 p2.length ANY), (2, pt 2 0), (7, iv v81), (8, .bool false), (9, iv v145), (44, .bool (decide (v145 < (p1.length : Int)))), (47, .bool false), (48, .bool false), (49, pt 2 1), (50, sv 0 p1.length ANY), (51, iv v145), (52, .pointer (some ⟨0, 0 + (Int.toNat v145) * 4, none⟩)), (53, ag [iv o164.1.1, .bool o164.1.2, iv o164.2.1, .bool o164.2.2]), (54, sv 1 p2.length ANY), (55, iv v81), (56, iv (w64 (v81 - 1)))]) (H31_1 p1 p2 p0) [] []) 3 (QJ.o { val := .pointer (some ⟨1, 0 + (Int.toNat (w64 (v81 - 1))) * 2, none⟩) } (q_ixS 1 0 ((Int.toNat (w64 (v81 - 1))) * 2) (by kernel_rfl) hg166) (QJ.o { val := ag [iv o167.1, .bool o167.2] } (q_nAa Try.prog (H31_1 p1 p2 p0) 55 1 (0 + (Int.toNat (w64 (v81 - 1))) * 2) p2 e55 2 55 (Int.toNat (w64 (v81 - 1))) (0, false) h168) (QJ.rn (qs (st 67 [(1, sv 1 p2.length ANY), (2, pt 2 0), (7, iv v81), (8, .bool false), (9, iv v145), (44, .bool (decide (v145 < (p1.length : Int)))), (47, .bool false), (48, .bool false), (49, pt 2 1), (50, sv 0 p1.length ANY), (51, iv v145), (52, .pointer (some ⟨0, 0 + (Int.toNat v145) * 4, none⟩)), (53, ag [iv o164.1.1, .bool o164.1.2, iv o164.2.1, .bool o164.2.2]), (54, sv 1 p2.length ANY), (55, iv v81), (56, iv (w64 (v81 - 1))), (57, .pointer (some ⟨1, 0 + (Int.toNat (w64 (v81 - 1))) * 2, none⟩)), (58, ag [iv o167.1, .bool o167.2]), (59, sv 1 p2.length ANY), (60, iv v81)]) (H31_1 p1 p2 p0) [] []) 2 (QJ.o { val := .pointer (some ⟨1, 0 + (Int.toNat v81) * 2, none⟩) } (q_ixS 1 0 ((Int.toNat v81) * 2) (by kernel_rfl) hg169) (QJ.o { val := ag [iv o170.1, .bool o170.2] } (q_nAa Try.prog (H31_1 p1 p2 p0) 55 1 (0 + (Int.toNat v81) * 2) p2 e55 2 55 (Int.toNat v81) (0, false) h171) ?_))))))))
      exact QJ.dn ⟨by kernel_rfl, by kernel_rfl, by kernel_rfl⟩
    exact TI.rn 0 [1, 2, 7, 9, 48, 53, 58, 62] [0, 1, 2] (st 67 [(1, sv 1 p2.length ANY), (2, pt 2 0), (7, iv v81), (9, iv v145), (48, .bool false), (53, ag [iv o164.1.1, .bool o164.1.2, iv o164.2.1, .bool o164.2.2]), (58, ag [iv o167.1, .bool o167.2]), (62, ag [iv o170.1, .bool o170.2])]) (H31_1 p1 p2 p0) (TI.cf (C74 _ _ _ _ _ _ _ _ _ h173) (TI.ra 2 [1, 2, 7, 8, 9] (st 67 [(1, sv 1 p2.length ANY), (2, pt 2 0), (7, iv v81), (8, .bool r172), (9, iv v145)]) (TI.dn hK)))
 replace hF := of_neg hF hc162
 refine TS.ex 4 (NX.sqX ?_)
 have hF := Option.some.inj hF
 subst hF
 exact Rd.out (e := .exit 4) (by intro h; cases h) (And.intro rfl (Wk.an [2] (.ac (.ac (.lt (.fl (.sl .nil)) (.nil _)))) [sv 1 p2.length ANY, pt 2 0, iv v81, .bool v144] (.sl (.pp (.fl (.fl .nil))))))
def P31l1 (p0 : Int) (p1 : (List ((Int × Bool) × (Int × Bool)))) (p2 : (List (Int × Bool))) (r : (Unit ⊕ Unit)) : Post := fun e a h => (match r with | .inl q0 => e = .ret ∧ Wk Try.prog 2 2 a h (st 67 [(4, iv 14)]) (H31_3 p1 p2) | .inr q0 => e = .exit 2 ∧ Wk Try.prog 2 2 a h (st 67 []) (H31_3 p1 p2))
theorem L31l1 (p0 : Int) (p1 : (List ((Int × Bool) × (Int × Bool)))) (p2 : (List (Int × Bool))) (v81 : Int) (r : (Unit ⊕ Unit)) (hF : F31l1 p0 p1 p2 v81 = some r) : TL Try.prog 2 2 c31.s2.s2.s2.s2.s2.s2.s1.s2.bd.bd (st 67 [(1, sv 1 p2.length ANY), (2, pt 2 0), (7, iv v81)]) (H31_1 p1 p2 p0) (P31l1 p0 p1 p2 r) := by
 refine F31l1.partial_correctness p0 p1 p2 (motive := fun v81 r => TL Try.prog 2 2 c31.s2.s2.s2.s2.s2.s2.s1.s2.bd.bd (st 67 [(1, sv 1 p2.length ANY), (2, pt 2 0), (7, iv v81)]) (H31_1 p1 p2 p0) (P31l1 p0 p1 p2 r)) ?_ v81 r hF
 clear hF r v81
 intro again ih v81 r hF
 refine TL.round (TS.sq (TS.sq (TS.rg (TI.ra 4 [1, 2, 7, 37] (st 67 [(1, sv 1 p2.length ANY), (2, pt 2 0), (7, iv v81), (37, .bool (decide (v81 < (p2.length : Int))))]) (TI.dn (NX.sq ?_))))))
 refine TS.cd (.tmp 37) (decide (v81 < (p2.length : Int))) (fun hc131 => ?_) (fun hc131 => ?_)
 · replace hF := of_pos hF hc131
   refine TS.sk (NX.sq (TS.sq (TS.bk 3 (TS.sq (TS.rg (TI.ra 1 [1, 2, 7, 8] (st 67 [(1, sv 1 p2.length ANY), (2, pt 2 0), (7, iv v81), (8, .bool false)]) (TI.dn (NX.sq ?_))))))))
   refine TS.sq (TS.sq (TS.rg (TI.ra 1 [1, 2, 7, 8, 9] (st 67 [(1, sv 1 p2.length ANY), (2, pt 2 0), (7, iv v81), (8, .bool false), (9, iv 0)]) (TI.dn (NX.sq (TS.bk 4 ?_))))))
   have hX := of_do hF
   clear hF
   obtain ⟨r176, h177, hF⟩ := hX
   refine TS.lp (TL.weak (a2 := (st 67 [(1, sv 1 p2.length ANY), (2, pt 2 0), (7, iv v81), (8, .bool false), (9, iv 0)])) (h2 := (H31_1 p1 p2 p0)) (Wk.an [2] (.ac (.ac (.lt (.fl (.sl .nil)) (.nil _)))) [sv 1 p2.length ANY, pt 2 0, iv v81, .bool false, iv 0] (.sl (.pp (.fl (.fl (.fl .nil)))))) (TL.post (L31l2 p0 p1 p2 v81 false 0 r176 h177) ?_))
   rintro e a1 h1 hp
   obtain ⟨rfl, hw⟩ := hp
   refine ⟨(st 67 [(1, sv 1 p2.length ANY), (2, pt 2 0), (7, iv v81), (8, .bool r176)]), (H31_1 p1 p2 p0), (NX.bkX (NX.sq (TS.sq (TS.rg (TI.ra 2 [1, 2, 7, 66] (st 67 [(1, sv 1 p2.length ANY), (2, pt 2 0), (7, iv v81), (66, .bool (!r176))]) (TI.dn (NX.sq ?_))))))), hw⟩
   refine TS.cd (.tmp 66) (!r176) (fun hc178 => ?_) (fun hc178 => ?_)
   · replace hF := of_pos hF hc178
     refine TS.sq (TS.rg (TI.rn 1 [4] [0, 1] (st 67 [(4, iv 14)]) (H31_2 p1 p2) (TI.dn (NX.sq (TS.rt (NX.bkR (NX.sqR ?_)))))))
     have hF := Option.some.inj hF
     subst hF
     exact Rd.out (e := .ret) (by intro h; cases h) (And.intro rfl (Wk.an [] (.ac (.ac (.nil _))) [iv 14] (.fl .nil)))
   replace hF := of_neg hF hc178
   refine TS.sk (NX.bk (NX.sq (TS.rg (TI.ra 3 [1, 2, 7] (st 67 [(1, sv 1 p2.length ANY), (2, pt 2 0), (7, iv (w64 (v81 + 1)))]) (TI.dn ?_)))))
   exact Rd.again (a2 := (st 67 [(1, sv 1 p2.length ANY), (2, pt 2 0), (7, iv (w64 (v81 + 1)))])) (h2 := (H31_1 p1 p2 p0)) (Wk.an [2] (.ac (.ac (.lt (.fl (.sl .nil)) (.nil _)))) [sv 1 p2.length ANY, pt 2 0, iv (w64 (v81 + 1))] (.sl (.pp (.fl .nil)))) (ih (w64 (v81 + 1)) _ hF)
 replace hF := of_neg hF hc131
 refine TS.ex 2 (NX.sqX ?_)
 have hF := Option.some.inj hF
 subst hF
 exact Rd.out (e := .exit 2) (by intro h; cases h) (And.intro rfl (Wk.an [] (.ac (.ac (.nil _))) [] .nil))
theorem B31 (p0 : Int) (p1 : (List ((Int × Bool) × (Int × Bool)))) (p2 : (List (Int × Bool))) (r : Int) (hF : F31 p0 p1 p2 = some r) : TS Try.prog 2 2 c31 (st 67 [(0, ag [iv p0, sv 0 p1.length ANY]), (1, sv 1 p2.length ANY)]) (H31_3 p1 p2) (NX Try.prog 2 2 [] (FinP Try.prog Try.f31 2 (V31 2 r) (N31 2 r))) := by
 unfold F31 at hF
 refine TS.sq (TS.rg (TI.rn 2 [1, 2] [0, 1, 2] (S31_4 p2) (H31_1 p1 p2 p0) (TI.dn (NX.sq (TS.sq ?_)))))
 have hX := of_do hF
 clear hF
 obtain ⟨r1, h2, hF⟩ := hX
 refine TS.rg (TI.ra 1 [1, 2, 10] (st 67 [(1, sv 1 p2.length ANY), (2, pt 2 0), (10, ag [iv p0, sv 0 p1.length ANY])]) (TI.cp 27 [ag [iv p0, sv 0 p1.length ANY]] (iv r1) [] (PureSim.ren (hc := [ab 93 e93 p1]) (fun i => List.getD [(0, 0)] i (0, 0)) (C27 _ _ _ h2) (.ac (.nil _)) (.cons (Rn.agg' (.fl (.cons (Rn.any _ _ _ _ _ _ (Nat.le_of_ble_eq_true rfl) rfl rfl (by decide)) .nil))) .nil) (.flat (by kernel_rfl)) newflat_nil) (TI.ra 1 [1, 2, 5] (st 67 [(1, sv 1 p2.length ANY), (2, pt 2 0), (5, iv r1)]) (TI.dn (NX.sq (TS.sq (TS.sq (TS.rg ?_))))))))
 refine TI.ra 2 [1, 2, 5, 13] (st 67 [(1, sv 1 p2.length ANY), (2, pt 2 0), (5, iv r1), (13, .bool (r1 != 0))]) (TI.dn (NX.sq ?_))
 refine TS.cd (.tmp 13) (r1 != 0) (fun hc3 => ?_) (fun hc3 => ?_)
 · replace hF := of_pos hF hc3
   refine TS.sq (TS.rg (TI.rn 2 [4] [0, 1] (st 67 [(4, iv r1)]) (H31_2 p1 p2) (TI.dn (NX.sq (TS.rt (NX.sqR ?_))))))
   have hF := Option.some.inj hF
   subst hF
   exact ⟨.inr rfl, rfl, iv r1, by kernel_rfl, WkV.flat0 (by kernel_rfl) (Nat.le_of_ble_eq_true rfl)⟩
 replace hF := of_neg hF hc3
 refine TS.sk (NX.sq (TS.sq (TS.sq (TS.rg (TI.ra 3 [1, 2, 17] (st 67 [(1, sv 1 p2.length ANY), (2, pt 2 0), (17, .bool ((p2.length : Int) == 0))]) (TI.dn (NX.sq ?_)))))))
 refine TS.cd (.tmp 17) ((p2.length : Int) == 0) (fun hc4 => ?_) (fun hc4 => ?_)
 · replace hF := of_pos hF hc4
   refine TS.sq (TS.rg (TI.rn 1 [4] [0, 1] (st 67 [(4, iv 2)]) (H31_2 p1 p2) (TI.dn (NX.sq (TS.rt (NX.sqR ?_))))))
   have hF := Option.some.inj hF
   subst hF
   exact ⟨.inr rfl, rfl, iv 2, by kernel_rfl, WkV.flat0 (by kernel_rfl) (Nat.le_of_ble_eq_true rfl)⟩
 replace hF := of_neg hF hc4
 refine TS.sk (NX.sq (TS.sq (TS.sq (TS.rg (TI.ra 3 [1, 2, 20] (st 67 [(1, sv 1 p2.length ANY), (2, pt 2 0), (20, .bool (decide ((p2.length : Int) > 100)))]) (TI.dn (NX.sq ?_)))))))
 refine TS.cd (.tmp 20) (decide ((p2.length : Int) > 100)) (fun hc5 => ?_) (fun hc5 => ?_)
 · replace hF := of_pos hF hc5
   refine TS.sq (TS.rg (TI.rn 1 [4] [0, 1] (st 67 [(4, iv 3)]) (H31_2 p1 p2) (TI.dn (NX.sq (TS.rt (NX.sqR ?_))))))
   have hF := Option.some.inj hF
   subst hF
   exact ⟨.inr rfl, rfl, iv 3, by kernel_rfl, WkV.flat0 (by kernel_rfl) (Nat.le_of_ble_eq_true rfl)⟩
 replace hF := of_neg hF hc5
 refine TS.sk (NX.sq (TS.sq (TS.sq (TS.rg (TI.ra 1 [1, 2, 6] (st 67 [(1, sv 1 p2.length ANY), (2, pt 2 0), (6, iv 0)]) (TI.dn (NX.sq (TS.bk 0 ?_))))))))
 have hX := of_do hF
 clear hF
 obtain ⟨r29, h30, hF⟩ := hX
 refine TS.lp (TL.weak (a2 := (st 67 [(1, sv 1 p2.length ANY), (2, pt 2 0), (6, iv 0)])) (h2 := (H31_1 p1 p2 p0)) (Wk.an [2] (.ac (.ac (.lt (.fl (.sl .nil)) (.nil _)))) [sv 1 p2.length ANY, pt 2 0, iv 0] (.sl (.pp (.fl .nil)))) (TL.post (L31l0 p0 p1 p2 0 r29 h30) ?_))
 rintro e a1 h1 hp
 rcases r29 with o31 | o32
 · skip
   obtain ⟨rfl, hw⟩ := hp
   refine ⟨(st 67 [(4, iv 6)]), (H31_3 p1 p2), (NX.bkR (NX.sqR ?_)), hw⟩
   have hF := Option.some.inj hF
   subst hF
   exact ⟨.inr rfl, rfl, iv 6, by kernel_rfl, WkV.flat0 (by kernel_rfl) (Nat.le_of_ble_eq_true rfl)⟩
 skip
 obtain ⟨rfl, hw⟩ := hp
 refine ⟨(S31_4 p2), (H31_1 p1 p2 p0), (NX.bkX (NX.sq (TS.sq (TS.sq (TS.rg (TI.ra 1 [1, 2, 7] (st 67 [(1, sv 1 p2.length ANY), (2, pt 2 0), (7, iv 1)]) (TI.dn (NX.sq ?_)))))))), hw⟩
 refine TS.bk 2 ?_
 have hX := of_do hF
 clear hF
 obtain ⟨r179, h180, hF⟩ := hX
 refine TS.lp (TL.weak (a2 := (st 67 [(1, sv 1 p2.length ANY), (2, pt 2 0), (7, iv 1)])) (h2 := (H31_1 p1 p2 p0)) (Wk.an [2] (.ac (.ac (.lt (.fl (.sl .nil)) (.nil _)))) [sv 1 p2.length ANY, pt 2 0, iv 1] (.sl (.pp (.fl .nil)))) (TL.post (L31l1 p0 p1 p2 1 r179 h180) ?_))
 rintro e a1 h1 hp
 rcases r179 with o181 | o182
 · skip
   obtain ⟨rfl, hw⟩ := hp
   refine ⟨(st 67 [(4, iv 14)]), (H31_3 p1 p2), (NX.bkR (NX.sqR ?_)), hw⟩
   have hF := Option.some.inj hF
   subst hF
   exact ⟨.inr rfl, rfl, iv 14, by kernel_rfl, WkV.flat0 (by kernel_rfl) (Nat.le_of_ble_eq_true rfl)⟩
 skip
 obtain ⟨rfl, hw⟩ := hp
 refine ⟨(st 67 []), (H31_3 p1 p2), (NX.bkX (NX.sq (TS.sq (TS.rg (TI.ra 1 [4] (st 67 [(4, iv 0)]) (TI.dn (NX.sq (TS.rt ?_)))))))), hw⟩
 have hF := Option.some.inj hF
 subst hF
 exact ⟨.inr rfl, rfl, iv 0, by kernel_rfl, WkV.flat0 (by kernel_rfl) (Nat.le_of_ble_eq_true rfl)⟩
theorem C31 (p0 : Int) (p1 : (List ((Int × Bool) × (Int × Bool)))) (p2 : (List (Int × Bool))) (r : Int) (hF : F31 p0 p1 p2 = some r) : PureSim Try.prog 31 [ag [iv p0, sv 0 p1.length ANY], sv 1 p2.length ANY] (H31_3 p1 p2) (V31 2 r) (N31 2 r) :=
 PureSim.of_Fin Try.func31 (c := c31) (by kernel_rfl) (by kernel_rfl) 2 rfl [0, 1] [0, 1] (by kernel_rfl) (B31 p0 p1 p2 r hF)
end
end Go.Proofs.Ytiaippkjgmccoaa
