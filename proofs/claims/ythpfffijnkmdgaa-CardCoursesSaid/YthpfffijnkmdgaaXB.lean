/- Parts of the sort of many elements. -/
import Derived.Test.YthpfffijnkmdgaaXA
set_option linter.unusedVariables false
set_option linter.unusedSimpArgs false
set_option maxRecDepth 100000
set_option maxHeartbeats 4000000
namespace Go.Proofs.Ythpfffijnkmdgaa
open Go Go.Cl
noncomputable def c127 : Code := Try.f127.code
def F127 (p0 : List I2) (p1 p2 p3 : Int) : Option (Int × Int × Int) :=
 if (0 : Int) ≤ p2 ∧ p2 < (p0.length : Int) then
  some (List.getD p0 p2.toNat (0, 0)) >>= fun o2 =>
  if (0 : Int) ≤ p1 ∧ p1 < (p0.length : Int) then
   some (List.getD p0 p1.toNat (0, 0)) >>= fun o5 =>
   F87 o2.1 o2.2 o5.1 o5.2 >>= fun r7 =>
   if decide (r7 < 0) then
    some (p2, p1, w64 (p3 + 1))
   else
    some (p1, p2, p3)
  else none
 else none
theorem B127 (p0 : List I2) (p1 p2 p3 : Int) (r : Int × Int × Int) (hF : F127 p0 p1 p2 p3 = some r) : TS Pg 0 2 c127 (st 32 [(0, anyV 0 p0.length), (1, iv p1), (2, iv p2), (3, pt 1 0), (4, fn 87)]) [lb101 p0, cl 3 [iv p3]] (NX Pg 0 2 [] (SortFin Pg Try.f127 [lb101 p0, cl 3 [iv r.2.2]] (.tuple #[iv r.1, iv r.2.1]))) := by
 unfold F127 at hF
 refine TS.sq (TS.rg (TI.ra 2 [0, 1, 2, 3, 4] (st 32 [(0, anyV 0 p0.length), (1, iv p1), (2, iv p2), (3, pt 1 0), (4, fn 87)]) (TI.dq (TS.sq (TS.sq ?_)))))
 obtain ⟨hg1, hF⟩ := of_guard hF
 obtain ⟨o2, h3, hF⟩ := of_do hF
 replace h3 := sj h3
 obtain ⟨hg4, hF⟩ := of_guard hF
 obtain ⟨o5, h6, hF⟩ := of_do hF
 replace h6 := sj h6
 obtain ⟨r7, h8, hF⟩ := of_do hF
 have hT : ∀ e ∈ ([⟨87, [ag [iv o2.1, iv o2.2], ag [iv o5.1, iv o5.2]], [lb101 p0, cl 3 [iv p3]], iv r7, []⟩] : List Entry), PureSim Pg e.g e.args e.h e.v e.new := by
  intro e he
  simp only [List.mem_cons, List.not_mem_nil, or_false] at he
  rcases he with rfl
  exact PureSim.ak (C87 _ _ _ _ _ h8)
 refine TS.dp [⟨87, [ag [iv o2.1, iv o2.2], ag [iv o5.1, iv o5.2]], [lb101 p0, cl 3 [iv p3]], iv r7, []⟩] hT mixed 9 [0, 1, 2, 3, 22] [0, 1] (st 32 [(0, anyV 0 p0.length), (1, iv p1), (2, iv p2), (3, pt 1 0), (22, .bool (decide (r7 < 0)))]) [lb101 p0, cl 3 [iv p3]] ?_ ?_
 · exact QJ.rn (qs (st 32 [(0, anyV 0 p0.length), (1, iv p1), (2, iv p2), (3, pt 1 0), (4, fn 87), (12, fn 87), (13, anyV 0 p0.length), (14, iv p2)]) [lb101 p0, cl 3 [iv p3]] [] []) 3 (QJ.o { val := pt 0 (0 + p2.toNat * 2) } (q_ixS 0 0 (p2.toNat * 2) (by kernel_rfl) hg1) (QJ.o { val := ag [iv o2.1, iv o2.2] } (q_nA Pg [lb101 p0, cl 3 [iv p3]] 101 0 (0 + p2.toNat * 2) p0 e101 2 101 p2.toNat (0, 0) h3) (QJ.rn (qs (st 32 [(0, anyV 0 p0.length), (1, iv p1), (2, iv p2), (3, pt 1 0), (4, fn 87), (12, fn 87), (13, anyV 0 p0.length), (14, iv p2), (15, pt 0 (0 + p2.toNat * 2)), (16, ag [iv o2.1, iv o2.2]), (17, anyV 0 p0.length), (18, iv p1)]) [lb101 p0, cl 3 [iv p3]] [] []) 2 (QJ.o { val := pt 0 (0 + p1.toNat * 2) } (q_ixS 0 0 (p1.toNat * 2) (by kernel_rfl) hg4) (QJ.o { val := ag [iv o5.1, iv o5.2] } (q_nA Pg [lb101 p0, cl 3 [iv p3]] 101 0 (0 + p1.toNat * 2) p0 e101 2 101 p1.toNat (0, 0) h6) (QJ.dn ⟨rfl, (SJ.o { val := iv r7, new := [] } (qOf_call (g := 87) (args := [ag [iv o2.1, iv o2.2], ag [iv o5.1, iv o5.2]]) (by kernel_rfl) lookC_hit) SJ.la)⟩))))))
 refine TS.cd (.tmp 22) (decide (r7 < 0)) (fun hc9 => ?_) (fun hc9 => ?_)
 · replace hF := of_pos hF hc9
   refine TS.sq (TS.rg (TI.rn 6 [0, 1, 2] [0, 1] (st 32 [(0, anyV 0 p0.length), (1, iv p1), (2, iv p2)]) [lb101 p0, cl 3 [iv (w64 (p3 + 1))]] (TI.dq (TS.sq (TS.rg (TI.ra 4 [0, 10, 11] (st 32 [(0, anyV 0 p0.length), (10, iv p2), (11, iv p1)]) (TI.dn ?_)))))))
   refine NX.sq (TS.rt (NX.sqR ?_))
   have hF := sj hF
   subst hF
   exact ⟨.inr rfl, rfl, rfl, by kernel_rfl⟩
 replace hF := of_neg hF hc9
 refine TS.sk (NX.sq (TS.sq (TS.rg (TI.ra 4 [0, 10, 11] (st 32 [(0, anyV 0 p0.length), (10, iv p1), (11, iv p2)]) (TI.dq (TS.rt ?_))))))
 have hF := sj hF
 subst hF
 exact ⟨.inr rfl, rfl, rfl, by kernel_rfl⟩
theorem C127 (p0 : List I2) (k : Nat) (hk : List.length p0 = k) (p1 p2 p3 : Int) (r : Int × Int × Int) (hF : F127 p0 p1 p2 p3 = some r) : ImpSim Pg 127 [anyV 0 k, iv p1, iv p2, pt 1 0, fn 87] 0 [lb101 p0, cl 3 [iv p3]] (.tuple #[iv r.1, iv r.2.1]) [lb101 p0, cl 3 [iv r.2.2]] := by
 subst hk
 exact ImpSim.of_TS (fn := Try.f127) (c := c127) (by kernel_rfl) (by kernel_rfl) (by kernel_rfl) (Nat.le_refl _) (TS.weak (a2 := (st 32 [(0, anyV 0 p0.length), (1, iv p1), (2, iv p2), (3, pt 1 0), (4, fn 87)])) (h2 := [lb101 p0, cl 3 [iv p3]]) (Eq.mp (by kernel_rfl) (Wk.tm (P := Pg) (base := 0) (L := 2) (a := { tmps := [anyV 0 p0.length, iv p1, iv p2, pt 1 0, fn 87] ++ List.replicate 27 undef }) (h := [lb101 p0, cl 3 [iv p3]]) [0, 1, 2, 3, 4])) (B127 p0 p1 p2 p3 r hF))
noncomputable def c125 : Code := Try.f125.code
def F125 (p0 : List I2) (p1 p2 p3 p4 : Int) : Option I2 :=
 F127 p0 p1 p2 p4 >>= fun r1 =>
 F127 p0 r1.2.1 p3 r1.2.2 >>= fun r3 =>
 F127 p0 r1.1 r3.1 r3.2.2 >>= fun r5 =>
 some (r5.2.1, r5.2.2)
theorem B125 (p0 : List I2) (p1 p2 p3 p4 : Int) (r : I2) (hF : F125 p0 p1 p2 p3 p4 = some r) : TS Pg 0 2 c125 (st 41 [(0, anyV 0 p0.length), (1, iv p1), (2, iv p2), (3, iv p3), (4, pt 1 0), (5, fn 87)]) [lb101 p0, cl 3 [iv p4]] (NX Pg 0 2 [] (SortFin Pg Try.f125 [lb101 p0, cl 3 [iv r.2]] (iv r.1))) := by
 unfold F125 at hF
 refine TS.sq (TS.rg (TI.ra 1 [0, 1, 2, 3, 4, 5] (st 41 [(0, anyV 0 p0.length), (1, iv p1), (2, iv p2), (3, iv p3), (4, pt 1 0), (5, fn 87)]) (TI.dq (TS.sq ?_))))
 obtain ⟨r1, h2, hF⟩ := of_do hF
 refine TS.rg (TI.ra 5 [0, 3, 4, 5, 14, 15, 16, 17, 18] (st 41 [(0, anyV 0 p0.length), (3, iv p3), (4, pt 1 0), (5, fn 87), (14, anyV 0 p0.length), (15, iv p1), (16, iv p2), (17, pt 1 0), (18, fn 87)]) ?_)
 refine TI.icallM (g := 127) (args := [anyV 0 p0.length, iv p1, iv p2, pt 1 0, fn 87]) (v := .tuple ⟨[iv r1.1, iv r1.2.1]⟩) (h1 := [lb101 p0, cl 3 [iv r1.2.2]]) (by kernel_rfl) (C127 _ _ (by first | rfl | simp only [List.length_set]) _ _ _ _ h2) [0, 3, 4, 5, 19] [0, 1] (a2 := (st 41 [(0, anyV 0 p0.length), (3, iv p3), (4, pt 1 0), (5, fn 87), (19, .tuple ⟨[iv r1.1, iv r1.2.1]⟩)])) (h2 := [lb101 p0, cl 3 [iv r1.2.2]]) (by kernel_rfl) (TI.ra 5 [0, 1, 2, 3, 4, 5] (st 41 [(0, anyV 0 p0.length), (1, iv r1.1), (2, iv r1.2.1), (3, iv p3), (4, pt 1 0), (5, fn 87)]) (TI.dq (TS.sq ?_)))
 obtain ⟨r3, h4, hF⟩ := of_do hF
 refine TS.rg (TI.ra 5 [0, 1, 4, 5, 23, 24, 25, 26, 27] (st 41 [(0, anyV 0 p0.length), (1, iv r1.1), (4, pt 1 0), (5, fn 87), (23, anyV 0 p0.length), (24, iv r1.2.1), (25, iv p3), (26, pt 1 0), (27, fn 87)]) ?_)
 refine TI.icallM (g := 127) (args := [anyV 0 p0.length, iv r1.2.1, iv p3, pt 1 0, fn 87]) (v := .tuple ⟨[iv r3.1, iv r3.2.1]⟩) (h1 := [lb101 p0, cl 3 [iv r3.2.2]]) (by kernel_rfl) (C127 _ _ (by first | rfl | simp only [List.length_set]) _ _ _ _ h4) [0, 1, 4, 5, 28] [0, 1] (a2 := (st 41 [(0, anyV 0 p0.length), (1, iv r1.1), (4, pt 1 0), (5, fn 87), (28, .tuple ⟨[iv r3.1, iv r3.2.1]⟩)])) (h2 := [lb101 p0, cl 3 [iv r3.2.2]]) (by kernel_rfl) (TI.ra 5 [0, 1, 2, 4, 5] (st 41 [(0, anyV 0 p0.length), (1, iv r1.1), (2, iv r3.1), (4, pt 1 0), (5, fn 87)]) (TI.dq (TS.sq ?_)))
 obtain ⟨r5, h6, hF⟩ := of_do hF
 refine TS.rg (TI.ra 5 [0, 32, 33, 34, 35, 36] (st 41 [(0, anyV 0 p0.length), (32, anyV 0 p0.length), (33, iv r1.1), (34, iv r3.1), (35, pt 1 0), (36, fn 87)]) ?_)
 refine TI.icallM (g := 127) (args := [anyV 0 p0.length, iv r1.1, iv r3.1, pt 1 0, fn 87]) (v := .tuple ⟨[iv r5.1, iv r5.2.1]⟩) (h1 := [lb101 p0, cl 3 [iv r5.2.2]]) (by kernel_rfl) (C127 _ _ (by first | rfl | simp only [List.length_set]) _ _ _ _ h6) [0, 37] [0, 1] (a2 := (st 41 [(0, anyV 0 p0.length), (37, .tuple ⟨[iv r5.1, iv r5.2.1]⟩)])) (h2 := [lb101 p0, cl 3 [iv r5.2.2]]) (by kernel_rfl) (TI.ra 5 [0, 2] (st 41 [(0, anyV 0 p0.length), (2, iv r5.2.1)]) (TI.dq (TS.sq (TS.rg (TI.ra 2 [0, 12] (st 41 [(0, anyV 0 p0.length), (12, iv r5.2.1)]) (TI.dq ?_))))))
 refine TS.rt ?_
 have hF := sj hF
 subst hF
 exact ⟨.inr rfl, rfl, rfl, by kernel_rfl⟩
theorem C125 (p0 : List I2) (k : Nat) (hk : List.length p0 = k) (p1 p2 p3 p4 : Int) (r : I2) (hF : F125 p0 p1 p2 p3 p4 = some r) : ImpSim Pg 125 [anyV 0 k, iv p1, iv p2, iv p3, pt 1 0, fn 87] 0 [lb101 p0, cl 3 [iv p4]] (iv r.1) [lb101 p0, cl 3 [iv r.2]] := by
 subst hk
 exact ImpSim.of_TS (fn := Try.f125) (c := c125) (by kernel_rfl) (by kernel_rfl) (by kernel_rfl) (Nat.le_refl _) (TS.weak (a2 := (st 41 [(0, anyV 0 p0.length), (1, iv p1), (2, iv p2), (3, iv p3), (4, pt 1 0), (5, fn 87)])) (h2 := [lb101 p0, cl 3 [iv p4]]) (Eq.mp (by kernel_rfl) (Wk.tm (P := Pg) (base := 0) (L := 2) (a := { tmps := [anyV 0 p0.length, iv p1, iv p2, iv p3, pt 1 0, fn 87] ++ List.replicate 35 undef }) (h := [lb101 p0, cl 3 [iv p4]]) [0, 1, 2, 3, 4, 5])) (B125 p0 p1 p2 p3 p4 r hF))
noncomputable def c124 : Code := Try.f124.code
def F124 (p0 : List I2) (p1 p2 : Int) : Option I2 :=
 F125 p0 (w64 (p1 - 1)) p1 (w64 (p1 + 1)) p2 >>= fun r1 =>
 some (r1.1, r1.2)
theorem B124 (p0 : List I2) (p1 p2 : Int) (r : I2) (hF : F124 p0 p1 p2 = some r) : TS Pg 0 2 c124 (st 18 [(0, anyV 0 p0.length), (1, iv p1), (2, pt 1 0), (3, fn 87)]) [lb101 p0, cl 3 [iv p2]] (NX Pg 0 2 [] (SortFin Pg Try.f124 [lb101 p0, cl 3 [iv r.2]] (iv r.1))) := by
 unfold F124 at hF
 refine TS.sq (TS.rg (TI.ra 1 [0, 1, 2, 3] (st 18 [(0, anyV 0 p0.length), (1, iv p1), (2, pt 1 0), (3, fn 87)]) (TI.dq (TS.sq ?_))))
 obtain ⟨r1, h2, hF⟩ := of_do hF
 refine TS.rg (TI.ra 8 [0, 9, 11, 12, 14, 15, 16] (st 18 [(0, anyV 0 p0.length), (9, anyV 0 p0.length), (11, iv (w64 (p1 - 1))), (12, iv p1), (14, iv (w64 (p1 + 1))), (15, pt 1 0), (16, fn 87)]) ?_)
 refine TI.icallM (g := 125) (args := [anyV 0 p0.length, iv (w64 (p1 - 1)), iv p1, iv (w64 (p1 + 1)), pt 1 0, fn 87]) (v := iv r1.1) (h1 := [lb101 p0, cl 3 [iv r1.2]]) (by kernel_rfl) (C125 _ _ (by first | rfl | simp only [List.length_set]) _ _ _ _ _ h2) [0, 17] [0, 1] (a2 := (st 18 [(0, anyV 0 p0.length), (17, iv r1.1)])) (h2 := [lb101 p0, cl 3 [iv r1.2]]) (by kernel_rfl) (TI.ra 1 [0, 8] (st 18 [(0, anyV 0 p0.length), (8, iv r1.1)]) (TI.dq (TS.rt ?_)))
 have hF := sj hF
 subst hF
 exact ⟨.inr rfl, rfl, rfl, by kernel_rfl⟩
theorem C124 (p0 : List I2) (k : Nat) (hk : List.length p0 = k) (p1 p2 : Int) (r : I2) (hF : F124 p0 p1 p2 = some r) : ImpSim Pg 124 [anyV 0 k, iv p1, pt 1 0, fn 87] 0 [lb101 p0, cl 3 [iv p2]] (iv r.1) [lb101 p0, cl 3 [iv r.2]] := by
 subst hk
 exact ImpSim.of_TS (fn := Try.f124) (c := c124) (by kernel_rfl) (by kernel_rfl) (by kernel_rfl) (Nat.le_refl _) (TS.weak (a2 := (st 18 [(0, anyV 0 p0.length), (1, iv p1), (2, pt 1 0), (3, fn 87)])) (h2 := [lb101 p0, cl 3 [iv p2]]) (Eq.mp (by kernel_rfl) (Wk.tm (P := Pg) (base := 0) (L := 2) (a := { tmps := [anyV 0 p0.length, iv p1, pt 1 0, fn 87] ++ List.replicate 14 undef }) (h := [lb101 p0, cl 3 [iv p2]]) [0, 1, 2, 3])) (B124 p0 p1 p2 r hF))
noncomputable def c113 : Code := Try.f113.code
def F113 (p0 : List I2) (p1 p2 : Int) : Option (Int × Int × (List I2)) :=
 (
  if decide ((w64 (p2 - p1)) ≥ 8) then
   (
    if decide ((w64 (p2 - p1)) ≥ 50) then
     F124 p0 (w64 (p1 + (w64 ((w64 (Int.tdiv (w64 (p2 - p1)) 4)) * 1)))) 0 >>= fun r36 =>
     F124 p0 (w64 (p1 + (w64 ((w64 (Int.tdiv (w64 (p2 - p1)) 4)) * 2)))) r36.2 >>= fun r38 =>
     F124 p0 (w64 (p1 + (w64 ((w64 (Int.tdiv (w64 (p2 - p1)) 4)) * 3)))) r38.2 >>= fun r40 =>
     some (r36.1, r38.1, r40.1, r40.2)
    else
     some (w64 (p1 + (w64 ((w64 (Int.tdiv (w64 (p2 - p1)) 4)) * 1))), w64 (p1 + (w64 ((w64 (Int.tdiv (w64 (p2 - p1)) 4)) * 2))), w64 (p1 + (w64 ((w64 (Int.tdiv (w64 (p2 - p1)) 4)) * 3))), 0)
   : Option (Int × Int × Int × Int)) >>= fun m31 =>
   F125 p0 m31.1 m31.2.1 m31.2.2.1 m31.2.2.2 >>= fun r33 =>
   some (r33.1, r33.2)
  else
   some (w64 (p1 + (w64 ((w64 (Int.tdiv (w64 (p2 - p1)) 4)) * 2))), 0)
 : Option I2) >>= fun m15 =>
 if m15.2 == 0 then
  some (m15.1, 1, p0)
 else
  if m15.2 == 12 then
   some (m15.1, 2, p0)
  else
   some (m15.1, 0, p0)
theorem B113 (p0 : List I2) (p1 p2 : Int) (r : Int × Int × (List I2)) (hF : F113 p0 p1 p2 = some r) : TS Pg 0 1 c113 (st 63 [(0, anyV 0 p0.length), (1, iv p1), (2, iv p2), (3, fn 87)]) [lb101 p0] (NX Pg 0 1 [] (ImpFinV Pg Try.f113 (.tuple #[iv r.1, iv r.2.1]) [lb101 r.2.2])) := by
 unfold F113 at hF
 refine TS.sq (TS.rg (TI.ra 2 [0, 1, 2, 3] (st 63 [(0, anyV 0 p0.length), (1, iv p1), (2, iv p2), (3, fn 87)]) (TI.dq (TS.sq (TS.rg (TI.ra 4 [0, 1, 3, 10] (st 63 [(0, anyV 0 p0.length), (1, iv p1), (3, fn 87), (10, iv (w64 (p2 - p1)))]) (TI.dn ?_)))))))
 refine NX.sq (TS.sq (TS.rg (TI.rn 1 [0, 1, 3, 10, 11] [0, 1] (st 63 [(0, anyV 0 p0.length), (1, iv p1), (3, fn 87), (10, iv (w64 (p2 - p1))), (11, pt 1 0)]) [lb101 p0, cl 3 [iv 0]] (TI.dq (TS.sq (TS.rg (TI.ra 6 [0, 1, 3, 10, 11, 12] (st 63 [(0, anyV 0 p0.length), (1, iv p1), (3, fn 87), (10, iv (w64 (p2 - p1))), (11, pt 1 0), (12, iv (w64 (p1 + (w64 ((w64 (Int.tdiv (w64 (p2 - p1)) 4)) * 1)))))]) ?_)))))))
 refine TI.dn (NX.sq (TS.sq (TS.rg (TI.ra 6 [0, 1, 3, 10, 11, 12, 13] (st 63 [(0, anyV 0 p0.length), (1, iv p1), (3, fn 87), (10, iv (w64 (p2 - p1))), (11, pt 1 0), (12, iv (w64 (p1 + (w64 ((w64 (Int.tdiv (w64 (p2 - p1)) 4)) * 1))))), (13, iv (w64 (p1 + (w64 ((w64 (Int.tdiv (w64 (p2 - p1)) 4)) * 2)))))]) (TI.dq (TS.sq (TS.rg ?_)))))))
 refine TI.ra 6 [0, 3, 10, 11, 12, 13, 14] (st 63 [(0, anyV 0 p0.length), (3, fn 87), (10, iv (w64 (p2 - p1))), (11, pt 1 0), (12, iv (w64 (p1 + (w64 ((w64 (Int.tdiv (w64 (p2 - p1)) 4)) * 1))))), (13, iv (w64 (p1 + (w64 ((w64 (Int.tdiv (w64 (p2 - p1)) 4)) * 2))))), (14, iv (w64 (p1 + (w64 ((w64 (Int.tdiv (w64 (p2 - p1)) 4)) * 3)))))]) (TI.dq (TS.sq (TS.sq (TS.rg (TI.ra 2 [0, 3, 10, 11, 12, 13, 14, 34] (st 63 [(0, anyV 0 p0.length), (3, fn 87), (10, iv (w64 (p2 - p1))), (11, pt 1 0), (12, iv (w64 (p1 + (w64 ((w64 (Int.tdiv (w64 (p2 - p1)) 4)) * 1))))), (13, iv (w64 (p1 + (w64 ((w64 (Int.tdiv (w64 (p2 - p1)) 4)) * 2))))), (14, iv (w64 (p1 + (w64 ((w64 (Int.tdiv (w64 (p2 - p1)) 4)) * 3))))), (34, .bool (decide ((w64 (p2 - p1)) ≥ 8)))]) (TI.dq ?_))))))
 obtain ⟨m15, hm16, hF⟩ := of_do hF
 have hK : NX Pg 0 1 [.sq c113.s2.s2.s2.s2.s2.s2.s2] (ImpFinV Pg Try.f113 (.tuple #[iv r.1, iv r.2.1]) [lb101 r.2.2]) .normal (st 63 [(0, anyV 0 p0.length), (11, pt 1 0), (13, iv m15.1)]) [lb101 p0, cl 3 [iv m15.2]] := by
  refine NX.sq (TS.sq (TS.rg (TI.rn 1 [0, 13, 55] [0] (st 63 [(0, anyV 0 p0.length), (13, iv m15.1), (55, iv m15.2)]) [lb101 p0, .dead] (TI.dq (TS.bk 0 (TS.sq (TS.rg ?_)))))))
  refine TI.ra 2 [0, 13, 55, 57] (st 63 [(0, anyV 0 p0.length), (13, iv m15.1), (55, iv m15.2), (57, .bool (m15.2 == 0))]) (TI.dq ?_)
  refine TS.cd (.tmp 57) (m15.2 == 0) (fun hc17 => ?_) (fun hc17 => ?_)
  · replace hF := of_pos hF hc17
    refine TS.sq (TS.rg (TI.ra 3 [0, 8, 9] (st 63 [(0, anyV 0 p0.length), (8, iv m15.1), (9, iv 1)]) (TI.dq (TS.rt (NX.bkR ?_)))))
    have hF := sj hF
    subst hF
    exact ⟨.inr rfl, rfl, by kernel_rfl, [.dead], by kernel_rfl⟩
  replace hF := of_neg hF hc17
  refine TS.sq (TS.rg (TI.ra 2 [0, 13, 60] (st 63 [(0, anyV 0 p0.length), (13, iv m15.1), (60, .bool (m15.2 == 12))]) (TI.dq ?_)))
  refine TS.cd (.tmp 60) (m15.2 == 12) (fun hc18 => ?_) (fun hc18 => ?_)
  · replace hF := of_pos hF hc18
    refine TS.sq (TS.rg (TI.ra 3 [0, 8, 9] (st 63 [(0, anyV 0 p0.length), (8, iv m15.1), (9, iv 2)]) (TI.dq (TS.rt (NX.bkR ?_)))))
    have hF := sj hF
    subst hF
    exact ⟨.inr rfl, rfl, by kernel_rfl, [.dead], by kernel_rfl⟩
  replace hF := of_neg hF hc18
  refine TS.sq (TS.rg (TI.ra 3 [0, 8, 9] (st 63 [(0, anyV 0 p0.length), (8, iv m15.1), (9, iv 0)]) (TI.dq (TS.rt (NX.bkR ?_)))))
  have hF := sj hF
  subst hF
  exact ⟨.inr rfl, rfl, by kernel_rfl, [.dead], by kernel_rfl⟩
 clear hF
 have hF := hm16
 clear hm16
 refine TS.start ?_
 refine TS.cd (.tmp 34) (decide ((w64 (p2 - p1)) ≥ 8)) (fun hc19 => ?_) (fun hc19 => ?_)
 · replace hF := of_pos hF hc19
   refine TS.sq (TS.sq (TS.rg (TI.ra 2 [0, 3, 11, 12, 13, 14, 36] (st 63 [(0, anyV 0 p0.length), (3, fn 87), (11, pt 1 0), (12, iv (w64 (p1 + (w64 ((w64 (Int.tdiv (w64 (p2 - p1)) 4)) * 1))))), (13, iv (w64 (p1 + (w64 ((w64 (Int.tdiv (w64 (p2 - p1)) 4)) * 2))))), (14, iv (w64 (p1 + (w64 ((w64 (Int.tdiv (w64 (p2 - p1)) 4)) * 3))))), (36, .bool (decide ((w64 (p2 - p1)) ≥ 50)))]) (TI.dq ?_))))
   obtain ⟨m31, hm32, hF⟩ := of_do hF
   have hK : NX Pg 0 1 [.sq c113.s2.s2.s2.s2.s2.s2.s1.s2.th.s2] (NX Pg 0 1 [.sq c113.s2.s2.s2.s2.s2.s2.s2] (ImpFinV Pg Try.f113 (.tuple #[iv r.1, iv r.2.1]) [lb101 r.2.2])) .normal (st 63 [(0, anyV 0 p0.length), (3, fn 87), (11, pt 1 0), (12, iv m31.1), (13, iv m31.2.1), (14, iv m31.2.2.1)]) [lb101 p0, cl 3 [iv m31.2.2.2]] := by
    refine NX.sq ?_
    obtain ⟨r33, h34, hF⟩ := of_do hF
    refine TS.rg (TI.ra 5 [0, 11, 49, 50, 51, 52, 53] (st 63 [(0, anyV 0 p0.length), (11, pt 1 0), (49, anyV 0 p0.length), (50, iv m31.1), (51, iv m31.2.1), (52, iv m31.2.2.1), (53, fn 87)]) ?_)
    refine TI.icallM (g := 125) (args := [anyV 0 p0.length, iv m31.1, iv m31.2.1, iv m31.2.2.1, pt 1 0, fn 87]) (v := iv r33.1) (h1 := [lb101 p0, cl 3 [iv r33.2]]) (by kernel_rfl) (C125 _ _ (by first | rfl | simp only [List.length_set]) _ _ _ _ _ h34) [0, 11, 54] [0, 1] (a2 := (st 63 [(0, anyV 0 p0.length), (11, pt 1 0), (54, iv r33.1)])) (h2 := [lb101 p0, cl 3 [iv r33.2]]) (by kernel_rfl) (TI.ra 1 [0, 11, 13] (st 63 [(0, anyV 0 p0.length), (11, pt 1 0), (13, iv r33.1)]) (TI.dn ?_))
    have hF := sj hF
    subst hF
    exact TS.weak (by exact (Wk.an [1] (.cons (At.blk (by kernel_rfl) (RnB.list (fun _ => rfl))) (.lt (.fl .nil) (.nil _))) [anyV 0 p0.length, pt 1 0, iv r33.1] (.cons rav (.pp (.fl .nil))))) hK
   clear hF
   have hF := hm32
   clear hm32
   refine TS.start ?_
   refine TS.cd (.tmp 36) (decide ((w64 (p2 - p1)) ≥ 50)) (fun hc35 => ?_) (fun hc35 => ?_)
   · replace hF := of_pos hF hc35
     refine TS.sq ?_
     obtain ⟨r36, h37, hF⟩ := of_do hF
     refine TS.rg (TI.ra 3 [0, 3, 11, 13, 14, 37, 38, 39] (st 63 [(0, anyV 0 p0.length), (3, fn 87), (11, pt 1 0), (13, iv (w64 (p1 + (w64 ((w64 (Int.tdiv (w64 (p2 - p1)) 4)) * 2))))), (14, iv (w64 (p1 + (w64 ((w64 (Int.tdiv (w64 (p2 - p1)) 4)) * 3))))), (37, anyV 0 p0.length), (38, iv (w64 (p1 + (w64 ((w64 (Int.tdiv (w64 (p2 - p1)) 4)) * 1))))), (39, fn 87)]) ?_)
     refine TI.icallM (g := 124) (args := [anyV 0 p0.length, iv (w64 (p1 + (w64 ((w64 (Int.tdiv (w64 (p2 - p1)) 4)) * 1)))), pt 1 0, fn 87]) (v := iv r36.1) (h1 := [lb101 p0, cl 3 [iv r36.2]]) (by kernel_rfl) (C124 _ _ (by first | rfl | simp only [List.length_set]) _ _ _ h37) [0, 3, 11, 13, 14, 40] [0, 1] (a2 := (st 63 [(0, anyV 0 p0.length), (3, fn 87), (11, pt 1 0), (13, iv (w64 (p1 + (w64 ((w64 (Int.tdiv (w64 (p2 - p1)) 4)) * 2))))), (14, iv (w64 (p1 + (w64 ((w64 (Int.tdiv (w64 (p2 - p1)) 4)) * 3))))), (40, iv r36.1)])) (h2 := [lb101 p0, cl 3 [iv r36.2]]) (by kernel_rfl) (TI.ra 1 [0, 3, 11, 12, 13, 14] (st 63 [(0, anyV 0 p0.length), (3, fn 87), (11, pt 1 0), (12, iv r36.1), (13, iv (w64 (p1 + (w64 ((w64 (Int.tdiv (w64 (p2 - p1)) 4)) * 2))))), (14, iv (w64 (p1 + (w64 ((w64 (Int.tdiv (w64 (p2 - p1)) 4)) * 3)))))]) (TI.dq (TS.sq ?_)))
     obtain ⟨r38, h39, hF⟩ := of_do hF
     refine TS.rg (TI.ra 3 [0, 3, 11, 12, 14, 41, 42, 43] (st 63 [(0, anyV 0 p0.length), (3, fn 87), (11, pt 1 0), (12, iv r36.1), (14, iv (w64 (p1 + (w64 ((w64 (Int.tdiv (w64 (p2 - p1)) 4)) * 3))))), (41, anyV 0 p0.length), (42, iv (w64 (p1 + (w64 ((w64 (Int.tdiv (w64 (p2 - p1)) 4)) * 2))))), (43, fn 87)]) ?_)
     refine TI.icallM (g := 124) (args := [anyV 0 p0.length, iv (w64 (p1 + (w64 ((w64 (Int.tdiv (w64 (p2 - p1)) 4)) * 2)))), pt 1 0, fn 87]) (v := iv r38.1) (h1 := [lb101 p0, cl 3 [iv r38.2]]) (by kernel_rfl) (C124 _ _ (by first | rfl | simp only [List.length_set]) _ _ _ h39) [0, 3, 11, 12, 14, 44] [0, 1] (a2 := (st 63 [(0, anyV 0 p0.length), (3, fn 87), (11, pt 1 0), (12, iv r36.1), (14, iv (w64 (p1 + (w64 ((w64 (Int.tdiv (w64 (p2 - p1)) 4)) * 3))))), (44, iv r38.1)])) (h2 := [lb101 p0, cl 3 [iv r38.2]]) (by kernel_rfl) (TI.ra 1 [0, 3, 11, 12, 13, 14] (st 63 [(0, anyV 0 p0.length), (3, fn 87), (11, pt 1 0), (12, iv r36.1), (13, iv r38.1), (14, iv (w64 (p1 + (w64 ((w64 (Int.tdiv (w64 (p2 - p1)) 4)) * 3)))))]) (TI.dq ?_))
     obtain ⟨r40, h41, hF⟩ := of_do hF
     refine TS.rg (TI.ra 3 [0, 3, 11, 12, 13, 45, 46, 47] (st 63 [(0, anyV 0 p0.length), (3, fn 87), (11, pt 1 0), (12, iv r36.1), (13, iv r38.1), (45, anyV 0 p0.length), (46, iv (w64 (p1 + (w64 ((w64 (Int.tdiv (w64 (p2 - p1)) 4)) * 3))))), (47, fn 87)]) ?_)
     refine TI.icallM (g := 124) (args := [anyV 0 p0.length, iv (w64 (p1 + (w64 ((w64 (Int.tdiv (w64 (p2 - p1)) 4)) * 3)))), pt 1 0, fn 87]) (v := iv r40.1) (h1 := [lb101 p0, cl 3 [iv r40.2]]) (by kernel_rfl) (C124 _ _ (by first | rfl | simp only [List.length_set]) _ _ _ h41) [0, 3, 11, 12, 13, 48] [0, 1] (a2 := (st 63 [(0, anyV 0 p0.length), (3, fn 87), (11, pt 1 0), (12, iv r36.1), (13, iv r38.1), (48, iv r40.1)])) (h2 := [lb101 p0, cl 3 [iv r40.2]]) (by kernel_rfl) (TI.ra 1 [0, 3, 11, 12, 13, 14] (st 63 [(0, anyV 0 p0.length), (3, fn 87), (11, pt 1 0), (12, iv r36.1), (13, iv r38.1), (14, iv r40.1)]) (TI.dn ?_))
     have hF := sj hF
     subst hF
     exact TS.weak (by exact (Wk.an [1] (.cons (At.blk (by kernel_rfl) (RnB.list (fun _ => rfl))) (.lt (.fl .nil) (.nil _))) [anyV 0 p0.length, fn 87, pt 1 0, iv r36.1, iv r38.1, iv r40.1] (.cons rav (.cons (Rn.func' .nil .nil) (.pp (.fl (.fl (.fl .nil)))))))) hK
   replace hF := of_neg hF hc35
   refine TS.sk ?_
   have hF := sj hF
   subst hF
   exact TS.weak (by exact (Wk.an [1] (.cons (At.blk (by kernel_rfl) (RnB.list (fun _ => rfl))) (.lt (.fl .nil) (.nil _))) [anyV 0 p0.length, fn 87, pt 1 0, iv (w64 (p1 + (w64 ((w64 (Int.tdiv (w64 (p2 - p1)) 4)) * 1)))), iv (w64 (p1 + (w64 ((w64 (Int.tdiv (w64 (p2 - p1)) 4)) * 2)))), iv (w64 (p1 + (w64 ((w64 (Int.tdiv (w64 (p2 - p1)) 4)) * 3))))] (.cons rav (.cons (Rn.func' .nil .nil) (.pp (.fl (.fl (.fl .nil)))))))) hK
 replace hF := of_neg hF hc19
 refine TS.sk ?_
 have hF := sj hF
 subst hF
 exact TS.weak (by exact (Wk.an [1] (.cons (At.blk (by kernel_rfl) (RnB.list (fun _ => rfl))) (.lt (.fl .nil) (.nil _))) [anyV 0 p0.length, pt 1 0, iv (w64 (p1 + (w64 ((w64 (Int.tdiv (w64 (p2 - p1)) 4)) * 2))))] (.cons rav (.pp (.fl .nil))))) hK
theorem C113 (p0 : List I2) (k : Nat) (hk : List.length p0 = k) (p1 p2 : Int) (r : Int × Int × (List I2)) (hF : F113 p0 p1 p2 = some r) : ImpSim Pg 113 [anyV 0 k, iv p1, iv p2, fn 87] 0 [lb101 p0] (.tuple #[iv r.1, iv r.2.1]) [lb101 r.2.2] := by
 subst hk
 exact ImpSim.of_FinV (fn := Try.f113) (c := c113) (by kernel_rfl) (by kernel_rfl) (by kernel_rfl) (by kernel_rfl) 0 1 rfl rfl (by decide) (selfOk_cons (selfOk_flat (.inr (e101_flat _))) selfOk_nil) [0, 1, 2, 3] (by kernel_rfl) (B113 p0 p1 p2 r hF)
end Go.Proofs.Ythpfffijnkmdgaa
