/- What functions of the program compute, and that they do. -/
import Derived.Test.YtdekbjfjbbdjgaaGS
set_option linter.unusedVariables false
set_option linter.unusedSimpArgs false
set_option maxRecDepth 100000
set_option maxHeartbeats 4000000
namespace Go.Proofs.Ytdekbjfjbbdjgaa
open Go Go.Cl
noncomputable section
noncomputable def c35 : Code := Try.f35.code
def S35_0 (v130 : List Int) (o148 : I2) (p0 p1 : Int) (r13 : List Int) (v63 : Int) (p2 : List I2) (v129 : Int) : CAct := (st 71 [(1, pt 1 0), (3, mkV 2 v130.length), (7, iv (Int.tmod o148.1 p0)), (8, iv (w64 (p0 + (Int.tmod o148.1 p1)))), (26, iv (r13.length : Int)), (27, iv v63), (30, sv 0 p2.length ANY), (31, iv (p2.length : Int)), (32, iv v129)])
def H35_1 (p2 : List I2) (p0 p1 : Int) (v130 : List Int) (o148 : I2) (o153 o156 : Int) : List Blk := [ab 57 e57 p2, cl 24 [iv p0, iv p1, sv 0 p2.length ANY], .cells 3 (List.flatMap e3 (List.set v130 (Int.toNat (Int.tmod o148.1 p0)) (mn o153 o156))), .dead]
def S35_2 (v130 r13 : List Int) (v63 : Int) (p2 : List I2) (v129 : Int) : CAct := (st 71 [(1, pt 1 0), (3, mkV 2 v130.length), (26, iv (r13.length : Int)), (27, iv v63), (30, sv 0 p2.length ANY), (31, iv (p2.length : Int)), (32, iv v129)])
def H35_3 (p2 : List I2) (p0 p1 : Int) : List Blk := [ab 57 e57 p2, cl 24 [iv p0, iv p1, sv 0 p2.length ANY], .cells 3 (List.flatMap e3 (List.replicate (Int.toNat (w64 (p0 + p1))) (0 : Int)))]
def S35_4 (v64 r13 : List Int) (v63 : Int) (p2 : List I2) : CAct := (st 71 [(1, pt 1 0), (3, mkV 2 v64.length), (26, iv (r13.length : Int)), (27, iv v63), (30, sv 0 p2.length ANY), (31, iv (p2.length : Int)), (32, iv 0)])
def H35_5 (p2 : List I2) (p0 p1 : Int) (v130 : List Int) (o148 : I2) : List Blk := [ab 57 e57 p2, cl 24 [iv p0, iv p1, sv 0 p2.length ANY], .cells 3 (List.flatMap e3 v130), cl 57 [iv o148.1, iv o148.2]]
def H35_6 (p2 : List I2) (p0 p1 : Int) (v130 : List Int) : List Blk := [ab 57 e57 p2, cl 24 [iv p0, iv p1, sv 0 p2.length ANY], .cells 3 (List.flatMap e3 v130), .dead]
def H35_7 (p2 : List I2) (p0 p1 : Int) (v130 : List Int) : List Blk := [ab 57 e57 p2, cl 24 [iv p0, iv p1, sv 0 p2.length ANY], .cells 3 (List.flatMap e3 v130)]
def H35_8 (p2 : List I2) (p0 p1 : Int) (v64 : List Int) : List Blk := [ab 57 e57 p2, cl 24 [iv p0, iv p1, sv 0 p2.length ANY], .cells 3 (List.flatMap e3 v64)]
def H35_9 (p2 : List I2) (p0 p1 : Int) (v7 : List Int) : List Blk := [ab 57 e57 p2, cl 24 [iv p0, iv p1, sv 0 p2.length ANY], .cells 3 (List.flatMap e3 v7)]
def F35l0 (p0 p1 : Int) (p2 : List I2) (o2 v6 : Int) (v7 : List Int) : Option (List Int) :=
 if decide (v6 < o2) then
  if (0 : Int) ≤ v6 ∧ v6 < (v7.length : Int) then
   F35l0 p0 p1 p2 o2 (w64 (v6 + 1)) (List.set v7 (Int.toNat v6) v6)
  else none
 else
  some v7
 partial_fixpoint
def F35l2 (p0 p1 : Int) (p2 : List I2) (r13 : List Int) (v63 v129 : Int) (v130 : List Int) : Option (List Int) :=
 if decide (v129 < (p2.length : Int)) then
  if (0 : Int) ≤ v129 ∧ v129 < (p2.length : Int) then
   some (List.getD p2 (Int.toNat v129) (0, 0)) >>= fun o148 =>
   if p0 = 0 then none else
   if p1 = 0 then none else
   if (0 : Int) ≤ Int.tmod o148.1 p0 ∧ Int.tmod o148.1 p0 < (v130.length : Int) then
    some (List.getD v130 (Int.toNat (Int.tmod o148.1 p0)) 0) >>= fun o153 =>
    if (0 : Int) ≤ w64 (p0 + (Int.tmod o148.1 p1)) ∧ w64 (p0 + (Int.tmod o148.1 p1)) < (v130.length : Int) then
     some (List.getD v130 (Int.toNat (w64 (p0 + (Int.tmod o148.1 p1)))) 0) >>= fun o156 =>
     some (List.getD (List.set v130 (Int.toNat (Int.tmod o148.1 p0)) (mn o153 o156)) (Int.toNat (Int.tmod o148.1 p0)) 0) >>= fun o158 =>
     F35l2 p0 p1 p2 r13 v63 (w64 (v129 + 1)) (List.set (List.set v130 (Int.toNat (Int.tmod o148.1 p0)) (mn o153 o156)) (Int.toNat (w64 (p0 + (Int.tmod o148.1 p1)))) o158)
    else none
   else none
  else none
 else
  some v130
 partial_fixpoint
def F35l1 (p0 p1 : Int) (p2 : List I2) (r13 : List Int) (v63 : Int) (v64 : List Int) : Option (List Int) :=
 if decide (v63 < (r13.length : Int)) then
  F35l2 p0 p1 p2 r13 v63 0 v64 >>= fun r160 =>
  F35l1 p0 p1 p2 r13 (w64 (v63 + 1)) r160
 else
  some v64
 partial_fixpoint
def F35 (p0 p1 : Int) (p2 : List I2) : Option (List Int) :=
 if (0 : Int) ≤ w64 (p0 + p1) ∧ w64 (p0 + p1) ≤ 1000000000 then
  some (List.length (List.replicate (Int.toNat (w64 (p0 + p1))) (0 : Int)) : Int) >>= fun o2 =>
  F35l0 p0 p1 p2 o2 0 (List.replicate (Int.toNat (w64 (p0 + p1))) (0 : Int)) >>= fun r13 =>
  F35l1 p0 p1 p2 r13 0 r13 >>= fun r162 =>
  some r162
 else none
def V35 (b : Nat) (r : List Int) : Value := mkV (b + 0) r.length
def N35 (b : Nat) (r : List Int) : List Blk := [.cells 3 (List.flatMap e3 r)]
def P35l0 (p0 p1 : Int) (p2 : List I2) (o2 : Int) (r : List Int) : Post := fun e a h => e = .exit 0 ∧ Wk Try.prog 1 1 a h (st 71 [(1, pt 1 0), (3, mkV 2 r.length)]) [ab 57 e57 p2, cl 24 [iv p0, iv p1, sv 0 p2.length ANY], .cells 3 (List.flatMap e3 r)]
theorem L35l0 (p0 p1 : Int) (p2 : List I2) (o2 v6 : Int) (v7 r : List Int) (hF : F35l0 p0 p1 p2 o2 v6 v7 = some r) : TL Try.prog 1 1 c35.s2.s2.s1.s2.bd.bd (st 71 [(1, pt 1 0), (3, mkV 2 v7.length), (16, iv o2), (17, iv v6)]) (H35_9 p2 p0 p1 v7) (P35l0 p0 p1 p2 o2 r) := by
 refine F35l0.partial_correctness p0 p1 p2 o2 (motive := fun v6 v7 r => TL Try.prog 1 1 c35.s2.s2.s1.s2.bd.bd (st 71 [(1, pt 1 0), (3, mkV 2 v7.length), (16, iv o2), (17, iv v6)]) (H35_9 p2 p0 p1 v7) (P35l0 p0 p1 p2 o2 r)) ?_ v6 v7 r hF
 clear hF r v6 v7
 intro again ih v6 v7 r hF
 refine TL.round (TS.sq (TS.rg (TI.ra 1 [1, 3, 16, 17, 18] (st 71 [(1, pt 1 0), (3, mkV 2 v7.length), (16, iv o2), (17, iv v6), (18, .bool (decide (v6 < o2)))]) (TI.dn (NX.sq (TS.sq ?_))))))
 refine TS.cd (.tmp 18) (decide (v6 < o2)) (fun hc11 => ?_) (fun hc11 => ?_)
 · replace hF := of_pos hF hc11
   refine TS.sk (NX.sq (TS.sq (TS.bk 1 (TS.sq (TS.rg (TI.ra 2 [1, 3, 4, 16, 17] (st 71 [(1, pt 1 0), (3, mkV 2 v7.length), (4, iv v6), (16, iv o2), (17, iv v6)]) (TI.dn (NX.sq ?_))))))))
   obtain ⟨hg12, hF⟩ := of_guard hF
   refine TS.rg (TI.ra 3 [1, 3, 16, 17, 20, 21, 22] (st 71 [(1, pt 1 0), (3, mkV 2 v7.length), (16, iv o2), (17, iv v6), (20, mkV 2 v7.length), (21, iv v6), (22, iv v6)]) (TI.o { val := .pointer (some ⟨2, 0 + (Int.toNat v6) * 1, none⟩) } (q_ixS 2 0 ((Int.toNat v6) * 1) (by kernel_rfl) hg12) [1, 3, 16, 17, 22, 23] [0, 1, 2] (st 71 [(1, pt 1 0), (3, mkV 2 v7.length), (16, iv o2), (17, iv v6), (22, iv v6), (23, .pointer (some ⟨2, 0 + (Int.toNat v6) * 1, none⟩))]) (H35_9 p2 p0 p1 v7) ?_))
   refine TI.o { val := undef, upd := some (2, .cells 3 (List.flatMap e3 (List.set v7 (Int.toNat v6) v6))) } (q_stP Try.prog 1 (H35_9 p2 p0 p1 v7) 3 2 (0 + (Int.toNat v6) * 1) v7 e3 1 3 (Int.toNat v6) 0 1 (iv v6) [iv v6] 0 v6 (by first | omega | (simp <;> omega))) [1, 3, 16, 17] [0, 1, 2] (st 71 [(1, pt 1 0), (3, mkV 2 v7.length), (16, iv o2), (17, iv v6)]) [ab 57 e57 p2, cl 24 [iv p0, iv p1, sv 0 p2.length ANY], .cells 3 (List.flatMap e3 (List.set v7 (Int.toNat v6) v6))] (TI.dn (NX.bk (NX.sq (TS.rg (TI.ra 2 [1, 3, 16, 17] (st 71 [(1, pt 1 0), (3, mkV 2 v7.length), (16, iv o2), (17, iv (w64 (v6 + 1)))]) (TI.dn ?_))))))
   exact Rd.again (a2 := (st 71 [(1, pt 1 0), (3, mkV 2 (List.length (List.set v7 (Int.toNat v6) v6))), (16, iv o2), (17, iv (w64 (v6 + 1)))])) (h2 := [ab 57 e57 p2, cl 24 [iv p0, iv p1, sv 0 p2.length ANY], .cells 3 (List.flatMap e3 (List.set v7 (Int.toNat v6) v6))]) (Wk.an [1, 2] (.ac (.lt (.fl (.fl (.sl .nil))) (.cons (At.blk (by kernel_rfl) (RnB.list (fun _ => rfl))) (.nil _)))) [pt 1 0, mkV 2 v7.length, iv o2, iv (w64 (v6 + 1))] (.pp (.cons (Rn.mk (nl rfl) rfl (by simp only [List.length_set])) (.fl (.fl .nil))))) (ih (w64 (v6 + 1)) (List.set v7 (Int.toNat v6) v6) _ hF)
 replace hF := of_neg hF hc11
 refine TS.ex 0 (NX.sqX ?_)
 have hF := sj hF
 subst hF
 exact Rd.out (e := .exit 0) (by intro h; cases h) (And.intro rfl (Wk.an [1, 2] (.ac (.lt (.fl (.fl (.sl .nil))) (.cons (At.blk (by kernel_rfl) (RnB.list (fun _ => rfl))) (.nil _)))) [pt 1 0, mkV 2 v7.length] (.pp (.cons (Rn.mk (nl rfl) rfl (by simp only [List.length_set])) .nil))))
def P35l2 (p0 p1 : Int) (p2 : List I2) (r13 : List Int) (v63 : Int) (r : List Int) : Post := fun e a h => e = .exit 4 ∧ Wk Try.prog 1 1 a h (st 71 [(1, pt 1 0), (3, mkV 2 r.length), (26, iv (r13.length : Int)), (27, iv v63)]) [ab 57 e57 p2, cl 24 [iv p0, iv p1, sv 0 p2.length ANY], .cells 3 (List.flatMap e3 r)]
theorem L35l2 (p0 p1 : Int) (p2 : List I2) (r13 : List Int) (v63 v129 : Int) (v130 r : List Int) (hF : F35l2 p0 p1 p2 r13 v63 v129 v130 = some r) : TL Try.prog 1 1 c35.s2.s2.s2.s1.s2.bd.bd.s2.s2.s1.bd.s2.bd.bd (S35_2 v130 r13 v63 p2 v129) (H35_7 p2 p0 p1 v130) (P35l2 p0 p1 p2 r13 v63 r) := by
 refine F35l2.partial_correctness p0 p1 p2 r13 v63 (motive := fun v129 v130 r => TL Try.prog 1 1 c35.s2.s2.s2.s1.s2.bd.bd.s2.s2.s1.bd.s2.bd.bd (S35_2 v130 r13 v63 p2 v129) (H35_7 p2 p0 p1 v130) (P35l2 p0 p1 p2 r13 v63 r)) ?_ v129 v130 r hF
 clear hF r v129 v130
 intro again ih v129 v130 r hF
 refine TL.round (TS.sq (TS.rg (TI.ra 1 [1, 3, 26, 27, 30, 31, 32, 33] (st 71 [(1, pt 1 0), (3, mkV 2 v130.length), (26, iv (r13.length : Int)), (27, iv v63), (30, sv 0 p2.length ANY), (31, iv (p2.length : Int)), (32, iv v129), (33, .bool (decide (v129 < (p2.length : Int))))]) (TI.dn (NX.sq (TS.sq ?_))))))
 refine TS.cd (.tmp 33) (decide (v129 < (p2.length : Int))) (fun hc146 => ?_) (fun hc146 => ?_)
 · replace hF := of_pos hF hc146
   refine TS.sk (NX.sq (TS.sq (TS.bk 5 (TS.sq ?_))))
   obtain ⟨hg147, hF⟩ := of_guard hF
   obtain ⟨o148, h149, hF⟩ := of_do hF
   replace h149 := sj h149
   refine TS.rg (TI.o { val := .pointer (some ⟨0, 0 + (Int.toNat v129) * 2, none⟩) } (q_ixS 0 0 ((Int.toNat v129) * 2) (by kernel_rfl) hg147) [1, 3, 26, 27, 30, 31, 32, 34] [0, 1, 2] (st 71 [(1, pt 1 0), (3, mkV 2 v130.length), (26, iv (r13.length : Int)), (27, iv v63), (30, sv 0 p2.length ANY), (31, iv (p2.length : Int)), (32, iv v129), (34, .pointer (some ⟨0, 0 + (Int.toNat v129) * 2, none⟩))]) (H35_7 p2 p0 p1 v130) (TI.o { val := ag [iv o148.1, iv o148.2] } (q_nAa Try.prog (H35_7 p2 p0 p1 v130) 57 0 (0 + (Int.toNat v129) * 2) p2 e57 2 57 (Int.toNat v129) (0, 0) h149) [1, 3, 26, 27, 30, 31, 32, 35] [0, 1, 2] (st 71 [(1, pt 1 0), (3, mkV 2 v130.length), (26, iv (r13.length : Int)), (27, iv v63), (30, sv 0 p2.length ANY), (31, iv (p2.length : Int)), (32, iv v129), (35, ag [iv o148.1, iv o148.2])]) (H35_7 p2 p0 p1 v130) (TI.rn 2 [1, 3, 6, 26, 27, 30, 31, 32] [0, 1, 2, 3] (st 71 [(1, pt 1 0), (3, mkV 2 v130.length), (6, pt 3 0), (26, iv (r13.length : Int)), (27, iv v63), (30, sv 0 p2.length ANY), (31, iv (p2.length : Int)), (32, iv v129)]) (H35_5 p2 p0 p1 v130 o148) (TI.dn (NX.sq (TS.sq ?_))))))
   obtain ⟨hg150, hF⟩ := of_guardn hF
   obtain ⟨hg151, hF⟩ := of_guardn hF
   refine TS.dp [] (fun e he => by cases he) mixed 14 [1, 3, 7, 8, 26, 27, 30, 31, 32] [0, 1, 2] (S35_0 v130 o148 p0 p1 r13 v63 p2 v129) (H35_6 p2 p0 p1 v130) ?_ ?_
   · exact QJ.rn (qs (st 71 [(1, pt 1 0), (3, mkV 2 v130.length), (6, pt 3 0), (26, iv (r13.length : Int)), (27, iv v63), (30, sv 0 p2.length ANY), (31, iv (p2.length : Int)), (32, iv v129), (36, pt 3 0), (37, iv o148.1), (38, pt 1 0), (39, iv p0)]) (H35_5 p2 p0 p1 v130 o148) [] []) 4 (QJ.o { val := iv (Int.tmod o148.1 p0) } (q_int (P := Try.prog) (op := .rem) (ty := 3) (ox := (.tmp 37)) (oy := (.tmp 39)) (k := .i64) (k' := .i64) (y := o148.1) (z := p0) (by kernel_rfl) (rem_ok hg150)) (QJ.rn (qs (st 71 [(1, pt 1 0), (3, mkV 2 v130.length), (6, pt 3 0), (26, iv (r13.length : Int)), (27, iv v63), (30, sv 0 p2.length ANY), (31, iv (p2.length : Int)), (32, iv v129), (36, pt 3 0), (37, iv o148.1), (38, pt 1 0), (39, iv p0), (40, iv (Int.tmod o148.1 p0)), (41, pt 1 0), (42, iv p0), (43, pt 3 0), (44, iv o148.1), (45, pt 1 1), (46, iv p1)]) (H35_5 p2 p0 p1 v130 o148) [] []) 6 (QJ.o { val := iv (Int.tmod o148.1 p1) } (q_int (P := Try.prog) (op := .rem) (ty := 3) (ox := (.tmp 44)) (oy := (.tmp 46)) (k := .i64) (k' := .i64) (y := o148.1) (z := p1) (by kernel_rfl) (rem_ok hg151)) (QJ.rn (qs (st 71 [(1, pt 1 0), (3, mkV 2 v130.length), (6, pt 3 0), (7, iv (Int.tmod o148.1 p0)), (26, iv (r13.length : Int)), (27, iv v63), (30, sv 0 p2.length ANY), (31, iv (p2.length : Int)), (32, iv v129), (36, pt 3 0), (37, iv o148.1), (38, pt 1 0), (39, iv p0), (40, iv (Int.tmod o148.1 p0)), (41, pt 1 0), (42, iv p0), (43, pt 3 0), (44, iv o148.1), (45, pt 1 1), (46, iv p1), (47, iv (Int.tmod o148.1 p1)), (48, iv (w64 (p0 + (Int.tmod o148.1 p1))))]) (H35_5 p2 p0 p1 v130 o148) [] []) 2 (QJ.dn ⟨rfl, SJ.la⟩)))))
   refine TS.sq ?_
   obtain ⟨hg152, hF⟩ := of_guard hF
   obtain ⟨o153, h154, hF⟩ := of_do hF
   replace h154 := sj h154
   obtain ⟨hg155, hF⟩ := of_guard hF
   obtain ⟨o156, h157, hF⟩ := of_do hF
   replace h157 := sj h157
   refine TS.dp [] (fun e he => by cases he) mixed 11 [1, 3, 7, 8, 26, 27, 30, 31, 32] [0, 1, 2] (S35_0 v130 o148 p0 p1 r13 v63 p2 v129) (H35_1 p2 p0 p1 v130 o148 o153 o156) ?_ ?_
   · refine QJ.rn (qs (st 71 [(1, pt 1 0), (3, mkV 2 v130.length), (7, iv (Int.tmod o148.1 p0)), (8, iv (w64 (p0 + (Int.tmod o148.1 p1)))), (26, iv (r13.length : Int)), (27, iv v63), (30, sv 0 p2.length ANY), (31, iv (p2.length : Int)), (32, iv v129), (49, mkV 2 v130.length), (50, iv (Int.tmod o148.1 p0)), (51, mkV 2 v130.length), (52, iv (Int.tmod o148.1 p0))]) (H35_6 p2 p0 p1 v130) [] []) 4 (QJ.o { val := .pointer (some ⟨2, 0 + (Int.toNat (Int.tmod o148.1 p0)) * 1, none⟩) } (q_ixS 2 0 ((Int.toNat (Int.tmod o148.1 p0)) * 1) (by kernel_rfl) hg152) (QJ.o { val := iv o153 } (q_n1 Try.prog (H35_6 p2 p0 p1 v130) 3 2 (0 + (Int.toNat (Int.tmod o148.1 p0)) * 1) v130 e3 1 3 (Int.toNat (Int.tmod o148.1 p0)) 0 0 h154) (QJ.rn (qs (st 71 [(1, pt 1 0), (3, mkV 2 v130.length), (7, iv (Int.tmod o148.1 p0)), (8, iv (w64 (p0 + (Int.tmod o148.1 p1)))), (26, iv (r13.length : Int)), (27, iv v63), (30, sv 0 p2.length ANY), (31, iv (p2.length : Int)), (32, iv v129), (49, mkV 2 v130.length), (50, iv (Int.tmod o148.1 p0)), (51, mkV 2 v130.length), (52, iv (Int.tmod o148.1 p0)), (53, .pointer (some ⟨2, 0 + (Int.toNat (Int.tmod o148.1 p0)) * 1, none⟩)), (54, iv o153), (55, mkV 2 v130.length), (56, iv (w64 (p0 + (Int.tmod o148.1 p1))))]) (H35_6 p2 p0 p1 v130) [] []) 2 (QJ.o { val := .pointer (some ⟨2, 0 + (Int.toNat (w64 (p0 + (Int.tmod o148.1 p1)))) * 1, none⟩) } (q_ixS 2 0 ((Int.toNat (w64 (p0 + (Int.tmod o148.1 p1)))) * 1) (by kernel_rfl) hg155) (QJ.o { val := iv o156 } (q_n1 Try.prog (H35_6 p2 p0 p1 v130) 3 2 (0 + (Int.toNat (w64 (p0 + (Int.tmod o148.1 p1)))) * 1) v130 e3 1 3 (Int.toNat (w64 (p0 + (Int.tmod o148.1 p1)))) 0 0 h157) (QJ.rn (qs (st 71 [(1, pt 1 0), (3, mkV 2 v130.length), (7, iv (Int.tmod o148.1 p0)), (8, iv (w64 (p0 + (Int.tmod o148.1 p1)))), (26, iv (r13.length : Int)), (27, iv v63), (30, sv 0 p2.length ANY), (31, iv (p2.length : Int)), (32, iv v129), (49, mkV 2 v130.length), (50, iv (Int.tmod o148.1 p0)), (51, mkV 2 v130.length), (52, iv (Int.tmod o148.1 p0)), (53, .pointer (some ⟨2, 0 + (Int.toNat (Int.tmod o148.1 p0)) * 1, none⟩)), (54, iv o153), (55, mkV 2 v130.length), (56, iv (w64 (p0 + (Int.tmod o148.1 p1)))), (57, .pointer (some ⟨2, 0 + (Int.toNat (w64 (p0 + (Int.tmod o148.1 p1)))) * 1, none⟩)), (58, iv o156), (59, iv (mn o153 o156))]) (H35_6 p2 p0 p1 v130) [] []) 1 (QJ.dn ⟨rfl, (SJ.o { val := .pointer (some ⟨2, 0 + (Int.toNat (Int.tmod o148.1 p0)) * 1, none⟩) } (q_ixS 2 0 ((Int.toNat (Int.tmod o148.1 p0)) * 1) (by kernel_rfl) hg152) ?_)⟩)))))))
     exact SJ.o { val := undef, upd := some (2, .cells 3 (List.flatMap e3 (List.set v130 (Int.toNat (Int.tmod o148.1 p0)) (mn o153 o156)))) } (q_stP Try.prog 1 (H35_6 p2 p0 p1 v130) 3 2 (0 + (Int.toNat (Int.tmod o148.1 p0)) * 1) v130 e3 1 3 (Int.toNat (Int.tmod o148.1 p0)) 0 1 (iv (mn o153 o156)) [iv (mn o153 o156)] 0 (mn o153 o156) (by first | omega | (simp <;> omega))) SJ.dn
   obtain ⟨o158, h159, hF⟩ := of_do hF
   replace h159 := sj h159
   refine TS.rg (TI.ra 4 [1, 3, 26, 27, 30, 31, 32, 61, 62, 63, 64] (st 71 [(1, pt 1 0), (3, mkV 2 v130.length), (26, iv (r13.length : Int)), (27, iv v63), (30, sv 0 p2.length ANY), (31, iv (p2.length : Int)), (32, iv v129), (61, mkV 2 v130.length), (62, iv (w64 (p0 + (Int.tmod o148.1 p1)))), (63, mkV 2 v130.length), (64, iv (Int.tmod o148.1 p0))]) (TI.o { val := .pointer (some ⟨2, 0 + (Int.toNat (Int.tmod o148.1 p0)) * 1, none⟩) } (q_ixS 2 0 ((Int.toNat (Int.tmod o148.1 p0)) * 1) (by kernel_rfl) hg152) [1, 3, 26, 27, 30, 31, 32, 61, 62, 65] [0, 1, 2] (st 71 [(1, pt 1 0), (3, mkV 2 v130.length), (26, iv (r13.length : Int)), (27, iv v63), (30, sv 0 p2.length ANY), (31, iv (p2.length : Int)), (32, iv v129), (61, mkV 2 v130.length), (62, iv (w64 (p0 + (Int.tmod o148.1 p1)))), (65, .pointer (some ⟨2, 0 + (Int.toNat (Int.tmod o148.1 p0)) * 1, none⟩))]) (H35_1 p2 p0 p1 v130 o148 o153 o156) (TI.o { val := iv o158 } (q_n1 Try.prog (H35_1 p2 p0 p1 v130 o148 o153 o156) 3 2 (0 + (Int.toNat (Int.tmod o148.1 p0)) * 1) (List.set v130 (Int.toNat (Int.tmod o148.1 p0)) (mn o153 o156)) e3 1 3 (Int.toNat (Int.tmod o148.1 p0)) 0 0 h159) [1, 3, 26, 27, 30, 31, 32, 61, 62, 66] [0, 1, 2] (st 71 [(1, pt 1 0), (3, mkV 2 v130.length), (26, iv (r13.length : Int)), (27, iv v63), (30, sv 0 p2.length ANY), (31, iv (p2.length : Int)), (32, iv v129), (61, mkV 2 v130.length), (62, iv (w64 (p0 + (Int.tmod o148.1 p1)))), (66, iv o158)]) (H35_1 p2 p0 p1 v130 o148 o153 o156) (TI.o { val := .pointer (some ⟨2, 0 + (Int.toNat (w64 (p0 + (Int.tmod o148.1 p1)))) * 1, none⟩) } (q_ixS 2 0 ((Int.toNat (w64 (p0 + (Int.tmod o148.1 p1)))) * 1) (by kernel_rfl) hg155) [1, 3, 26, 27, 30, 31, 32, 66, 67] [0, 1, 2] (st 71 [(1, pt 1 0), (3, mkV 2 v130.length), (26, iv (r13.length : Int)), (27, iv v63), (30, sv 0 p2.length ANY), (31, iv (p2.length : Int)), (32, iv v129), (66, iv o158), (67, .pointer (some ⟨2, 0 + (Int.toNat (w64 (p0 + (Int.tmod o148.1 p1)))) * 1, none⟩))]) (H35_1 p2 p0 p1 v130 o148 o153 o156) ?_))))
   refine TI.o { val := undef, upd := some (2, .cells 3 (List.flatMap e3 (List.set (List.set v130 (Int.toNat (Int.tmod o148.1 p0)) (mn o153 o156)) (Int.toNat (w64 (p0 + (Int.tmod o148.1 p1)))) o158))) } (q_stP Try.prog 1 (H35_1 p2 p0 p1 v130 o148 o153 o156) 3 2 (0 + (Int.toNat (w64 (p0 + (Int.tmod o148.1 p1)))) * 1) (List.set v130 (Int.toNat (Int.tmod o148.1 p0)) (mn o153 o156)) e3 1 3 (Int.toNat (w64 (p0 + (Int.tmod o148.1 p1)))) 0 1 (iv o158) [iv o158] 0 o158 (by first | omega | (simp <;> omega))) [1, 3, 26, 27, 30, 31, 32] [0, 1, 2] (S35_2 v130 r13 v63 p2 v129) [ab 57 e57 p2, cl 24 [iv p0, iv p1, sv 0 p2.length ANY], .cells 3 (List.flatMap e3 (List.set (List.set v130 (Int.toNat (Int.tmod o148.1 p0)) (mn o153 o156)) (Int.toNat (w64 (p0 + (Int.tmod o148.1 p1)))) o158)), .dead] (TI.dn (NX.bk (NX.sq (TS.rg (TI.ra 2 [1, 3, 26, 27, 30, 31, 32] (st 71 [(1, pt 1 0), (3, mkV 2 v130.length), (26, iv (r13.length : Int)), (27, iv v63), (30, sv 0 p2.length ANY), (31, iv (p2.length : Int)), (32, iv (w64 (v129 + 1)))]) (TI.dn ?_))))))
   exact Rd.again (a2 := (st 71 [(1, pt 1 0), (3, mkV 2 (List.length (List.set (List.set v130 (Int.toNat (Int.tmod o148.1 p0)) (mn o153 o156)) (Int.toNat (w64 (p0 + (Int.tmod o148.1 p1)))) o158))), (26, iv (r13.length : Int)), (27, iv v63), (30, sv 0 p2.length ANY), (31, iv (p2.length : Int)), (32, iv (w64 (v129 + 1)))])) (h2 := [ab 57 e57 p2, cl 24 [iv p0, iv p1, sv 0 p2.length ANY], .cells 3 (List.flatMap e3 (List.set (List.set v130 (Int.toNat (Int.tmod o148.1 p0)) (mn o153 o156)) (Int.toNat (w64 (p0 + (Int.tmod o148.1 p1)))) o158))]) (Wk.an [1, 2] (.ac (.lt (.fl (.fl (.sl .nil))) (.cons (At.blk (by kernel_rfl) (RnB.list (fun _ => rfl))) (.nil _)))) [pt 1 0, mkV 2 v130.length, iv (r13.length : Int), iv v63, sv 0 p2.length ANY, iv (p2.length : Int), iv (w64 (v129 + 1))] (.pp (.cons (Rn.mk (nl rfl) rfl (by simp only [List.length_set])) (.fl (.fl (.sl (.fl (.fl .nil)))))))) (ih (w64 (v129 + 1)) (List.set (List.set v130 (Int.toNat (Int.tmod o148.1 p0)) (mn o153 o156)) (Int.toNat (w64 (p0 + (Int.tmod o148.1 p1)))) o158) _ hF)
 replace hF := of_neg hF hc146
 refine TS.ex 4 (NX.sqX ?_)
 have hF := sj hF
 subst hF
 exact Rd.out (e := .exit 4) (by intro h; cases h) (And.intro rfl (Wk.an [1, 2] (.ac (.lt (.fl (.fl (.sl .nil))) (.cons (At.blk (by kernel_rfl) (RnB.list (fun _ => rfl))) (.nil _)))) [pt 1 0, mkV 2 v130.length, iv (r13.length : Int), iv v63] (.pp (.cons (Rn.mk (nl rfl) rfl (by simp only [List.length_set])) (.fl (.fl .nil))))))
def P35l1 (p0 p1 : Int) (p2 : List I2) (r13 r : List Int) : Post := fun e a h => e = .exit 2 ∧ Wk Try.prog 1 1 a h (st 71 [(3, mkV 1 r.length)]) [ab 57 e57 p2, .cells 3 (List.flatMap e3 r)]
theorem L35l1 (p0 p1 : Int) (p2 : List I2) (r13 : List Int) (v63 : Int) (v64 r : List Int) (hF : F35l1 p0 p1 p2 r13 v63 v64 = some r) : TL Try.prog 1 1 c35.s2.s2.s2.s1.s2.bd.bd (st 71 [(1, pt 1 0), (3, mkV 2 v64.length), (26, iv (r13.length : Int)), (27, iv v63)]) (H35_8 p2 p0 p1 v64) (P35l1 p0 p1 p2 r13 r) := by
 refine F35l1.partial_correctness p0 p1 p2 r13 (motive := fun v63 v64 r => TL Try.prog 1 1 c35.s2.s2.s2.s1.s2.bd.bd (st 71 [(1, pt 1 0), (3, mkV 2 v64.length), (26, iv (r13.length : Int)), (27, iv v63)]) (H35_8 p2 p0 p1 v64) (P35l1 p0 p1 p2 r13 r)) ?_ v63 v64 r hF
 clear hF r v63 v64
 intro again ih v63 v64 r hF
 refine TL.round (TS.sq (TS.rg (TI.ra 1 [1, 3, 26, 27, 28] (st 71 [(1, pt 1 0), (3, mkV 2 v64.length), (26, iv (r13.length : Int)), (27, iv v63), (28, .bool (decide (v63 < (r13.length : Int))))]) (TI.dn (NX.sq (TS.sq ?_))))))
 refine TS.cd (.tmp 28) (decide (v63 < (r13.length : Int))) (fun hc114 => ?_) (fun hc114 => ?_)
 · replace hF := of_pos hF hc114
   refine TS.sk (NX.sq (TS.sq (TS.bk 3 (TS.sq (TS.rg (TI.ra 4 [1, 3, 26, 27, 30, 31, 32] (S35_4 v64 r13 v63 p2) (TI.dn (NX.sq ?_))))))))
   refine TS.bk 4 ?_
   obtain ⟨r160, h161, hF⟩ := of_do hF
   refine TS.lp (TL.weak (a2 := (S35_4 v64 r13 v63 p2)) (h2 := (H35_8 p2 p0 p1 v64)) (Wk.an [1, 2] (.ac (.lt (.fl (.fl (.sl .nil))) (.cons (At.blk (by kernel_rfl) (RnB.list (fun _ => rfl))) (.nil _)))) [pt 1 0, mkV 2 v64.length, iv (r13.length : Int), iv v63, sv 0 p2.length ANY, iv (p2.length : Int), iv 0] (.pp (.cons (Rn.mk (nl rfl) rfl (by simp only [List.length_set])) (.fl (.fl (.sl (.fl (.fl .nil)))))))) (TL.post (L35l2 p0 p1 p2 r13 v63 0 v64 r160 h161) ?_))
   rintro e a1 h1 hp
   obtain ⟨rfl, hw⟩ := hp
   refine ⟨(st 71 [(1, pt 1 0), (3, mkV 2 r160.length), (26, iv (r13.length : Int)), (27, iv v63)]), [ab 57 e57 p2, cl 24 [iv p0, iv p1, sv 0 p2.length ANY], .cells 3 (List.flatMap e3 r160)], (NX.bkX (NX.bk (NX.sq (TS.rg (TI.ra 2 [1, 3, 26, 27] (st 71 [(1, pt 1 0), (3, mkV 2 r160.length), (26, iv (r13.length : Int)), (27, iv (w64 (v63 + 1)))]) (TI.dn ?_)))))), hw⟩
   exact Rd.again (a2 := (st 71 [(1, pt 1 0), (3, mkV 2 r160.length), (26, iv (r13.length : Int)), (27, iv (w64 (v63 + 1)))])) (h2 := [ab 57 e57 p2, cl 24 [iv p0, iv p1, sv 0 p2.length ANY], .cells 3 (List.flatMap e3 r160)]) (Wk.an [1, 2] (.ac (.lt (.fl (.fl (.sl .nil))) (.cons (At.blk (by kernel_rfl) (RnB.list (fun _ => rfl))) (.nil _)))) [pt 1 0, mkV 2 r160.length, iv (r13.length : Int), iv (w64 (v63 + 1))] (.pp (.cons (Rn.mk (nl rfl) rfl (by simp only [List.length_set])) (.fl (.fl .nil))))) (ih (w64 (v63 + 1)) r160 _ hF)
 replace hF := of_neg hF hc114
 refine TS.ex 2 (NX.sqX ?_)
 have hF := sj hF
 subst hF
 exact Rd.out (e := .exit 2) (by intro h; cases h) (And.intro rfl (Wk.an [2] (.ac (.cons (At.blk (by kernel_rfl) (RnB.list (fun _ => rfl))) (.nil _))) [mkV 2 v64.length] (.cons (Rn.mk (nl rfl) rfl (by simp only [List.length_set])) .nil)))
theorem B35 (p0 p1 : Int) (p2 : List I2) (r : List Int) (hF : F35 p0 p1 p2 = some r) : TS Try.prog 1 1 c35 (st 71 [(0, ag [iv p0, iv p1, sv 0 p2.length ANY])]) [ab 57 e57 p2] (NX Try.prog 1 1 [] (FinP Try.prog Try.f35 1 (V35 1 r) (N35 1 r))) := by
 unfold F35 at hF
 refine TS.sq (TS.rg (TI.rn 2 [1] [0, 1] (st 71 [(1, pt 1 0)]) [ab 57 e57 p2, cl 24 [iv p0, iv p1, sv 0 p2.length ANY]] (TI.dn (NX.sq (TS.sq ?_)))))
 obtain ⟨hg1, hF⟩ := of_guard hF
 refine TS.rg (TI.ra 5 [1, 13] (st 71 [(1, pt 1 0), (13, iv (w64 (p0 + p1)))]) (TI.o { val := mkV 2 (List.length (List.replicate (Int.toNat (w64 (p0 + p1))) (0 : Int))), new := [.cells 3 (List.flatMap e3 (List.replicate (Int.toNat (w64 (p0 + p1))) (0 : Int)))] } (q_make (P := Try.prog) (n := 2) (t := 30) (enc := e3) (s := 1) (e := 3) (y := w64 (p0 + p1)) (z := iv 0) (bytes := 8) (0 : Int) (by kernel_rfl) (by kernel_rfl) (by kernel_rfl) (by kernel_rfl) (by kernel_rfl) (by kernel_rfl) rfl hg1 (by decide)) [1, 14] [0, 1, 2] (st 71 [(1, pt 1 0), (14, mkV 2 (List.length (List.replicate (Int.toNat (w64 (p0 + p1))) (0 : Int))))]) (H35_3 p2 p0 p1) (TI.ra 1 [1, 3] (st 71 [(1, pt 1 0), (3, mkV 2 (List.length (List.replicate (Int.toNat (w64 (p0 + p1))) (0 : Int))))]) (TI.dn (NX.sq (TS.sq (TS.sq ?_)))))))
 obtain ⟨o2, h3, hF⟩ := of_do hF
 replace h3 := sj h3
 refine TS.rg (TI.ra 1 [1, 3, 15] (st 71 [(1, pt 1 0), (3, mkV 2 (List.length (List.replicate (Int.toNat (w64 (p0 + p1))) (0 : Int)))), (15, mkV 2 (List.length (List.replicate (Int.toNat (w64 (p0 + p1))) (0 : Int))))]) (TI.o { val := iv o2 } (q_convI (e := (List.length (List.replicate (Int.toNat (w64 (p0 + p1))) (0 : Int)) : Int)) (y := o2) (by kernel_rfl) h3) [1, 3, 16] [0, 1, 2] (st 71 [(1, pt 1 0), (3, mkV 2 (List.length (List.replicate (Int.toNat (w64 (p0 + p1))) (0 : Int)))), (16, iv o2)]) (H35_3 p2 p0 p1) (TI.ra 1 [1, 3, 16, 17] (st 71 [(1, pt 1 0), (3, mkV 2 (List.length (List.replicate (Int.toNat (w64 (p0 + p1))) (0 : Int)))), (16, iv o2), (17, iv 0)]) (TI.dn (NX.sq (TS.bk 0 ?_))))))
 obtain ⟨r13, h14, hF⟩ := of_do hF
 refine TS.lp (TL.weak (a2 := (st 71 [(1, pt 1 0), (3, mkV 2 (List.length (List.replicate (Int.toNat (w64 (p0 + p1))) (0 : Int)))), (16, iv o2), (17, iv 0)])) (h2 := (H35_3 p2 p0 p1)) (Wk.an [1, 2] (.ac (.lt (.fl (.fl (.sl .nil))) (.cons (At.blk (by kernel_rfl) (RnB.list (fun _ => rfl))) (.nil _)))) [pt 1 0, mkV 2 (List.length (List.replicate (Int.toNat (w64 (p0 + p1))) (0 : Int))), iv o2, iv 0] (.pp (.cons (Rn.mk (nl rfl) rfl (by simp only [List.length_set])) (.fl (.fl .nil))))) (TL.post (L35l0 p0 p1 p2 o2 0 (List.replicate (Int.toNat (w64 (p0 + p1))) (0 : Int)) r13 h14) ?_))
 rintro e a1 h1 hp
 obtain ⟨rfl, hw⟩ := hp
 refine ⟨(st 71 [(1, pt 1 0), (3, mkV 2 r13.length)]), [ab 57 e57 p2, cl 24 [iv p0, iv p1, sv 0 p2.length ANY], .cells 3 (List.flatMap e3 r13)], (NX.bkX (NX.sq (TS.sq (TS.sq (TS.rg (TI.ra 3 [1, 3, 26, 27] (st 71 [(1, pt 1 0), (3, mkV 2 r13.length), (26, iv (r13.length : Int)), (27, iv 0)]) (TI.dn (NX.sq ?_)))))))), hw⟩
 refine TS.bk 2 ?_
 obtain ⟨r162, h163, hF⟩ := of_do hF
 refine TS.lp (TL.weak (a2 := (st 71 [(1, pt 1 0), (3, mkV 2 r13.length), (26, iv (r13.length : Int)), (27, iv 0)])) (h2 := [ab 57 e57 p2, cl 24 [iv p0, iv p1, sv 0 p2.length ANY], .cells 3 (List.flatMap e3 r13)]) (Wk.an [1, 2] (.ac (.lt (.fl (.fl (.sl .nil))) (.cons (At.blk (by kernel_rfl) (RnB.list (fun _ => rfl))) (.nil _)))) [pt 1 0, mkV 2 r13.length, iv (r13.length : Int), iv 0] (.pp (.cons (Rn.mk (nl rfl) rfl (by simp only [List.length_set])) (.fl (.fl .nil))))) (TL.post (L35l1 p0 p1 p2 r13 0 r13 r162 h163) ?_))
 rintro e a1 h1 hp
 obtain ⟨rfl, hw⟩ := hp
 refine ⟨(st 71 [(3, mkV 1 r162.length)]), [ab 57 e57 p2, .cells 3 (List.flatMap e3 r162)], (NX.bkX (NX.sq (TS.sq (TS.rg (TI.ra 2 [2] (st 71 [(2, mkV 1 r162.length)]) (TI.dn (NX.sq (TS.rt ?_)))))))), hw⟩
 have hF := sj hF
 subst hF
 exact ⟨.inr rfl, rfl, mkV 1 r162.length, by kernel_rfl, WkV.made (L := 1) (f := [1]) (by decide) (by decide) rfl (.cons (At.blk (by kernel_rfl) (RnB.list (fun _ => rfl))) (.nil _)) (Rn.mk (nl rfl) rfl (by simp only [List.length_set]))⟩
theorem C35 (p0 p1 : Int) (p2 : List I2) (r : List Int) (hF : F35 p0 p1 p2 = some r) : PureSim Try.prog 35 [ag [iv p0, iv p1, sv 0 p2.length ANY]] [ab 57 e57 p2] (V35 1 r) (N35 1 r) :=
 PureSim.of_Fin Try.func35 (c := c35) (by kernel_rfl) (by kernel_rfl) 1 rfl [0] [0] (by kernel_rfl) (B35 p0 p1 p2 r hF)
noncomputable def c37 : Code := Try.f37.code
def H37_0 (p2 : List I2) (p0 p1 : Int) (r4 : List (I2 × PL)) : List Blk := [ab 57 e57 p2, cl 24 [iv p0, iv p1, sv 0 p2.length ANY], .dead, mb 83 u83 u85 r4]
def H37_1 (p2 : List I2) (p0 p1 : Int) : List Blk := [ab 57 e57 p2, cl 24 [iv p0, iv p1, sv 0 p2.length ANY], .dead, .dead]
def H37_2 (p2 : List I2) (p0 p1 : Int) : List Blk := [ab 57 e57 p2, cl 24 [iv p0, iv p1, sv 0 p2.length ANY], .dead]
def H37_3 (p2 : List I2) : List Blk := [ab 57 e57 p2, .dead, .dead, .dead]
noncomputable def c37f46 : Code := Try.f46.code
def F37 (p0 p1 : Int) (p2 : List I2) (p3 : Int) : Option I2 :=
 F23 p0 p1 p2 >>= fun r1 =>
 if r1 != 0 then
  some (0, r1)
 else
  F49 p0 p1 p2 >>= fun r4 =>
  F54 p0 p1 p2 r4 >>= fun r6 =>
  if decide (r6 ≥ 0) then
   some (0, 13)
  else
   F51 0 p3 100000 >>= fun r9 =>
   (
    if r9 then
     some (false)
    else
     some (true)
   : Option Bool) >>= fun m11 =>
   if m11 then
    some (0, 1)
   else
    F59 p0 p1 p2 r4 p3 >>= fun r12 =>
    if r12.2 then
     some (r12.1, 0)
    else
     some (0, 14)
def V37 (b : Nat) (r : I2) : Value := .tuple ⟨[iv r.1, iv r.2]⟩
def N37 (b : Nat) (r : I2) : List Blk := []
theorem B37 (p0 p1 : Int) (p2 : List I2) (p3 : Int) (r : I2) (hF : F37 p0 p1 p2 p3 = some r) : TS Try.prog 1 1 c37 (st 32 [(0, ag [iv p0, iv p1, sv 0 p2.length ANY]), (1, iv p3)]) [ab 57 e57 p2] (NX Try.prog 1 1 [] (FinP Try.prog Try.f37 1 (V37 1 r) (N37 1 r))) := by
 unfold F37 at hF
 refine TS.sq (TS.rg (TI.rn 3 [1, 2] [0, 1] (st 32 [(1, iv p3), (2, pt 1 0)]) [ab 57 e57 p2, cl 24 [iv p0, iv p1, sv 0 p2.length ANY]] (TI.dn (NX.sq (TS.sq (TS.rg (TI.ra 1 [1, 2, 11] (st 32 [(1, iv p3), (2, pt 1 0), (11, ag [iv p0, iv p1, sv 0 p2.length ANY])]) (TI.inline (g := 46) (args := [ag [iv p0, iv p1, sv 0 p2.length ANY]]) (fn := Try.f46) (c := c37f46) (n := 2) (by kernel_rfl) (by kernel_rfl) (by kernel_rfl) (by kernel_rfl) (by kernel_rfl) [0] (a2 := (st 18 [(0, ag [iv p0, iv p1, sv 0 p2.length ANY])])) (by kernel_rfl) ?_))))))))
 refine TS.sq (TS.rg (TI.rn 3 [1] [0, 1, 2] (st 18 [(1, pt 2 0)]) [ab 57 e57 p2, cl 24 [iv p0, iv p1, sv 0 p2.length ANY], cl 24 [iv p0, iv p1, sv 0 p2.length ANY]] (TI.dn (NX.sq (TS.sq (TS.sq ?_))))))
 obtain ⟨r1, h2, hF⟩ := of_do hF
 refine TS.rg (TI.ra 1 [1, 6] (st 18 [(1, pt 2 0), (6, ag [iv p0, iv p1, sv 0 p2.length ANY])]) (TI.cp 23 [ag [iv p0, iv p1, sv 0 p2.length ANY]] (iv r1) [] (PureSim.ren (hc := [ab 57 e57 p2]) (fun i => List.getD [(0, 0)] i (0, 0)) (C23 _ _ _ _ h2) (.ac (.nil _)) (.cons (Rn.agg' (.fl (.fl (.cons (Rn.any _ _ _ _ _ _ (nl rfl) rfl rfl (by decide)) .nil)))) .nil) (.flat (by kernel_rfl)) newflat_nil) (TI.ra 1 [1, 4] (st 18 [(1, pt 2 0), (4, iv r1)]) (TI.dn (NX.sq (TS.sq (TS.rg (TI.ra 2 [1, 4, 9] (st 18 [(1, pt 2 0), (4, iv r1), (9, .bool (r1 != 0))]) ?_))))))))
 refine TI.dn (NX.sq ?_)
 refine TS.cd (.tmp 9) (r1 != 0) (fun hc3 => ?_) (fun hc3 => ?_)
 · replace hF := of_pos hF hc3
   refine TS.sq (TS.rg (TI.rn 3 [2, 3] [0, 1] (st 18 [(2, .map none), (3, iv r1)]) (H37_2 p2 p0 p1) (TI.dn (NX.sq (TS.rt (NX.sqR ?_))))))
   refine ⟨.inr rfl, rfl, .tuple ⟨[.map none, iv r1]⟩, .tuple ⟨[.map none, iv r1]⟩, (H37_2 p2 p0 p1), by kernel_rfl, WkV.refl, (TI.rn 0 [1, 2, 12] [0, 1] (st 32 [(1, iv p3), (2, pt 1 0), (12, .tuple ⟨[.map none, iv r1]⟩)]) (H37_2 p2 p0 p1) (TI.ra 5 [1, 2, 6, 7] (st 32 [(1, iv p3), (2, pt 1 0), (6, .map none), (7, iv r1)]) (TI.dn (NX.sq (TS.sq (TS.bk 0 (TS.sq (TS.rg ?_))))))))⟩
   refine TI.ra 1 [1, 2, 6, 7, 16] (st 32 [(1, iv p3), (2, pt 1 0), (6, .map none), (7, iv r1), (16, iv r1)]) (TI.o { val := .bool true } (q_conv (e := r1 != 0) (b := true) (by kernel_rfl) hc3) [1, 2, 6, 7, 17] [0, 1] (st 32 [(1, iv p3), (2, pt 1 0), (6, .map none), (7, iv r1), (17, .bool true)]) (H37_2 p2 p0 p1) (TI.ra 1 [1, 2, 6, 7, 15] (st 32 [(1, iv p3), (2, pt 1 0), (6, .map none), (7, iv r1), (15, .bool true)]) (TI.dn (NX.sq (TS.cdT (.tmp 15) (TS.sq (TS.rg (TI.rn 3 [4, 5] [0] (st 32 [(4, iv 0), (5, iv r1)]) [ab 57 e57 p2, .dead, .dead] ?_))))))))
   refine TI.dn (NX.sq (TS.rt (NX.bkR (NX.sqR ?_))))
   have hF := sj hF
   subst hF
   exact ⟨.inr rfl, rfl, .tuple ⟨[iv 0, iv r1]⟩, by kernel_rfl, WkV.flat0 (by kernel_rfl) (nl rfl)⟩
 replace hF := of_neg hF hc3
 refine TS.sk (NX.sq (TS.sq ?_))
 obtain ⟨r4, h5, hF⟩ := of_do hF
 refine TS.rg (TI.ra 1 [1, 11] (st 18 [(1, pt 2 0), (11, ag [iv p0, iv p1, sv 0 p2.length ANY])]) (TI.cp 49 [ag [iv p0, iv p1, sv 0 p2.length ANY]] (.map (some 3)) [mb 83 u83 u85 r4] (PureSim.ren (hc := [ab 57 e57 p2]) (fun i => List.getD [(0, 0)] i (0, 0)) (C49 _ _ _ _ h5) (.ac (.nil _)) (.cons (Rn.agg' (.fl (.fl (.cons (Rn.any _ _ _ _ _ _ (nl rfl) rfl rfl (by decide)) .nil)))) .nil) (Rn.map _ (nl rfl)) (newflat_cons (.inr rfl) newflat_nil)) (TI.rn 1 [1, 5] [0, 1, 2, 3] (st 18 [(1, pt 2 0), (5, .map (some 3))]) [ab 57 e57 p2, cl 24 [iv p0, iv p1, sv 0 p2.length ANY], cl 24 [iv p0, iv p1, sv 0 p2.length ANY], mb 83 u83 u85 r4] (TI.dn (NX.sq (TS.sq (TS.sq ?_)))))))
 obtain ⟨r6, h7, hF⟩ := of_do hF
 refine TS.rg (TI.rn 2 [5, 13, 14] [0, 1, 3] (st 18 [(5, .map (some 3)), (13, ag [iv p0, iv p1, sv 0 p2.length ANY]), (14, .map (some 3))]) (H37_0 p2 p0 p1 r4) (TI.cp 54 [ag [iv p0, iv p1, sv 0 p2.length ANY], .map (some 3)] (iv r6) [] (PureSim.ren (hc := [ab 57 e57 p2, mb 83 u83 u85 r4]) (fun i => List.getD [(0, 0), (3, 0)] i (0, 0)) (C54 _ _ _ _ _ h7) (.ac (.cons (At.blk (by kernel_rfl) (RnB.map _ _)) (.nil _))) (.cons (Rn.agg' (.fl (.fl (.cons (Rn.any _ _ _ _ _ _ (nl rfl) rfl rfl (by decide)) .nil)))) (.cons (Rn.map _ (nl rfl)) .nil)) (.flat (by kernel_rfl)) newflat_nil) (TI.ra 1 [5, 16] (st 18 [(5, .map (some 3)), (16, .bool (decide (r6 ≥ 0)))]) (TI.dn (NX.sq ?_)))))
 refine TS.cd (.tmp 16) (decide (r6 ≥ 0)) (fun hc8 => ?_) (fun hc8 => ?_)
 · replace hF := of_pos hF hc8
   refine TS.sq (TS.rg (TI.rn 2 [2, 3] [0, 1] (st 18 [(2, .map none), (3, iv 13)]) (H37_1 p2 p0 p1) (TI.dn (NX.sq (TS.rt (NX.sqR ?_))))))
   refine ⟨.inr rfl, rfl, .tuple ⟨[.map none, iv 13]⟩, .tuple ⟨[.map none, iv 13]⟩, (H37_1 p2 p0 p1), by kernel_rfl, WkV.refl, (TI.rn 0 [1, 2, 12] [0, 1] (st 32 [(1, iv p3), (2, pt 1 0), (12, .tuple ⟨[.map none, iv 13]⟩)]) (H37_1 p2 p0 p1) (TI.ra 5 [1, 2, 6, 7] (st 32 [(1, iv p3), (2, pt 1 0), (6, .map none), (7, iv 13)]) (TI.dn (NX.sq (TS.sq (TS.bk 0 (TS.sq (TS.rg ?_))))))))⟩
   refine TI.ra 3 [1, 2, 6, 7, 15] (st 32 [(1, iv p3), (2, pt 1 0), (6, .map none), (7, iv 13), (15, .bool true)]) (TI.dn (NX.sq (TS.cdT (.tmp 15) (TS.sq (TS.rg (TI.rn 3 [4, 5] [0] (st 32 [(4, iv 0), (5, iv 13)]) (H37_3 p2) (TI.dn (NX.sq ?_))))))))
   refine TS.rt (NX.bkR (NX.sqR ?_))
   have hF := sj hF
   subst hF
   exact ⟨.inr rfl, rfl, .tuple ⟨[iv 0, iv 13]⟩, by kernel_rfl, WkV.flat0 (by kernel_rfl) (nl rfl)⟩
 replace hF := of_neg hF hc8
 refine TS.sk (NX.sq (TS.sq (TS.rg (TI.ra 3 [2, 3] (st 18 [(2, .map (some 3)), (3, iv 0)]) (TI.dn (NX.sq (TS.rt ?_)))))))
 refine ⟨.inr rfl, rfl, .tuple ⟨[.map (some 3), iv 0]⟩, .tuple ⟨[.map (some 3), iv 0]⟩, (H37_0 p2 p0 p1 r4), by kernel_rfl, WkV.refl, (TI.rn 0 [1, 2, 12] [0, 1, 3] (st 32 [(1, iv p3), (2, pt 1 0), (12, .tuple ⟨[.map (some 3), iv 0]⟩)]) (H37_0 p2 p0 p1 r4) (TI.ra 5 [1, 2, 6, 7] (st 32 [(1, iv p3), (2, pt 1 0), (6, .map (some 3)), (7, iv 0)]) (TI.dn (NX.sq (TS.sq (TS.bk 0 (TS.sq (TS.rg ?_))))))))⟩
 refine TI.ra 3 [1, 2, 6, 7, 15] (st 32 [(1, iv p3), (2, pt 1 0), (6, .map (some 3)), (7, iv 0), (15, .bool false)]) (TI.dn (NX.sq (TS.cdF (.tmp 15) (TS.sq ?_))))
 obtain ⟨r9, h10, hF⟩ := of_do hF
 obtain ⟨m11, hm15, hF⟩ := of_do hF
 have hK : NX Try.prog 1 1 [.sq c37.s2.s2.s1.bd.s2.el.s2, .bk 0, .sq c37.s2.s2.s2] (FinP Try.prog Try.f37 1 (V37 1 r) (N37 1 r)) .normal (st 32 [(1, iv p3), (2, pt 1 0), (6, .map (some 3)), (19, .bool m11)]) (H37_0 p2 p0 p1 r4) := by
  refine NX.sq ?_
  cases m11 with
  | true =>
   replace hF := of_pos hF rfl
   refine TS.cdT (.tmp 19) (TS.sq (TS.rg (TI.rn 2 [4, 5] [0] (st 32 [(4, iv 0), (5, iv 1)]) (H37_3 p2) (TI.dn (NX.sq (TS.rt (NX.bkR (NX.sqR ?_))))))))
   have hF := sj hF
   subst hF
   exact ⟨.inr rfl, rfl, .tuple ⟨[iv 0, iv 1]⟩, by kernel_rfl, WkV.flat0 (by kernel_rfl) (nl rfl)⟩
  | false =>
   replace hF := of_neg hF rfl
   refine TS.cdF (.tmp 19) (TS.sk (NX.bk (NX.sq (TS.sq (TS.sq ?_)))))
   obtain ⟨r12, h13, hF⟩ := of_do hF
   refine TS.rg (TI.rn 3 [24, 25, 26] [0, 3] (st 32 [(24, ag [iv p0, iv p1, sv 0 p2.length ANY]), (25, .map (some 3)), (26, iv p3)]) [ab 57 e57 p2, .dead, .dead, mb 83 u83 u85 r4] (TI.cp 59 [ag [iv p0, iv p1, sv 0 p2.length ANY], .map (some 3), iv p3] (.tuple ⟨[iv r12.1, .bool r12.2]⟩) [] (PureSim.ren (hc := [ab 57 e57 p2, mb 83 u83 u85 r4]) (fun i => List.getD [(0, 0), (3, 0)] i (0, 0)) (C59 _ _ _ _ _ _ h13) (.ac (.cons (At.blk (by kernel_rfl) (RnB.map _ _)) (.nil _))) (.cons (Rn.agg' (.fl (.fl (.cons (Rn.any _ _ _ _ _ _ (nl rfl) rfl rfl (by decide)) .nil)))) (.cons (Rn.map _ (nl rfl)) (.fl .nil))) (.flat (by kernel_rfl)) newflat_nil) (TI.rn 5 [8, 9] [0] (st 32 [(8, iv r12.1), (9, .bool r12.2)]) (H37_3 p2) (TI.dn (NX.sq (TS.sq (TS.rg (TI.ra 1 [8, 30] (st 32 [(8, iv r12.1), (30, .bool r12.2)]) ?_))))))))
   refine TI.dn (NX.sq ?_)
   refine TS.cd (.tmp 30) r12.2 (fun hc14 => ?_) (fun hc14 => ?_)
   · replace hF := of_pos hF hc14
     refine TS.sq (TS.rg (TI.ra 3 [4, 5] (st 32 [(4, iv r12.1), (5, iv 0)]) (TI.dn (NX.sq (TS.rt (NX.sqR ?_))))))
     have hF := sj hF
     subst hF
     exact ⟨.inr rfl, rfl, .tuple ⟨[iv r12.1, iv 0]⟩, by kernel_rfl, WkV.flat0 (by kernel_rfl) (nl rfl)⟩
   replace hF := of_neg hF hc14
   refine TS.sk (NX.sq (TS.sq (TS.rg (TI.ra 2 [4, 5] (st 32 [(4, iv 0), (5, iv 14)]) (TI.dn (NX.sq (TS.rt ?_)))))))
   have hF := sj hF
   subst hF
   exact ⟨.inr rfl, rfl, .tuple ⟨[iv 0, iv 14]⟩, by kernel_rfl, WkV.flat0 (by kernel_rfl) (nl rfl)⟩
 cases r9 with
 | true =>
  replace hm15 := of_pos hm15 rfl
  have hm15 := sj hm15
  subst hm15
  exact TS.rg (TI.ra 1 [1, 2, 6, 20] (st 32 [(1, iv p3), (2, pt 1 0), (6, .map (some 3)), (20, iv p3)]) (TI.cf (C51 _ _ _ _ h10) (TI.ra 2 [1, 2, 6, 19] (st 32 [(1, iv p3), (2, pt 1 0), (6, .map (some 3)), (19, .bool false)]) (TI.dn hK))))
 | false =>
  replace hm15 := of_neg hm15 rfl
  have hm15 := sj hm15
  subst hm15
  exact TS.rg (TI.ra 1 [1, 2, 6, 20] (st 32 [(1, iv p3), (2, pt 1 0), (6, .map (some 3)), (20, iv p3)]) (TI.cf (C51 _ _ _ _ h10) (TI.ra 2 [1, 2, 6, 19] (st 32 [(1, iv p3), (2, pt 1 0), (6, .map (some 3)), (19, .bool true)]) (TI.dn hK))))
theorem C37 (p0 p1 : Int) (p2 : List I2) (p3 : Int) (r : I2) (hF : F37 p0 p1 p2 p3 = some r) : PureSim Try.prog 37 [ag [iv p0, iv p1, sv 0 p2.length ANY], iv p3] [ab 57 e57 p2] (V37 1 r) (N37 1 r) :=
 PureSim.of_Fin Try.func37 (c := c37) (by kernel_rfl) (by kernel_rfl) 1 rfl [0, 1] [0] (by kernel_rfl) (B37 p0 p1 p2 p3 r hF)
end
end Go.Proofs.Ytdekbjfjbbdjgaa
