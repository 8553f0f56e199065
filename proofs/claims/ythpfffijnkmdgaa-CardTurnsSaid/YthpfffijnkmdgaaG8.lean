/- What functions of the program compute, and that they do. -/
import Derived.Test.YthpfffijnkmdgaaCR
import Derived.Test.YthpfffijnkmdgaaGiven
set_option linter.unusedVariables false
set_option linter.unusedSimpArgs false
set_option maxRecDepth 100000
set_option maxHeartbeats 4000000
namespace Go.Proofs.Ythpfffijnkmdgaa
open Go Go.Cl
noncomputable section
noncomputable def c8 : Code := Try.f8.code
def S8_0 (r1 : List I2) (p2 v12 : Int) : CAct := (st 92 [(5, accV 1 r1.length), (6, iv (Int.tmod (w64 p2) 3600)), (23, accV 1 r1.length), (24, iv (r1.length : Int)), (25, iv (w64 (v12 + 1)))])
def S8_1 (r1 : List I2) (p2 v12 : Int) : CAct := (st 92 [(5, accV 1 r1.length), (6, iv (Int.tmod (w64 p2) 3600)), (23, accV 1 r1.length), (24, iv (r1.length : Int)), (25, iv v12)])
def H8_2 (p0 r1 : List I2) (r37 : (List I2) × Int) : List Blk := [ab 81 e81 p0, ab 55 e55 r1, ab 29 e29 r37.1]
def H8_3 (p0 r1 : List I2) : List Blk := [ab 81 e81 p0, ab 55 e55 r1]
def F8l0 (p0 : List I2) (p2 : Int) (r1 : List I2) (v12 : Int) : Option (Bool ⊕ Unit) :=
 if decide (v12 < (r1.length : Int)) then
  if (0 : Int) ≤ v12 ∧ v12 < (r1.length : Int) then
   some (List.getD r1 (Int.toNat v12) (0, 0)) >>= fun o26 =>
   some (Int.tmod (w64 ((w64 (o26.1 + o26.2)) - (Int.tmod (w64 p2) 3600))) 3600) >>= fun o28 =>
   if o28 == 0 then
    F15 >>= fun r31 =>
    some (.inl r31)
   else
    F8l0 p0 p2 r1 (w64 (v12 + 1))
  else none
 else
  some (.inr ())
 partial_fixpoint
def F8l1 (p0 r1 : List I2) (r37 : (List I2) × Int) (v53 v54 : Int) : Option (Unit ⊕ Int) :=
 if decide (v54 < (r37.1.length : Int)) then
  if (0 : Int) ≤ v54 ∧ v54 < (r37.1.length : Int) then
   some (List.getD r37.1 (Int.toNat v54) (0, 0)) >>= fun o72 =>
   F40 o72.1 o72.2 3600 >>= fun r74 =>
   if !r74 then
    some (.inl ())
   else
    F41 r1 o72.1 o72.2 >>= fun r77 =>
    if decide (r77.2 < 0) then
     some (.inl ())
    else
     F39 r1 r77.2 >>= fun r80 =>
     (
      if decide ((w64 (r80.2.1 + r80.2.2)) > (w64 (r80.1.1 + r80.1.2))) then
       some (w64 (v53 + 1))
      else
       some (w64 (v53 - 1))
     : Option Int) >>= fun m85 =>
     F8l1 p0 r1 r37 m85 (w64 (v54 + 1))
  else none
 else
  some (.inr v53)
 partial_fixpoint
def F8 (p0 : List I2) (p1 p2 : Int) : Option Bool :=
 F38 p0 p1 >>= fun r1 =>
 F8l0 p0 p2 r1 0 >>= fun r33 =>
 match r33 with
 | .inl o35 =>
  some o35
 | .inr o36 =>
  F24 r1 (Int.tmod (w64 p2) 3600) >>= fun r37 =>
  if r37.2 != 0 then
   some false
  else
   F8l1 p0 r1 r37 0 0 >>= fun r88 =>
   match r88 with
   | .inl o90 =>
    some false
   | .inr o91 =>
    (
     if o91 == 1 then
      F15 >>= fun r93 =>
      some (r93)
     else
      some (false)
    : Option Bool) >>= fun m95 =>
    some m95
def V8 (b : Nat) (r : Bool) : Value := .bool r
def N8 (b : Nat) (r : Bool) : List Blk := []
def P8l0 (p0 : List I2) (p2 : Int) (r1 : List I2) (r : Bool ⊕ Unit) : Post := fun e a h => (match r with | .inl q0 => e = .ret ∧ Wk Try.prog 1 1 a h (st 92 [(4, .bool q0)]) [ab 81 e81 p0] | .inr q0 => e = .exit 0 ∧ Wk Try.prog 1 1 a h (st 92 [(5, accV 1 r1.length), (6, iv (Int.tmod (w64 p2) 3600))]) (H8_3 p0 r1))
theorem L8l0 (p0 : List I2) (p2 : Int) (r1 : List I2) (v12 : Int) (r : Bool ⊕ Unit) (hF : F8l0 p0 p2 r1 v12 = some r) : TL Try.prog 1 1 c8.s2.s2.s2.s1.s2.bd.bd (S8_1 r1 p2 v12) (H8_3 p0 r1) (P8l0 p0 p2 r1 r) := by
 refine F8l0.partial_correctness p0 p2 r1 (motive := fun v12 r => TL Try.prog 1 1 c8.s2.s2.s2.s1.s2.bd.bd (S8_1 r1 p2 v12) (H8_3 p0 r1) (P8l0 p0 p2 r1 r)) ?_ v12 r hF
 clear hF r v12
 intro again ih v12 r hF
 refine TL.round (TS.sq (TS.rg (TI.ra 1 [5, 6, 23, 24, 25, 26] (st 92 [(5, accV 1 r1.length), (6, iv (Int.tmod (w64 p2) 3600)), (23, accV 1 r1.length), (24, iv (r1.length : Int)), (25, iv v12), (26, .bool (decide (v12 < (r1.length : Int))))]) (TI.dn (NX.sq (TS.sq ?_))))))
 refine TS.cd (.tmp 26) (decide (v12 < (r1.length : Int))) (fun hc24 => ?_) (fun hc24 => ?_)
 · replace hF := of_pos hF hc24
   refine TS.sk (NX.sq (TS.sq (TS.bk 1 (TS.sq ?_))))
   obtain ⟨hg25, hF⟩ := of_guard hF
   obtain ⟨o26, h27, hF⟩ := of_do hF
   replace h27 := sj h27
   refine TS.rg (TI.o { val := .pointer (some ⟨1, 0 + (Int.toNat v12) * 2, none⟩) } (q_ixAcc (P := Try.prog) (t := 23) (s := 2) (e := 55) 1 r1.length (by kernel_rfl) hg25 (by kernel_rfl) (by kernel_rfl)) [5, 6, 23, 24, 25, 27] [0, 1] (st 92 [(5, accV 1 r1.length), (6, iv (Int.tmod (w64 p2) 3600)), (23, accV 1 r1.length), (24, iv (r1.length : Int)), (25, iv v12), (27, .pointer (some ⟨1, 0 + (Int.toNat v12) * 2, none⟩))]) (H8_3 p0 r1) (TI.o { val := ag [iv o26.1, iv o26.2] } (q_nAa Try.prog (H8_3 p0 r1) 55 1 (0 + (Int.toNat v12) * 2) r1 e55 2 55 (Int.toNat v12) (0, 0) h27) [5, 6, 23, 24, 25, 28] [0, 1] (st 92 [(5, accV 1 r1.length), (6, iv (Int.tmod (w64 p2) 3600)), (23, accV 1 r1.length), (24, iv (r1.length : Int)), (25, iv v12), (28, ag [iv o26.1, iv o26.2])]) (H8_3 p0 r1) (TI.rn 2 [5, 6, 8, 23, 24, 25] [0, 1, 2] (st 92 [(5, accV 1 r1.length), (6, iv (Int.tmod (w64 p2) 3600)), (8, pt 2 0), (23, accV 1 r1.length), (24, iv (r1.length : Int)), (25, iv v12)]) [ab 81 e81 p0, ab 55 e55 r1, cl 55 [iv o26.1, iv o26.2]] (TI.dn (NX.sq (TS.sq ?_))))))
   obtain ⟨o28, h29, hF⟩ := of_do hF
   replace h29 := sj h29
   refine TS.rg (TI.rn 7 [5, 6, 23, 24, 25, 35] [0, 1] (st 92 [(5, accV 1 r1.length), (6, iv (Int.tmod (w64 p2) 3600)), (23, accV 1 r1.length), (24, iv (r1.length : Int)), (25, iv v12), (35, iv (w64 ((w64 (o26.1 + o26.2)) - (Int.tmod (w64 p2) 3600))))]) [ab 81 e81 p0, ab 55 e55 r1, .dead] (TI.o { val := iv o28 } (q_convI (e := Int.tmod (w64 ((w64 (o26.1 + o26.2)) - (Int.tmod (w64 p2) 3600))) 3600) (y := o28) (by kernel_rfl) h29) [5, 6, 23, 24, 25, 36] [0, 1] (st 92 [(5, accV 1 r1.length), (6, iv (Int.tmod (w64 p2) 3600)), (23, accV 1 r1.length), (24, iv (r1.length : Int)), (25, iv v12), (36, iv o28)]) [ab 81 e81 p0, ab 55 e55 r1, .dead] (TI.ra 1 [5, 6, 23, 24, 25, 37] (st 92 [(5, accV 1 r1.length), (6, iv (Int.tmod (w64 p2) 3600)), (23, accV 1 r1.length), (24, iv (r1.length : Int)), (25, iv v12), (37, .bool (o28 == 0))]) (TI.dn (NX.sq ?_)))))
   refine TS.cd (.tmp 37) (o28 == 0) (fun hc30 => ?_) (fun hc30 => ?_)
   · replace hF := of_pos hF hc30
     refine TS.sq ?_
     obtain ⟨r31, h32, hF⟩ := of_do hF
     refine TS.rg (TI.cf (C15 _ h32) (TI.rn 1 [4] [0] (st 92 [(4, .bool r31)]) [ab 81 e81 p0, .dead, .dead] (TI.dn (NX.sq (TS.rt (NX.bkR (NX.sqR ?_)))))))
     have hF := sj hF
     subst hF
     exact Rd.out (e := .ret) (by intro h; cases h) (And.intro rfl (Wk.an [] (.ac (.nil _)) [.bool r31] (.fl .nil)))
   replace hF := of_neg hF hc30
   refine TS.sk (NX.bk (NX.sq (TS.rg (TI.ra 2 [5, 6, 23, 24, 25] (S8_0 r1 p2 v12) (TI.dn ?_)))))
   exact Rd.again (a2 := (S8_0 r1 p2 v12)) (h2 := (H8_3 p0 r1)) (Wk.an [1] (.ac (.ac (.nil _))) [accV 1 r1.length, iv (Int.tmod (w64 p2) 3600), accV 1 r1.length, iv (r1.length : Int), iv (w64 (v12 + 1))] (.cons (Rn.acc (nl rfl) rfl) (.fl (.cons (Rn.acc (nl rfl) rfl) (.fl (.fl .nil)))))) (ih (w64 (v12 + 1)) _ hF)
 replace hF := of_neg hF hc24
 refine TS.ex 0 (NX.sqX ?_)
 have hF := sj hF
 subst hF
 exact Rd.out (e := .exit 0) (by intro h; cases h) (And.intro rfl (Wk.an [1] (.ac (.ac (.nil _))) [accV 1 r1.length, iv (Int.tmod (w64 p2) 3600)] (.cons (Rn.acc (nl rfl) rfl) (.fl .nil))))
def P8l1 (p0 r1 : List I2) (r37 : (List I2) × Int) (r : Unit ⊕ Int) : Post := fun e a h => (match r with | .inl q0 => e = .ret ∧ Wk Try.prog 1 1 a h (st 92 [(4, .bool false)]) [ab 81 e81 p0] | .inr q0 => e = .exit 2 ∧ Wk Try.prog 1 1 a h (st 92 [(11, iv q0)]) [ab 81 e81 p0])
theorem L8l1 (p0 r1 : List I2) (r37 : (List I2) × Int) (v53 v54 : Int) (r : Unit ⊕ Int) (hF : F8l1 p0 r1 r37 v53 v54 = some r) : TL Try.prog 1 1 c8.s2.s2.s2.s2.s2.s2.s2.s1.s2.bd.bd (st 92 [(5, accV 1 r1.length), (11, iv v53), (48, accV 2 r37.1.length), (49, iv (r37.1.length : Int)), (50, iv v54)]) (H8_2 p0 r1 r37) (P8l1 p0 r1 r37 r) := by
 refine F8l1.partial_correctness p0 r1 r37 (motive := fun v53 v54 r => TL Try.prog 1 1 c8.s2.s2.s2.s2.s2.s2.s2.s1.s2.bd.bd (st 92 [(5, accV 1 r1.length), (11, iv v53), (48, accV 2 r37.1.length), (49, iv (r37.1.length : Int)), (50, iv v54)]) (H8_2 p0 r1 r37) (P8l1 p0 r1 r37 r)) ?_ v53 v54 r hF
 clear hF r v53 v54
 intro again ih v53 v54 r hF
 refine TL.round (TS.sq (TS.rg (TI.ra 1 [5, 11, 48, 49, 50, 51] (st 92 [(5, accV 1 r1.length), (11, iv v53), (48, accV 2 r37.1.length), (49, iv (r37.1.length : Int)), (50, iv v54), (51, .bool (decide (v54 < (r37.1.length : Int))))]) (TI.dn (NX.sq (TS.sq ?_))))))
 refine TS.cd (.tmp 51) (decide (v54 < (r37.1.length : Int))) (fun hc70 => ?_) (fun hc70 => ?_)
 · replace hF := of_pos hF hc70
   refine TS.sk (NX.sq (TS.sq (TS.bk 3 (TS.sq ?_))))
   obtain ⟨hg71, hF⟩ := of_guard hF
   obtain ⟨o72, h73, hF⟩ := of_do hF
   replace h73 := sj h73
   refine TS.rg (TI.o { val := .pointer (some ⟨2, 0 + (Int.toNat v54) * 2, none⟩) } (q_ixAcc (P := Try.prog) (t := 42) (s := 2) (e := 29) 2 r37.1.length (by kernel_rfl) hg71 (by kernel_rfl) (by kernel_rfl)) [5, 11, 48, 49, 50, 52] [0, 1, 2] (st 92 [(5, accV 1 r1.length), (11, iv v53), (48, accV 2 r37.1.length), (49, iv (r37.1.length : Int)), (50, iv v54), (52, .pointer (some ⟨2, 0 + (Int.toNat v54) * 2, none⟩))]) (H8_2 p0 r1 r37) (TI.o { val := ag [iv o72.1, iv o72.2] } (q_nAa Try.prog (H8_2 p0 r1 r37) 29 2 (0 + (Int.toNat v54) * 2) r37.1 e29 2 29 (Int.toNat v54) (0, 0) h73) [5, 11, 48, 49, 50, 53] [0, 1, 2] (st 92 [(5, accV 1 r1.length), (11, iv v53), (48, accV 2 r37.1.length), (49, iv (r37.1.length : Int)), (50, iv v54), (53, ag [iv o72.1, iv o72.2])]) (H8_2 p0 r1 r37) (TI.rn 2 [5, 11, 13, 48, 49, 50] [0, 1, 2, 3] (st 92 [(5, accV 1 r1.length), (11, iv v53), (13, pt 3 0), (48, accV 2 r37.1.length), (49, iv (r37.1.length : Int)), (50, iv v54)]) [ab 81 e81 p0, ab 55 e55 r1, ab 29 e29 r37.1, cl 29 [iv o72.1, iv o72.2]] (TI.dn (NX.sq (TS.sq (TS.sq ?_)))))))
   obtain ⟨r74, h75, hF⟩ := of_do hF
   refine TS.rg (TI.ra 1 [5, 11, 13, 48, 49, 50, 54] (st 92 [(5, accV 1 r1.length), (11, iv v53), (13, pt 3 0), (48, accV 2 r37.1.length), (49, iv (r37.1.length : Int)), (50, iv v54), (54, ag [iv o72.1, iv o72.2])]) (TI.cf (C40 _ _ _ _ h75) (TI.ra 1 [5, 11, 13, 48, 49, 50, 56] (st 92 [(5, accV 1 r1.length), (11, iv v53), (13, pt 3 0), (48, accV 2 r37.1.length), (49, iv (r37.1.length : Int)), (50, iv v54), (56, .bool (!r74))]) (TI.dn (NX.sq ?_)))))
   refine TS.cd (.tmp 56) (!r74) (fun hc76 => ?_) (fun hc76 => ?_)
   · replace hF := of_pos hF hc76
     refine TS.sq (TS.rg (TI.rn 1 [4] [0] (st 92 [(4, .bool false)]) [ab 81 e81 p0, .dead, .dead, .dead] (TI.dn (NX.sq (TS.rt (NX.sqR (NX.bkR (NX.sqR ?_))))))))
     have hF := sj hF
     subst hF
     exact Rd.out (e := .ret) (by intro h; cases h) (And.intro rfl (Wk.an [] (.ac (.nil _)) [.bool false] (.fl .nil)))
   replace hF := of_neg hF hc76
   refine TS.sk (NX.sq (TS.sq ?_))
   obtain ⟨r77, h78, hF⟩ := of_do hF
   refine TS.rg (TI.rn 2 [5, 11, 48, 49, 50, 58, 59] [0, 1, 2] (st 92 [(5, accV 1 r1.length), (11, iv v53), (48, accV 2 r37.1.length), (49, iv (r37.1.length : Int)), (50, iv v54), (58, accV 1 r1.length), (59, ag [iv o72.1, iv o72.2])]) [ab 81 e81 p0, ab 55 e55 r1, ab 29 e29 r37.1, .dead] (TI.cp 41 [accV 1 r1.length, ag [iv o72.1, iv o72.2]] (.tuple ⟨[ag [iv r77.1.1, iv r77.1.2], iv r77.2]⟩) [] (PureSim.ren (hc := [ab 55 e55 r1]) (fun i => List.getD [(1, 0)] i (0, 0)) (C41 _ _ _ _ h78) (.ac (.nil _)) (.cons (Rn.accA (i' := 1) (nl rfl) rfl) (.fl .nil)) (.flat (by kernel_rfl)) newflat_nil) (TI.rn 6 [5, 11, 15, 48, 49, 50] [0, 1, 2] (st 92 [(5, accV 1 r1.length), (11, iv v53), (15, iv r77.2), (48, accV 2 r37.1.length), (49, iv (r37.1.length : Int)), (50, iv v54)]) [ab 81 e81 p0, ab 55 e55 r1, ab 29 e29 r37.1, .dead, .dead] (TI.dn (NX.sq (TS.sq (TS.sq (TS.rg ?_))))))))
   refine TI.ra 2 [5, 11, 15, 48, 49, 50, 64] (st 92 [(5, accV 1 r1.length), (11, iv v53), (15, iv r77.2), (48, accV 2 r37.1.length), (49, iv (r37.1.length : Int)), (50, iv v54), (64, .bool (decide (r77.2 < 0)))]) (TI.dn (NX.sq ?_))
   refine TS.cd (.tmp 64) (decide (r77.2 < 0)) (fun hc79 => ?_) (fun hc79 => ?_)
   · replace hF := of_pos hF hc79
     refine TS.sq (TS.rg (TI.rn 1 [4] [0] (st 92 [(4, .bool false)]) [ab 81 e81 p0, .dead, .dead, .dead, .dead] (TI.dn (NX.sq (TS.rt (NX.sqR (NX.bkR (NX.sqR ?_))))))))
     have hF := sj hF
     subst hF
     exact Rd.out (e := .ret) (by intro h; cases h) (And.intro rfl (Wk.an [] (.ac (.nil _)) [.bool false] (.fl .nil)))
   replace hF := of_neg hF hc79
   refine TS.sk (NX.sq (TS.sq ?_))
   obtain ⟨r80, h81, hF⟩ := of_do hF
   refine TS.rg (TI.ra 2 [5, 11, 48, 49, 50, 66, 67] (st 92 [(5, accV 1 r1.length), (11, iv v53), (48, accV 2 r37.1.length), (49, iv (r37.1.length : Int)), (50, iv v54), (66, accV 1 r1.length), (67, iv r77.2)]) (TI.cp 39 [accV 1 r1.length, iv r77.2] (.tuple ⟨[ag [iv r80.1.1, iv r80.1.2], ag [iv r80.2.1, iv r80.2.2]]⟩) [] (PureSim.ren (hc := [ab 55 e55 r1]) (fun i => List.getD [(1, 0)] i (0, 0)) (C39 _ _ _ h81) (.ac (.nil _)) (.cons (Rn.accA (i' := 1) (nl rfl) rfl) (.fl .nil)) (.flat (by kernel_rfl)) newflat_nil) (TI.rn 7 [5, 11, 16, 17, 48, 49, 50] [0, 1, 2, 5, 6] (st 92 [(5, accV 1 r1.length), (11, iv v53), (16, pt 5 0), (17, pt 6 0), (48, accV 2 r37.1.length), (49, iv (r37.1.length : Int)), (50, iv v54)]) [ab 81 e81 p0, ab 55 e55 r1, ab 29 e29 r37.1, .dead, .dead, cl 55 [iv r80.1.1, iv r80.1.2], cl 55 [iv r80.2.1, iv r80.2.2]] (TI.dn (NX.sq (TS.sq (TS.rg (TI.rn 11 [5, 11, 48, 49, 50, 81] [0, 1, 2] (st 92 [(5, accV 1 r1.length), (11, iv v53), (48, accV 2 r37.1.length), (49, iv (r37.1.length : Int)), (50, iv v54), (81, .bool (decide ((w64 (r80.2.1 + r80.2.2)) > (w64 (r80.1.1 + r80.1.2)))))]) [ab 81 e81 p0, ab 55 e55 r1, ab 29 e29 r37.1, .dead, .dead, .dead, .dead] ?_))))))))
   refine TI.dn (NX.sq ?_)
   obtain ⟨m85, hm86, hF⟩ := of_do hF
   have hK : NX Try.prog 1 1 [.bk 3, .sq c8.s2.s2.s2.s2.s2.s2.s2.s1.s2.bd.bd.s2.s2.s2] (Rd Try.prog 1 1 c8.s2.s2.s2.s2.s2.s2.s2.s1.s2.bd.bd (P8l1 p0 r1 r37 r)) .normal (st 92 [(5, accV 1 r1.length), (11, iv m85), (48, accV 2 r37.1.length), (49, iv (r37.1.length : Int)), (50, iv v54)]) (H8_2 p0 r1 r37) := by
    refine NX.bk (NX.sq (TS.rg (TI.ra 2 [5, 11, 48, 49, 50] (st 92 [(5, accV 1 r1.length), (11, iv m85), (48, accV 2 r37.1.length), (49, iv (r37.1.length : Int)), (50, iv (w64 (v54 + 1)))]) (TI.dn ?_))))
    exact Rd.again (a2 := (st 92 [(5, accV 1 r1.length), (11, iv m85), (48, accV 2 r37.1.length), (49, iv (r37.1.length : Int)), (50, iv (w64 (v54 + 1)))])) (h2 := (H8_2 p0 r1 r37)) (Wk.an [1, 2] (.ac (.ac (.ac (.nil _)))) [accV 1 r1.length, iv m85, accV 2 r37.1.length, iv (r37.1.length : Int), iv (w64 (v54 + 1))] (.cons (Rn.acc (nl rfl) rfl) (.fl (.cons (Rn.acc (nl rfl) rfl) (.fl (.fl .nil)))))) (ih m85 (w64 (v54 + 1)) _ hF)
   clear hF
   have hF := hm86
   clear hm86
   refine TS.start ?_
   refine TS.cd (.tmp 81) (decide ((w64 (r80.2.1 + r80.2.2)) > (w64 (r80.1.1 + r80.1.2)))) (fun hc87 => ?_) (fun hc87 => ?_)
   · replace hF := of_pos hF hc87
     refine TS.rg (TI.ra 3 [5, 11, 48, 49, 50] (st 92 [(5, accV 1 r1.length), (11, iv (w64 (v53 + 1))), (48, accV 2 r37.1.length), (49, iv (r37.1.length : Int)), (50, iv v54)]) (TI.dn ?_))
     have hF := sj hF
     subst hF
     exact TS.weak (by exact (Wk.an [1, 2] (.ac (.ac (.ac (.nil _)))) [accV 1 r1.length, iv (w64 (v53 + 1)), accV 2 r37.1.length, iv (r37.1.length : Int), iv v54] (.cons (Rn.acc (nl rfl) rfl) (.fl (.cons (Rn.acc (nl rfl) rfl) (.fl (.fl .nil))))))) hK
   replace hF := of_neg hF hc87
   refine TS.rg (TI.ra 3 [5, 11, 48, 49, 50] (st 92 [(5, accV 1 r1.length), (11, iv (w64 (v53 - 1))), (48, accV 2 r37.1.length), (49, iv (r37.1.length : Int)), (50, iv v54)]) (TI.dn ?_))
   have hF := sj hF
   subst hF
   exact TS.weak (by exact (Wk.an [1, 2] (.ac (.ac (.ac (.nil _)))) [accV 1 r1.length, iv (w64 (v53 - 1)), accV 2 r37.1.length, iv (r37.1.length : Int), iv v54] (.cons (Rn.acc (nl rfl) rfl) (.fl (.cons (Rn.acc (nl rfl) rfl) (.fl (.fl .nil))))))) hK
 replace hF := of_neg hF hc70
 refine TS.ex 2 (NX.sqX ?_)
 have hF := sj hF
 subst hF
 exact Rd.out (e := .exit 2) (by intro h; cases h) (And.intro rfl (Wk.an [] (.ac (.nil _)) [iv v53] (.fl .nil)))
theorem B8 (p0 : List I2) (p1 p2 : Int) (r : Bool) (hF : F8 p0 p1 p2 = some r) : TS Try.prog 1 1 c8 (st 92 [(0, ag [sv 0 p0.length ANY, .int .u8 p1]), (1, .int .u16 p2)]) [ab 81 e81 p0] (NX Try.prog 1 1 [] (FinP Try.prog Try.f8 1 (V8 1 r) (N8 1 r))) := by
 unfold F8 at hF
 refine TS.sq (TS.rg (TI.rn 2 [1, 2] [0, 1] (st 92 [(1, .int .u16 p2), (2, pt 1 0)]) [ab 81 e81 p0, cl 72 [sv 0 p0.length ANY, .int .u8 p1]] (TI.dn (NX.sq (TS.sq ?_)))))
 obtain ⟨r1, h2, hF⟩ := of_do hF
 refine TS.rg (TI.rn 1 [1, 18] [0] (st 92 [(1, .int .u16 p2), (18, ag [sv 0 p0.length ANY, .int .u8 p1])]) [ab 81 e81 p0, .dead] (TI.cp 38 [ag [sv 0 p0.length ANY, .int .u8 p1]] (accV 2 r1.length) [ab 55 e55 r1] (PureSim.ren (hc := [ab 81 e81 p0]) (fun i => List.getD [(0, 0)] i (0, 0)) (C38 _ _ _ h2) (.ac (.nil _)) (.cons (Rn.agg' (.cons (Rn.any _ _ _ _ _ _ (nl rfl) rfl rfl (by decide)) (.fl .nil))) .nil) (Rn.acc (i' := 2) (nl rfl) rfl) (newflat_cons (accB_flat (fun _ => rfl)) newflat_nil)) (TI.rn 1 [1, 5] [0, 2] (st 92 [(1, .int .u16 p2), (5, accV 2 r1.length)]) [ab 81 e81 p0, .dead, ab 55 e55 r1] (TI.dn (NX.sq (TS.sq (TS.rg (TI.ra 4 [5, 6] (st 92 [(5, accV 2 r1.length), (6, iv (Int.tmod (w64 p2) 3600))]) ?_))))))))
 refine TI.dn (NX.sq (TS.sq (TS.sq (TS.rg (TI.ra 3 [5, 6, 23, 24, 25] (st 92 [(5, accV 2 r1.length), (6, iv (Int.tmod (w64 p2) 3600)), (23, accV 2 r1.length), (24, iv (r1.length : Int)), (25, iv 0)]) (TI.dn (NX.sq (TS.bk 0 ?_))))))))
 obtain ⟨r33, h34, hF⟩ := of_do hF
 refine TS.lp (TL.weak (a2 := (st 92 [(5, accV 1 r1.length), (6, iv (Int.tmod (w64 p2) 3600)), (23, accV 1 r1.length), (24, iv (r1.length : Int)), (25, iv 0)])) (h2 := (H8_3 p0 r1)) (Wk.an [2] (.ac (.ac (.nil _))) [accV 2 r1.length, iv (Int.tmod (w64 p2) 3600), accV 2 r1.length, iv (r1.length : Int), iv 0] (.cons (Rn.acc (nl rfl) rfl) (.fl (.cons (Rn.acc (nl rfl) rfl) (.fl (.fl .nil)))))) (TL.post (L8l0 p0 p2 r1 0 r33 h34) ?_))
 rintro e a1 h1 hp
 rcases r33 with o35 | o36
 · skip
   obtain ⟨rfl, hw⟩ := hp
   refine ⟨(st 92 [(4, .bool o35)]), [ab 81 e81 p0], (NX.bkR (NX.sqR ?_)), hw⟩
   have hF := sj hF
   subst hF
   exact ⟨.inr rfl, rfl, .bool o35, by kernel_rfl, WkV.flat0 (by kernel_rfl) (nl rfl)⟩
 skip
 obtain ⟨rfl, hw⟩ := hp
 refine ⟨(st 92 [(5, accV 1 r1.length), (6, iv (Int.tmod (w64 p2) 3600))]), (H8_3 p0 r1), (NX.bkX (NX.sq (TS.sq ?_))), hw⟩
 obtain ⟨r37, h38, hF⟩ := of_do hF
 refine TS.rg (TI.ra 2 [5, 41, 42] (st 92 [(5, accV 1 r1.length), (41, accV 1 r1.length), (42, iv (Int.tmod (w64 p2) 3600))]) (TI.cp 24 [accV 1 r1.length, iv (Int.tmod (w64 p2) 3600)] (.tuple ⟨[accV 2 r37.1.length, iv r37.2]⟩) [ab 29 e29 r37.1] (PureSim.ren (hc := [ab 55 e55 r1]) (fun i => List.getD [(1, 0)] i (0, 0)) (C24 _ _ _ h38) (.ac (.nil _)) (.cons (Rn.accA (i' := 1) (nl rfl) rfl) (.fl .nil)) (Rn.tuple' (.cons (Rn.acc (i' := 2) (nl rfl) rfl) (.fl .nil))) (newflat_cons (accB_flat (fun _ => rfl)) newflat_nil)) (TI.rn 5 [5, 9, 10] [0, 1, 2] (st 92 [(5, accV 1 r1.length), (9, accV 2 r37.1.length), (10, iv r37.2)]) (H8_2 p0 r1 r37) (TI.dn (NX.sq (TS.sq (TS.sq (TS.rg ?_))))))))
 refine TI.ra 2 [5, 9, 47] (st 92 [(5, accV 1 r1.length), (9, accV 2 r37.1.length), (47, .bool (r37.2 != 0))]) (TI.dn (NX.sq ?_))
 refine TS.cd (.tmp 47) (r37.2 != 0) (fun hc39 => ?_) (fun hc39 => ?_)
 · replace hF := of_pos hF hc39
   refine TS.sq (TS.rg (TI.rn 1 [4] [0] (st 92 [(4, .bool false)]) [ab 81 e81 p0, .dead, .dead] (TI.dn (NX.sq (TS.rt (NX.sqR ?_))))))
   have hF := sj hF
   subst hF
   exact ⟨.inr rfl, rfl, .bool false, by kernel_rfl, WkV.flat0 (by kernel_rfl) (nl rfl)⟩
 replace hF := of_neg hF hc39
 refine TS.sk (NX.sq (TS.sq (TS.rg (TI.ra 1 [5, 9, 11] (st 92 [(5, accV 1 r1.length), (9, accV 2 r37.1.length), (11, iv 0)]) (TI.dn (NX.sq (TS.sq (TS.sq ?_))))))))
 refine TS.rg (TI.ra 3 [5, 11, 48, 49, 50] (st 92 [(5, accV 1 r1.length), (11, iv 0), (48, accV 2 r37.1.length), (49, iv (r37.1.length : Int)), (50, iv 0)]) (TI.dn (NX.sq (TS.bk 2 ?_))))
 obtain ⟨r88, h89, hF⟩ := of_do hF
 refine TS.lp (TL.weak (a2 := (st 92 [(5, accV 1 r1.length), (11, iv 0), (48, accV 2 r37.1.length), (49, iv (r37.1.length : Int)), (50, iv 0)])) (h2 := (H8_2 p0 r1 r37)) (Wk.an [1, 2] (.ac (.ac (.ac (.nil _)))) [accV 1 r1.length, iv 0, accV 2 r37.1.length, iv (r37.1.length : Int), iv 0] (.cons (Rn.acc (nl rfl) rfl) (.fl (.cons (Rn.acc (nl rfl) rfl) (.fl (.fl .nil)))))) (TL.post (L8l1 p0 r1 r37 0 0 r88 h89) ?_))
 rintro e a1 h1 hp
 rcases r88 with o90 | o91
 · skip
   obtain ⟨rfl, hw⟩ := hp
   refine ⟨(st 92 [(4, .bool false)]), [ab 81 e81 p0], (NX.bkR (NX.sqR ?_)), hw⟩
   have hF := sj hF
   subst hF
   exact ⟨.inr rfl, rfl, .bool false, by kernel_rfl, WkV.flat0 (by kernel_rfl) (nl rfl)⟩
 skip
 obtain ⟨rfl, hw⟩ := hp
 refine ⟨(st 92 [(11, iv o91)]), [ab 81 e81 p0], (NX.bkX (NX.sq (TS.sq ?_))), hw⟩
 obtain ⟨m95, hm96, hF⟩ := of_do hF
 have hK : NX Try.prog 1 1 [.sq c8.s2.s2.s2.s2.s2.s2.s2.s2.s2] (FinP Try.prog Try.f8 1 (V8 1 r) (N8 1 r)) .normal (st 92 [(4, .bool m95)]) [ab 81 e81 p0] := by
  refine NX.sq (TS.rt ?_)
  have hF := sj hF
  subst hF
  exact ⟨.inr rfl, rfl, .bool m95, by kernel_rfl, WkV.flat0 (by kernel_rfl) (nl rfl)⟩
 rcases Bool.eq_false_or_eq_true (o91 == 1) with hc92 | hc92
 · replace hm96 := of_pos hm96 hc92
   have hX := of_do hm96
   clear hm96
   obtain ⟨r93, h94, hm96⟩ := hX
   have hm96 := sj hm96
   subst hm96
   exact TS.rg (TI.ra 1 [87] (st 92 [(87, iv o91)]) (TI.o { val := .bool true } (q_conv (e := o91 == 1) (b := true) (by kernel_rfl) hc92) [88] [0] (st 92 [(88, .bool true)]) [ab 81 e81 p0] (TI.ra 1 [89] (st 92 [(89, .bool true)]) (TI.cf (C15 _ h94) (TI.ra 2 [4] (st 92 [(4, .bool r93)]) (TI.dn hK))))))
 replace hm96 := of_neg hm96 hc92
 have hm96 := sj hm96
 subst hm96
 exact TS.rg (TI.ra 1 [87] (st 92 [(87, iv o91)]) (TI.o { val := .bool false } (q_conv (e := o91 == 1) (b := false) (by kernel_rfl) hc92) [88] [0] (st 92 [(88, .bool false)]) [ab 81 e81 p0] (TI.ra 4 [4] (st 92 [(4, .bool false)]) (TI.dn hK))))
theorem C8 (p0 : List I2) (p1 p2 : Int) (r : Bool) (hF : F8 p0 p1 p2 = some r) : PureSim Try.prog 8 [ag [sv 0 p0.length ANY, .int .u8 p1], .int .u16 p2] [ab 81 e81 p0] (V8 1 r) (N8 1 r) :=
 PureSim.of_Fin Try.func8 (c := c8) (by kernel_rfl) (by kernel_rfl) 1 rfl [0, 1] [0] (by kernel_rfl) (B8 p0 p1 p2 r hF)
end
end Go.Proofs.Ythpfffijnkmdgaa
