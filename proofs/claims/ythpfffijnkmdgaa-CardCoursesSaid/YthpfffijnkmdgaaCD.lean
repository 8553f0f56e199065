/- What functions of the program compute, and that they do. -/
import Derived.Test.YthpfffijnkmdgaaTsZ
import Derived.Test.YthpfffijnkmdgaaProg
import Derived.KernelRfl
import Derived.Test.YthpfffijnkmdgaaXS
set_option linter.unusedVariables false
set_option linter.unusedSimpArgs false
set_option maxRecDepth 100000
set_option maxHeartbeats 4000000
namespace Go.Proofs.Ythpfffijnkmdgaa
open Go Go.Cl
noncomputable section
def e55 (x : I2) : List Value := [.int .i64 x.1, .int .i64 x.2]
def e92 (x : Int × I2) : List Value := [.int .i64 x.1, .int .i64 x.2.1, .int .i64 x.2.2]
abbrev lb92 (l : List (Int × I2)) : Blk := .cells 92 (List.flatMap e92 l)
def e3 (x : Int) : List Value := [.int .i64 x]
abbrev lb3 (l : List (Int)) : Blk := .cells 3 (List.flatMap e3 l)
noncomputable def c62 : Code := Try.f62.code
def H62_0 (p0 : List I2) (v6 : List (Int × I2)) : List Blk := [ab 55 e55 p0, ab 92 e92 v6]
def F62l0 (p0 : List I2) (v6 : List (Int × I2)) (v5 : Int) : Option (List (Int × I2)) :=
 if decide (v5 < (p0.length : Int)) then
  if (0 : Int) ≤ v5 ∧ v5 < (p0.length : Int) then
   some (List.getD p0 v5.toNat (0, 0)) >>= fun o16 =>
   if List.length v6 ≤ 1000000000 then
    F62l0 p0 (v6 ++ [(o16.1, (o16.2, o16.2))]) (w64 (v5 + 1))
   else none
  else none
 else
  some v6
 partial_fixpoint
def F62 (p0 : List I2) : Option (List (Int × I2)) :=
 F62l0 p0 ([]) 0 >>= fun r19 =>
 some r19
def V62 (b : Nat) (r : List (Int × I2)) : Value := accV (b + 0) r.length
def N62 (b : Nat) (r : List (Int × I2)) : List Blk := [ab 92 e92 r]
def P62l0 (p0 : List I2) (r : List (Int × I2)) : Post := fun e a h => e = .exit 0 ∧ Wk Pg 1 1 a h (st 25 [(3, accV 1 r.length)]) [ab 55 e55 p0, ab 92 e92 r]
theorem L62l0 (p0 : List I2) (v6 : List (Int × I2)) (v5 : Int) (r : List (Int × I2)) (hF : F62l0 p0 v6 v5 = some r) : TL Pg 1 1 c62.s2.s2.s1.s2.bd.bd (st 25 [(3, accV 1 v6.length), (6, sl 0 p0), (7, iv (p0.length : Int)), (8, iv v5)]) (H62_0 p0 v6) (P62l0 p0 r) := by
 refine F62l0.partial_correctness p0 (motive := fun v6 v5 r => TL Pg 1 1 c62.s2.s2.s1.s2.bd.bd (st 25 [(3, accV 1 v6.length), (6, sl 0 p0), (7, iv (p0.length : Int)), (8, iv v5)]) (H62_0 p0 v6) (P62l0 p0 r)) ?_ v6 v5 r hF
 clear hF r v6 v5
 intro again ih v6 v5 r hF
 refine TL.round (TS.sq (TS.rg (TI.ra 1 [3, 6, 7, 8, 9] (st 25 [(3, accV 1 v6.length), (6, sl 0 p0), (7, iv (p0.length : Int)), (8, iv v5), (9, .bool (decide (v5 < (p0.length : Int))))]) (TI.dq (TS.sq ?_)))))
 refine TS.cd (.tmp 9) (decide (v5 < (p0.length : Int))) (fun hc14 => ?_) (fun hc14 => ?_)
 · replace hF := of_pos hF hc14
   refine TS.sk (NX.sq (TS.sq (TS.bk 1 (TS.sq ?_))))
   obtain ⟨hg15, hF⟩ := of_guard hF
   obtain ⟨o16, h17, hF⟩ := of_do hF
   replace h17 := sj h17
   refine TS.rg (TI.o { val := pt 0 (0 + v5.toNat * 2) } (q_ixS 0 0 (v5.toNat * 2) (by kernel_rfl) hg15) [3, 6, 7, 8, 10] [0, 1] (st 25 [(3, accV 1 v6.length), (6, sl 0 p0), (7, iv (p0.length : Int)), (8, iv v5), (10, pt 0 (0 + v5.toNat * 2))]) (H62_0 p0 v6) (TI.o { val := ag [iv o16.1, iv o16.2] } (q_nAa Pg (H62_0 p0 v6) 55 0 (0 + v5.toNat * 2) p0 e55 2 55 v5.toNat (0, 0) h17) [3, 6, 7, 8, 11] [0, 1] (st 25 [(3, accV 1 v6.length), (6, sl 0 p0), (7, iv (p0.length : Int)), (8, iv v5), (11, ag [iv o16.1, iv o16.2])]) (H62_0 p0 v6) (TI.rn 2 [3, 5, 6, 7, 8] [0, 1, 2] (st 25 [(3, accV 1 v6.length), (5, pt 2 0), (6, sl 0 p0), (7, iv (p0.length : Int)), (8, iv v5)]) [ab 55 e55 p0, ab 92 e92 v6, cl 55 [iv o16.1, iv o16.2]] (TI.dq ?_))))
   obtain ⟨hg18, hF⟩ := of_guard hF
   refine TS.rg (TI.rn 10 [6, 7, 8, 12, 21] [0, 1, 3] (st 25 [(6, sl 0 p0), (7, iv (p0.length : Int)), (8, iv v5), (12, accV 1 v6.length), (21, sv 3 1 1)]) [ab 55 e55 p0, ab 92 e92 v6, .dead, cl 92 [iv o16.1, iv o16.2, iv o16.2]] (TI.acc (l := v6) (b := 1) (ts := #[60, 60]) (e := 92) (bytes := 24) (z := ag [iv 0, iv 0, iv 0]) (y := sv 3 1 1) (ys := [(o16.1, (o16.2, o16.2))]) (xs := List.flatMap e92 ([(o16.1, (o16.2, o16.2))])) (m := 1) (s := 3) (enc := e92) (by kernel_rfl) (by kernel_rfl) (by decide) (by kernel_rfl) (by kernel_rfl) (by kernel_rfl) (by kernel_rfl) (by kernel_rfl) (by kernel_rfl) (by kernel_rfl) (by kernel_rfl) (fun _ => rfl) rfl rfl (by omega) [6, 7, 8, 22] [0, 4] (a2 := (st 25 [(6, sl 0 p0), (7, iv (p0.length : Int)), (8, iv v5), (22, sv 4 (List.length (v6 ++ [(o16.1, (o16.2, o16.2))])) UNK)])) (h2 := [ab 55 e55 p0, .dead, .dead, .dead, lb92 (v6 ++ [(o16.1, (o16.2, o16.2))])]) (by kernel_rfl) (TI.ra 1 [3, 6, 7, 8] (st 25 [(3, sv 4 (List.length (v6 ++ [(o16.1, (o16.2, o16.2))])) UNK), (6, sl 0 p0), (7, iv (p0.length : Int)), (8, iv v5)]) (TI.dn (NX.bk (NX.sq (TS.rg (TI.ra 2 [3, 6, 7, 8] (st 25 [(3, sv 4 (List.length (v6 ++ [(o16.1, (o16.2, o16.2))])) UNK), (6, sl 0 p0), (7, iv (p0.length : Int)), (8, iv (w64 (v5 + 1)))]) ?_))))))))
   refine TI.dn ?_
   exact Rd.again (a2 := (st 25 [(3, accV 1 (List.length (v6 ++ [(o16.1, (o16.2, o16.2))]))), (6, sl 0 p0), (7, iv (p0.length : Int)), (8, iv (w64 (v5 + 1)))])) (h2 := [ab 55 e55 p0, accB 92 (List.length (v6 ++ [(o16.1, (o16.2, o16.2))])) (List.flatMap e92 (v6 ++ [(o16.1, (o16.2, o16.2))]))]) (Wk.an [4] (.ac (.cons (At.accU (by kernel_rfl) rfl (fun _ => rfl)) (.nil _))) [sv 4 (List.length (v6 ++ [(o16.1, (o16.2, o16.2))])) UNK, sl 0 p0, iv (p0.length : Int), iv (w64 (v5 + 1))] (.cons (Rn.accU (nl rfl) rfl (by simp)) (.sl (.fl (.fl .nil))))) (ih (v6 ++ [(o16.1, (o16.2, o16.2))]) (w64 (v5 + 1)) _ hF)
 replace hF := of_neg hF hc14
 refine TS.ex 0 (NX.sqX ?_)
 have hF := sj hF
 subst hF
 exact Rd.out (e := .exit 0) (by intro h; cases h) (And.intro rfl (Wk.an [1] (.ac (.ac (.nil _))) [accV 1 v6.length] (.cons (Rn.acc (nl rfl) rfl) .nil)))
theorem B62 (p0 : List I2) (r : List (Int × I2)) (hF : F62 p0 = some r) : TS Pg 1 1 c62 (st 25 [(0, sl 0 p0)]) [ab 55 e55 p0] (NX Pg 1 1 [] (FinP Pg Try.f62 1 (V62 1 r) (N62 1 r))) := by
 unfold F62 at hF
 refine TS.sq (TS.rg (TI.ra 1 [0] (st 25 [(0, sl 0 p0)]) (TI.dq (TS.sq (TS.rg (TI.ra 1 [0, 3] (st 25 [(0, sl 0 p0), (3, .slice none 0 0)]) (TI.dn ?_)))))))
 refine NX.sq (TS.sq (TS.sq (TS.rg (TI.ra 3 [3, 6, 7, 8] (st 25 [(3, .slice none 0 0), (6, sl 0 p0), (7, iv (p0.length : Int)), (8, iv 0)]) (TI.dq (TS.bk 0 ?_))))))
 obtain ⟨r19, h20, hF⟩ := of_do hF
 refine TS.lp (TL.weak (a2 := (st 25 [(3, accV 1 (List.length ([]))), (6, sl 0 p0), (7, iv (p0.length : Int)), (8, iv 0)])) (h2 := [ab 55 e55 p0, accB 92 (List.length ([])) (List.flatMap e92 ([]))]) (Wk.an [1] (.ac (.cons At.accN (.nil _))) [.slice none 0 0, sl 0 p0, iv (p0.length : Int), iv 0] (.cons (Rn.accN) (.sl (.fl (.fl .nil))))) (TL.post (L62l0 p0 ([]) 0 r19 h20) ?_))
 rintro e a1 h1 hp
 obtain ⟨rfl, hw⟩ := hp
 refine ⟨(st 25 [(3, accV 1 r19.length)]), [ab 55 e55 p0, ab 92 e92 r19], (NX.bkX (NX.sq (TS.sq (TS.rg (TI.ra 2 [2] (st 25 [(2, accV 1 r19.length)]) (TI.dq (TS.rt ?_))))))), hw⟩
 have hF := sj hF
 subst hF
 exact ⟨.inr rfl, rfl, accV 1 r19.length, by kernel_rfl, WkV.made (L := 1) (f := [1]) (by decide) (by decide) rfl (.ac (.nil _)) (Rn.acc (nl rfl) rfl)⟩
theorem C62 (p0 : List I2) (r : List (Int × I2)) (hF : F62 p0 = some r) : PureSim Pg 62 [sl 0 p0] [ab 55 e55 p0] (V62 1 r) (N62 1 r) :=
 PureSim.of_Fin Try.func62 (c := c62) (by kernel_rfl) (by kernel_rfl) 1 rfl [0] [0] (by kernel_rfl) (B62 p0 r hF)
noncomputable def c53 : Code := Try.f53.code
def F53 (p0 : Int) : Option Bool :=
 (
  if decide (p0 ≥ 0) then
   some (decide (p0 < 3600))
  else
   some (false)
 : Option Bool) >>= fun m2 =>
 some m2
def V53 (b : Nat) (r : Bool) : Value := .bool r
def N53 (b : Nat) (r : Bool) : List Blk := []
theorem B53 (p0 : Int) (r : Bool) (hF : F53 p0 = some r) : TS Pg 0 0 c53 (st 9 [(0, iv p0)]) [] (NX Pg 0 0 [] (FinP Pg Try.f53 0 (V53 0 r) (N53 0 r))) := by
 unfold F53 at hF
 refine TS.sq (TS.rg (TI.ra 1 [0] (st 9 [(0, iv p0)]) (TI.dq (TS.sq ?_))))
 obtain ⟨m2, hm3, hF⟩ := of_do hF
 have hK : NX Pg 0 0 [.sq c53.s2.s2] (FinP Pg Try.f53 0 (V53 0 r) (N53 0 r)) .normal (st 9 [(2, .bool m2)]) [] := by
  refine NX.sq (TS.rt ?_)
  have hF := sj hF
  subst hF
  exact ⟨.inr rfl, rfl, .bool m2, by kernel_rfl, WkV.flat0 (by kernel_rfl) (nl rfl)⟩
 rcases Bool.eq_false_or_eq_true (decide (p0 ≥ 0)) with hc1 | hc1
 · replace hm3 := of_pos hm3 hc1
   have hm3 := sj hm3
   subst hm3
   exact TS.rg (TI.ra 1 [0, 3] (st 9 [(0, iv p0), (3, iv p0)]) (TI.o { val := .bool true } (q_conv (e := decide (p0 ≥ 0)) (b := true) (by kernel_rfl) hc1) [0, 4] [] (st 9 [(0, iv p0), (4, .bool true)]) [] (TI.ra 5 [2] (st 9 [(2, .bool (decide (p0 < 3600)))]) (TI.dn hK))))
 replace hm3 := of_neg hm3 hc1
 have hm3 := sj hm3
 subst hm3
 exact TS.rg (TI.ra 1 [0, 3] (st 9 [(0, iv p0), (3, iv p0)]) (TI.o { val := .bool false } (q_conv (e := decide (p0 ≥ 0)) (b := false) (by kernel_rfl) hc1) [0, 4] [] (st 9 [(0, iv p0), (4, .bool false)]) [] (TI.ra 5 [2] (st 9 [(2, .bool false)]) (TI.dn hK))))
theorem C53 (p0 : Int) (r : Bool) (hF : F53 p0 = some r) : PureSim Pg 53 [iv p0] [] (V53 0 r) (N53 0 r) :=
 PureSim.of_Fin Try.func53 (c := c53) (by kernel_rfl) (by kernel_rfl) 0 rfl [0] [] (by kernel_rfl) (B53 p0 r hF)
noncomputable def c90 : Code := Try.f90.code
def S90_0 (p0 p1 p2 : Int) : CAct := (st 36 [(0, iv p0), (1, iv p1), (5, pt 0 0), (11, .bool false), (13, iv p2)])
def S90_1 (p0 p1 : Int) : CAct := (st 36 [(0, iv p0), (1, iv p1), (5, pt 0 0), (10, .bool false)])
def S90_2 (p0 p1 : Int) (r1 : Bool) : CAct := (st 36 [(0, iv p0), (1, iv p1), (5, pt 0 0), (9, .bool r1)])
def F90 (p0 p1 p2 p3 : Int) : Option Int :=
 F53 p0 >>= fun r1 =>
 (
  if !r1 then
   some (true)
  else
   if decide (p2 < (-900)) then
    some (true)
   else
    if decide (p2 > p3) then
     some (true)
    else
     some (decide (p3 > 900))
 : Option Bool) >>= fun m6 =>
 if m6 then
  some 1
 else
  if p0 == p1 then
   some 7
  else
   if decide (p0 < p1) then
    some 5
   else
    some 0
def V90 (b : Nat) (r : Int) : Value := iv r
def N90 (b : Nat) (r : Int) : List Blk := []
theorem B90 (p0 p1 p2 p3 r : Int) (hF : F90 p0 p1 p2 p3 = some r) : TS Pg 0 0 c90 (st 36 [(0, iv p0), (1, iv p1), (2, ag [iv p2, iv p3])]) [] (NX Pg 0 0 [] (FinP Pg Try.f90 0 (V90 0 r) (N90 0 r))) := by
 unfold F90 at hF
 refine TS.sq (TS.rg (TI.rn 2 [0, 1, 5] [0] (st 36 [(0, iv p0), (1, iv p1), (5, pt 0 0)]) [cl 90 [iv p2, iv p3]] (TI.dq (TS.sq (TS.bk 0 (TS.sq ?_))))))
 obtain ⟨r1, h2, hF⟩ := of_do hF
 obtain ⟨m6, hm9, hF⟩ := of_do hF
 have hK : NX Pg 0 0 [.sq c90.s2.s1.bd.s2, .bk 0, .sq c90.s2.s2] (FinP Pg Try.f90 0 (V90 0 r) (N90 0 r)) .normal (st 36 [(0, iv p0), (1, iv p1), (7, .bool m6)]) [.dead] := by
  refine NX.sq ?_
  cases m6 with
  | true =>
   replace hF := of_pos hF rfl
   refine TS.cdT (.tmp 7) (TS.sq (TS.rg (TI.ra 1 [6] (st 36 [(6, iv 1)]) (TI.dq (TS.rt (NX.bkR (NX.sqR ?_)))))))
   have hF := sj hF
   subst hF
   exact ⟨.inr rfl, rfl, iv 1, by kernel_rfl, WkV.flat0 (by kernel_rfl) (nl rfl)⟩
  | false =>
   replace hF := of_neg hF rfl
   refine TS.cdF (.tmp 7) (TS.sq (TS.rg (TI.ra 4 [0, 1, 28] (st 36 [(0, iv p0), (1, iv p1), (28, .bool (p0 == p1))]) (TI.dq ?_))))
   refine TS.cd (.tmp 28) (p0 == p1) (fun hc7 => ?_) (fun hc7 => ?_)
   · replace hF := of_pos hF hc7
     refine TS.sq (TS.rg (TI.ra 1 [6] (st 36 [(6, iv 7)]) (TI.dq (TS.rt (NX.bkR (NX.sqR ?_))))))
     have hF := sj hF
     subst hF
     exact ⟨.inr rfl, rfl, iv 7, by kernel_rfl, WkV.flat0 (by kernel_rfl) (nl rfl)⟩
   replace hF := of_neg hF hc7
   refine TS.sq (TS.rg (TI.ra 4 [32] (st 36 [(32, .bool (decide (p0 < p1)))]) (TI.dq ?_)))
   refine TS.cd (.tmp 32) (decide (p0 < p1)) (fun hc8 => ?_) (fun hc8 => ?_)
   · replace hF := of_pos hF hc8
     refine TS.sq (TS.rg (TI.ra 1 [6] (st 36 [(6, iv 5)]) (TI.dq (TS.rt (NX.bkR (NX.sqR ?_))))))
     have hF := sj hF
     subst hF
     exact ⟨.inr rfl, rfl, iv 5, by kernel_rfl, WkV.flat0 (by kernel_rfl) (nl rfl)⟩
   replace hF := of_neg hF hc8
   refine TS.sk (NX.bk (NX.sq (TS.sq (TS.rg (TI.ra 1 [6] (st 36 [(6, iv 0)]) (TI.dq (TS.rt ?_)))))))
   have hF := sj hF
   subst hF
   exact ⟨.inr rfl, rfl, iv 0, by kernel_rfl, WkV.flat0 (by kernel_rfl) (nl rfl)⟩
 rcases Bool.eq_false_or_eq_true (!r1) with hc3 | hc3
 · replace hm9 := of_pos hm9 hc3
   have hm9 := sj hm9
   subst hm9
   exact TS.rg (TI.ra 1 [0, 1, 5, 8] (st 36 [(0, iv p0), (1, iv p1), (5, pt 0 0), (8, iv p0)]) (TI.cm (PureSim.ak (C53 _ _ h2)) [0, 1, 5, 9] [0] (S90_2 p0 p1 r1) [cl 90 [iv p2, iv p3]] (TI.o { val := .bool true } (q_conv (e := !r1) (b := true) (by kernel_rfl) hc3) [0, 1, 5, 10] [0] (st 36 [(0, iv p0), (1, iv p1), (5, pt 0 0), (10, .bool true)]) [cl 90 [iv p2, iv p3]] (TI.rn 18 [0, 1, 7] [] (st 36 [(0, iv p0), (1, iv p1), (7, .bool true)]) [.dead] (TI.dn hK)))))
 replace hm9 := of_neg hm9 hc3
 rcases Bool.eq_false_or_eq_true (decide (p2 < (-900))) with hc4 | hc4
 · replace hm9 := of_pos hm9 hc4
   have hm9 := sj hm9
   subst hm9
   exact TS.rg (TI.ra 1 [0, 1, 5, 8] (st 36 [(0, iv p0), (1, iv p1), (5, pt 0 0), (8, iv p0)]) (TI.cm (PureSim.ak (C53 _ _ h2)) [0, 1, 5, 9] [0] (S90_2 p0 p1 r1) [cl 90 [iv p2, iv p3]] (TI.o { val := .bool false } (q_conv (e := !r1) (b := false) (by kernel_rfl) hc3) [0, 1, 5, 10] [0] (S90_1 p0 p1) [cl 90 [iv p2, iv p3]] (TI.ra 3 [0, 1, 5, 11, 13] (S90_0 p0 p1 p2) (TI.o { val := .bool true } (q_conv (e := decide (p2 < (-900))) (b := true) (by kernel_rfl) hc4) [0, 1, 5, 11, 14] [0] (st 36 [(0, iv p0), (1, iv p1), (5, pt 0 0), (11, .bool false), (14, .bool true)]) [cl 90 [iv p2, iv p3]] (TI.rn 14 [0, 1, 7] [] (st 36 [(0, iv p0), (1, iv p1), (7, .bool true)]) [.dead] (TI.dn hK)))))))
 replace hm9 := of_neg hm9 hc4
 rcases Bool.eq_false_or_eq_true (decide (p2 > p3)) with hc5 | hc5
 · replace hm9 := of_pos hm9 hc5
   have hm9 := sj hm9
   subst hm9
   refine TS.rg (TI.ra 1 [0, 1, 5, 8] (st 36 [(0, iv p0), (1, iv p1), (5, pt 0 0), (8, iv p0)]) (TI.cm (PureSim.ak (C53 _ _ h2)) [0, 1, 5, 9] [0] (S90_2 p0 p1 r1) [cl 90 [iv p2, iv p3]] (TI.o { val := .bool false } (q_conv (e := !r1) (b := false) (by kernel_rfl) hc3) [0, 1, 5, 10] [0] (S90_1 p0 p1) [cl 90 [iv p2, iv p3]] (TI.ra 3 [0, 1, 5, 11, 13] (S90_0 p0 p1 p2) (TI.o { val := .bool false } (q_conv (e := decide (p2 < (-900))) (b := false) (by kernel_rfl) hc4) [0, 1, 5, 11, 14] [0] (st 36 [(0, iv p0), (1, iv p1), (5, pt 0 0), (11, .bool false), (14, .bool false)]) [cl 90 [iv p2, iv p3]] (TI.ra 6 [0, 1, 5, 16, 18, 20] (st 36 [(0, iv p0), (1, iv p1), (5, pt 0 0), (16, .bool false), (18, iv p2), (20, iv p3)]) (TI.o { val := .bool true } (q_conv (e := decide (p2 > p3)) (b := true) (by kernel_rfl) hc5) [0, 1, 5, 16, 21] [0] (st 36 [(0, iv p0), (1, iv p1), (5, pt 0 0), (16, .bool false), (21, .bool true)]) [cl 90 [iv p2, iv p3]] (TI.rn 7 [0, 1, 7] [] (st 36 [(0, iv p0), (1, iv p1), (7, .bool true)]) [.dead] ?_))))))))
   exact TI.dn hK
 replace hm9 := of_neg hm9 hc5
 have hm9 := sj hm9
 subst hm9
 refine TS.rg (TI.ra 1 [0, 1, 5, 8] (st 36 [(0, iv p0), (1, iv p1), (5, pt 0 0), (8, iv p0)]) (TI.cm (PureSim.ak (C53 _ _ h2)) [0, 1, 5, 9] [0] (S90_2 p0 p1 r1) [cl 90 [iv p2, iv p3]] (TI.o { val := .bool false } (q_conv (e := !r1) (b := false) (by kernel_rfl) hc3) [0, 1, 5, 10] [0] (S90_1 p0 p1) [cl 90 [iv p2, iv p3]] (TI.ra 3 [0, 1, 5, 11, 13] (S90_0 p0 p1 p2) (TI.o { val := .bool false } (q_conv (e := decide (p2 < (-900))) (b := false) (by kernel_rfl) hc4) [0, 1, 5, 11, 14] [0] (st 36 [(0, iv p0), (1, iv p1), (5, pt 0 0), (11, .bool false), (14, .bool false)]) [cl 90 [iv p2, iv p3]] (TI.ra 6 [0, 1, 5, 16, 18, 20] (st 36 [(0, iv p0), (1, iv p1), (5, pt 0 0), (16, .bool false), (18, iv p2), (20, iv p3)]) (TI.o { val := .bool false } (q_conv (e := decide (p2 > p3)) (b := false) (by kernel_rfl) hc5) [0, 1, 5, 16, 21] [0] (st 36 [(0, iv p0), (1, iv p1), (5, pt 0 0), (16, .bool false), (21, .bool false)]) [cl 90 [iv p2, iv p3]] (TI.rn 7 [0, 1, 7] [] (st 36 [(0, iv p0), (1, iv p1), (7, .bool (decide (p3 > 900)))]) [.dead] ?_))))))))
 exact TI.dn hK
theorem C90 (p0 p1 p2 p3 r : Int) (hF : F90 p0 p1 p2 p3 = some r) : PureSim Pg 90 [iv p0, iv p1, ag [iv p2, iv p3]] [] (V90 0 r) (N90 0 r) :=
 PureSim.of_Fin Try.func90 (c := c90) (by kernel_rfl) (by kernel_rfl) 0 rfl [0, 1, 2] [] (by kernel_rfl) (B90 p0 p1 p2 p3 r hF)
noncomputable def c63 : Code := Try.f63.code
def S63_0 (p0 : List (Int × I2)) : CAct := (st 33 [(3, iv (-1)), (15, sl 0 p0), (16, iv (p0.length : Int)), (17, iv 0)])
def F63l0 (p0 : List (Int × I2)) (v10 v11 : Int) : Option (Int ⊕ Unit) :=
 if decide (v11 < (p0.length : Int)) then
  if (0 : Int) ≤ v11 ∧ v11 < (p0.length : Int) then
   some (List.getD p0 v11.toNat (0, (0, 0))) >>= fun o23 =>
   F90 o23.1 v10 o23.2.1 o23.2.2 >>= fun r25 =>
   if r25 != 0 then
    some (.inl r25)
   else
    F63l0 p0 o23.1 (w64 (v11 + 1))
  else none
 else
  some (.inr ())
 partial_fixpoint
def F63 (p0 : List (Int × I2)) : Option Int :=
 if (p0.length : Int) == 0 then
  some 2
 else
  if decide ((p0.length : Int) > 36) then
   some 3
  else
   F63l0 p0 (-1) 0 >>= fun r28 =>
   match r28 with
   | .inl o30 =>
    some o30
   | .inr o31 =>
    some 0
def V63 (b : Nat) (r : Int) : Value := iv r
def N63 (b : Nat) (r : Int) : List Blk := []
def P63l0 (p0 : List (Int × I2)) (r : Int ⊕ Unit) : Post := fun e a h => (match r with | .inl q0 => e = .ret ∧ Wk Pg 1 1 a h (st 33 [(2, iv q0)]) [ab 92 e92 p0] | .inr q0 => e = .exit 1 ∧ Wk Pg 1 1 a h (st 33 []) [ab 92 e92 p0])
theorem L63l0 (p0 : List (Int × I2)) (v10 v11 : Int) (r : Int ⊕ Unit) (hF : F63l0 p0 v10 v11 = some r) : TL Pg 1 1 c63.s2.s2.s2.s1.s2.bd.bd (st 33 [(3, iv v10), (15, sl 0 p0), (16, iv (p0.length : Int)), (17, iv v11)]) [ab 92 e92 p0] (P63l0 p0 r) := by
 refine F63l0.partial_correctness p0 (motive := fun v10 v11 r => TL Pg 1 1 c63.s2.s2.s2.s1.s2.bd.bd (st 33 [(3, iv v10), (15, sl 0 p0), (16, iv (p0.length : Int)), (17, iv v11)]) [ab 92 e92 p0] (P63l0 p0 r)) ?_ v10 v11 r hF
 clear hF r v10 v11
 intro again ih v10 v11 r hF
 refine TL.round (TS.sq (TS.rg (TI.ra 1 [3, 15, 16, 17, 18] (st 33 [(3, iv v10), (15, sl 0 p0), (16, iv (p0.length : Int)), (17, iv v11), (18, .bool (decide (v11 < (p0.length : Int))))]) (TI.dq (TS.sq ?_)))))
 refine TS.cd (.tmp 18) (decide (v11 < (p0.length : Int))) (fun hc21 => ?_) (fun hc21 => ?_)
 · replace hF := of_pos hF hc21
   refine TS.sk (NX.sq (TS.sq (TS.bk 2 (TS.sq ?_))))
   obtain ⟨hg22, hF⟩ := of_guard hF
   obtain ⟨o23, h24, hF⟩ := of_do hF
   replace h24 := sj h24
   refine TS.rg (TI.o { val := pt 0 (0 + v11.toNat * 3) } (q_ixS 0 0 (v11.toNat * 3) (by kernel_rfl) hg22) [3, 15, 16, 17, 19] [0] (st 33 [(3, iv v10), (15, sl 0 p0), (16, iv (p0.length : Int)), (17, iv v11), (19, pt 0 (0 + v11.toNat * 3))]) [ab 92 e92 p0] (TI.o { val := ag [iv o23.1, iv o23.2.1, iv o23.2.2] } (q_nAa Pg [ab 92 e92 p0] 92 0 (0 + v11.toNat * 3) p0 e92 3 92 v11.toNat (0, (0, 0)) h24) [3, 15, 16, 17, 20] [0] (st 33 [(3, iv v10), (15, sl 0 p0), (16, iv (p0.length : Int)), (17, iv v11), (20, ag [iv o23.1, iv o23.2.1, iv o23.2.2])]) [ab 92 e92 p0] (TI.rn 2 [3, 5, 15, 16, 17] [0, 1] (st 33 [(3, iv v10), (5, pt 1 0), (15, sl 0 p0), (16, iv (p0.length : Int)), (17, iv v11)]) [ab 92 e92 p0, cl 92 [iv o23.1, iv o23.2.1, iv o23.2.2]] (TI.dq (TS.sq (TS.sq ?_))))))
   obtain ⟨r25, h26, hF⟩ := of_do hF
   refine TS.rg (TI.ra 5 [5, 15, 16, 17, 22, 23, 25] (st 33 [(5, pt 1 0), (15, sl 0 p0), (16, iv (p0.length : Int)), (17, iv v11), (22, iv o23.1), (23, iv v10), (25, ag [iv o23.2.1, iv o23.2.2])]) (TI.cf (C90 _ _ _ _ _ h26) (TI.ra 1 [5, 6, 15, 16, 17] (st 33 [(5, pt 1 0), (6, iv r25), (15, sl 0 p0), (16, iv (p0.length : Int)), (17, iv v11)]) (TI.dq (TS.sq (TS.rg (TI.ra 2 [5, 6, 15, 16, 17, 28] (st 33 [(5, pt 1 0), (6, iv r25), (15, sl 0 p0), (16, iv (p0.length : Int)), (17, iv v11), (28, .bool (r25 != 0))]) ?_)))))))
   refine TI.dn (NX.sq ?_)
   refine TS.cd (.tmp 28) (r25 != 0) (fun hc27 => ?_) (fun hc27 => ?_)
   · replace hF := of_pos hF hc27
     refine TS.sq (TS.rg (TI.rn 2 [2] [0] (st 33 [(2, iv r25)]) [ab 92 e92 p0, .dead] (TI.dq (TS.rt (NX.sqR (NX.bkR (NX.sqR ?_)))))))
     have hF := sj hF
     subst hF
     exact Rd.out (e := .ret) (by intro h; cases h) (And.intro rfl (Wk.an [] (.ac (.nil _)) [iv r25] (.fl .nil)))
   replace hF := of_neg hF hc27
   refine TS.sk (NX.sq (TS.rg (TI.rn 3 [3, 15, 16, 17] [0] (st 33 [(3, iv o23.1), (15, sl 0 p0), (16, iv (p0.length : Int)), (17, iv v11)]) [ab 92 e92 p0, .dead] (TI.dn (NX.bk (NX.sq (TS.rg (TI.ra 2 [3, 15, 16, 17] (st 33 [(3, iv o23.1), (15, sl 0 p0), (16, iv (p0.length : Int)), (17, iv (w64 (v11 + 1)))]) ?_))))))))
   refine TI.dn ?_
   exact Rd.again (a2 := (st 33 [(3, iv o23.1), (15, sl 0 p0), (16, iv (p0.length : Int)), (17, iv (w64 (v11 + 1)))])) (h2 := [ab 92 e92 p0]) (Wk.an [] (.ac (.nil _)) [iv o23.1, sl 0 p0, iv (p0.length : Int), iv (w64 (v11 + 1))] (.fl (.sl (.fl (.fl .nil))))) (ih o23.1 (w64 (v11 + 1)) _ hF)
 replace hF := of_neg hF hc21
 refine TS.ex 1 (NX.sqX ?_)
 have hF := sj hF
 subst hF
 exact Rd.out (e := .exit 1) (by intro h; cases h) (And.intro rfl (Wk.an [] (.ac (.nil _)) [] .nil))
theorem B63 (p0 : List (Int × I2)) (r : Int) (hF : F63 p0 = some r) : TS Pg 1 1 c63 (st 33 [(0, sl 0 p0)]) [ab 92 e92 p0] (NX Pg 1 1 [] (FinP Pg Try.f63 1 (V63 1 r) (N63 1 r))) := by
 unfold F63 at hF
 refine TS.sq (TS.rg (TI.ra 1 [0] (st 33 [(0, sl 0 p0)]) (TI.dq (TS.sq (TS.bk 0 (TS.sq (TS.rg ?_)))))))
 refine TI.ra 4 [0, 7] (st 33 [(0, sl 0 p0), (7, .bool ((p0.length : Int) == 0))]) (TI.dq ?_)
 refine TS.cd (.tmp 7) ((p0.length : Int) == 0) (fun hc1 => ?_) (fun hc1 => ?_)
 · replace hF := of_pos hF hc1
   refine TS.sq (TS.rg (TI.ra 1 [2] (st 33 [(2, iv 2)]) (TI.dq (TS.rt (NX.bkR (NX.sqR ?_))))))
   have hF := sj hF
   subst hF
   exact ⟨.inr rfl, rfl, iv 2, by kernel_rfl, WkV.flat0 (by kernel_rfl) (nl rfl)⟩
 replace hF := of_neg hF hc1
 refine TS.sq (TS.rg (TI.ra 4 [0, 11] (st 33 [(0, sl 0 p0), (11, .bool (decide ((p0.length : Int) > 36)))]) (TI.dq ?_)))
 refine TS.cd (.tmp 11) (decide ((p0.length : Int) > 36)) (fun hc2 => ?_) (fun hc2 => ?_)
 · replace hF := of_pos hF hc2
   refine TS.sq (TS.rg (TI.ra 1 [2] (st 33 [(2, iv 3)]) (TI.dq (TS.rt (NX.bkR (NX.sqR ?_))))))
   have hF := sj hF
   subst hF
   exact ⟨.inr rfl, rfl, iv 3, by kernel_rfl, WkV.flat0 (by kernel_rfl) (nl rfl)⟩
 replace hF := of_neg hF hc2
 refine TS.sk (NX.bk (NX.sq (TS.sq (TS.rg (TI.ra 1 [0, 3] (st 33 [(0, sl 0 p0), (3, iv (-1))]) (TI.dq (TS.sq ?_)))))))
 refine TS.sq (TS.rg (TI.ra 3 [3, 15, 16, 17] (S63_0 p0) (TI.dq (TS.bk 1 ?_))))
 obtain ⟨r28, h29, hF⟩ := of_do hF
 refine TS.lp (TL.weak (a2 := (S63_0 p0)) (h2 := [ab 92 e92 p0]) (Wk.an [] (.ac (.nil _)) [iv (-1), sl 0 p0, iv (p0.length : Int), iv 0] (.fl (.sl (.fl (.fl .nil))))) (TL.post (L63l0 p0 (-1) 0 r28 h29) ?_))
 rintro e a1 h1 hp
 rcases r28 with o30 | o31
 · skip
   obtain ⟨rfl, hw⟩ := hp
   refine ⟨(st 33 [(2, iv o30)]), [ab 92 e92 p0], (NX.bkR (NX.sqR ?_)), hw⟩
   have hF := sj hF
   subst hF
   exact ⟨.inr rfl, rfl, iv o30, by kernel_rfl, WkV.flat0 (by kernel_rfl) (nl rfl)⟩
 skip
 obtain ⟨rfl, hw⟩ := hp
 refine ⟨(st 33 []), [ab 92 e92 p0], (NX.bkX (NX.sq (TS.sq (TS.rg (TI.ra 1 [2] (st 33 [(2, iv 0)]) (TI.dq (TS.rt ?_))))))), hw⟩
 have hF := sj hF
 subst hF
 exact ⟨.inr rfl, rfl, iv 0, by kernel_rfl, WkV.flat0 (by kernel_rfl) (nl rfl)⟩
theorem C63 (p0 : List (Int × I2)) (r : Int) (hF : F63 p0 = some r) : PureSim Pg 63 [sl 0 p0] [ab 92 e92 p0] (V63 1 r) (N63 1 r) :=
 PureSim.of_Fin Try.func63 (c := c63) (by kernel_rfl) (by kernel_rfl) 1 rfl [0] [0] (by kernel_rfl) (B63 p0 r hF)
noncomputable def c22 : Code := Try.f22.code
def F22 (p0 : List I2) : Option Int :=
 F62 p0 >>= fun r1 =>
 F63 r1 >>= fun r3 =>
 some r3
def V22 (b : Nat) (r : Int) : Value := iv r
def N22 (b : Nat) (r : Int) : List Blk := []
theorem B22 (p0 : List I2) (r : Int) (hF : F22 p0 = some r) : TS Pg 1 1 c22 (st 6 [(0, sl 0 p0)]) [ab 55 e55 p0] (NX Pg 1 1 [] (FinP Pg Try.f22 1 (V22 1 r) (N22 1 r))) := by
 unfold F22 at hF
 refine TS.sq (TS.rg (TI.ra 1 [0] (st 6 [(0, sl 0 p0)]) (TI.dq (TS.sq ?_))))
 obtain ⟨r1, h2, hF⟩ := of_do hF
 obtain ⟨r3, h4, hF⟩ := of_do hF
 refine TS.rg (TI.ra 1 [3] (st 6 [(3, sl 0 p0)]) (TI.callM (g := 62) (args := [sl 0 p0]) (v := accV 1 r1.length) (new := [ab 92 e92 r1]) (by kernel_rfl) (PureSim.ren (hc := [ab 55 e55 p0]) (fun i => List.getD [(0, 0)] i (0, 0)) (C62 _ _ h2) (.ac (.nil _)) (.cons (Rn.any _ _ _ _ _ _ (nl rfl) rfl rfl (by decide)) .nil) (Rn.acc (i' := 1) (nl rfl) rfl) (newflat_cons (accB_flat (fun _ => rfl)) newflat_nil)) [4] [0, 1] (a2 := (st 6 [(4, accV 1 r1.length)])) (h2 := [ab 55 e55 p0, ab 92 e92 r1]) (by kernel_rfl) (TI.cp 63 [accV 1 r1.length] (iv r3) [] (PureSim.ren (hc := [ab 92 e92 r1]) (fun i => List.getD [(1, 0)] i (0, 0)) (C63 _ _ h4) (.ac (.nil _)) (.cons (Rn.accA (i' := 1) (nl rfl) rfl) .nil) (.flat (by kernel_rfl)) newflat_nil) (TI.rn 1 [2] [0] (st 6 [(2, iv r3)]) [ab 55 e55 p0, .dead] (TI.dq (TS.rt ?_))))))
 have hF := sj hF
 subst hF
 exact ⟨.inr rfl, rfl, iv r3, by kernel_rfl, WkV.flat0 (by kernel_rfl) (nl rfl)⟩
theorem C22 (p0 : List I2) (r : Int) (hF : F22 p0 = some r) : PureSim Pg 22 [sl 0 p0] [ab 55 e55 p0] (V22 1 r) (N22 1 r) :=
 PureSim.of_Fin Try.func22 (c := c22) (by kernel_rfl) (by kernel_rfl) 1 rfl [0] [0] (by kernel_rfl) (B22 p0 r hF)
noncomputable def c55 : Code := Try.f55.code
def F55 (p0 : Int) : Option I2 :=
 some (p0, 1)
def V55 (b : Nat) (r : I2) : Value := ag [iv r.1, iv r.2]
def N55 (b : Nat) (r : I2) : List Blk := []
theorem B55 (p0 : Int) (r : I2) (hF : F55 p0 = some r) : TS Pg 0 0 c55 (st 5 [(0, iv p0)]) [] (NX Pg 0 0 [] (FinP Pg Try.f55 0 (V55 0 r) (N55 0 r))) := by
 unfold F55 at hF
 refine TS.sq (TS.rg (TI.rn 1 [0, 2] [0] (st 5 [(0, iv p0), (2, pt 0 0)]) [cl 101 [iv 0, iv 0]] (TI.dq (TS.sq (TS.rg (TI.rn 3 [2] [0] (st 5 [(2, pt 0 0)]) [cl 101 [iv p0, iv 1]] (TI.dn ?_)))))))
 refine NX.sq (TS.rt ?_)
 have hF := sj hF
 subst hF
 exact ⟨.inr rfl, rfl, ag [iv p0, iv 1], by kernel_rfl, WkV.flat0 (by kernel_rfl) (nl rfl)⟩
theorem C55 (p0 : Int) (r : I2) (hF : F55 p0 = some r) : PureSim Pg 55 [iv p0] [] (V55 0 r) (N55 0 r) :=
 PureSim.of_Fin Try.func55 (c := c55) (by kernel_rfl) (by kernel_rfl) 0 rfl [0] [] (by kernel_rfl) (B55 p0 r hF)
noncomputable def c97 : Code := Try.f97.code
def S97_0 (v4 v3 : Int) : CAct := (st 20 [(0, iv v4), (1, iv (Int.tmod v3 v4)), (14, .bool (decide (v4 > 0))), (15, iv v4), (16, iv v3), (17, iv v4), (18, iv (Int.tmod v3 v4))])
def S97_1 (v4 v3 : Int) : CAct := (st 20 [(0, iv v4), (1, iv v4), (14, .bool (decide (v4 > 0))), (15, iv v4), (16, iv v3), (17, iv v4), (18, iv (Int.tmod v3 v4))])
def F97l0  (v3 : Int) (v4 : Int) : Option Int :=
 if decide (v4 > 0) then
  if v4 = 0 then none else
  F97l0  v4 (Int.tmod v3 v4)
 else
  some v3
 partial_fixpoint
def F97 (p0 p1 : Int) : Option Int :=
 F97l0  (mx p0 (w64 (0 - p0))) (mx p1 (w64 (0 - p1))) >>= fun r11 =>
 some r11
def V97 (b : Nat) (r : Int) : Value := iv r
def N97 (b : Nat) (r : Int) : List Blk := []
def P97l0  (r : Int) : Post := fun e a h => e = .exit 0 ∧ Wk Pg 0 0 a h (st 20 [(0, iv r)]) []
theorem L97l0  (v3 : Int) (v4 : Int) (r : Int) (hF : F97l0  v3 v4 = some r) : TL Pg 0 0 c97.s2.s2.s1.bd.bd (st 20 [(0, iv v3), (1, iv v4)]) [] (P97l0  r) := by
 refine F97l0.partial_correctness  (motive := fun v3 v4 r => TL Pg 0 0 c97.s2.s2.s1.bd.bd (st 20 [(0, iv v3), (1, iv v4)]) [] (P97l0  r)) ?_ v3 v4 r hF
 clear hF r v3 v4
 intro again ih v3 v4 r hF
 refine TL.round (TS.sq (TS.sq (TS.rg (TI.ra 2 [0, 1, 14] (st 20 [(0, iv v3), (1, iv v4), (14, .bool (decide (v4 > 0)))]) (TI.dq ?_)))))
 refine TS.cd (.tmp 14) (decide (v4 > 0)) (fun hc9 => ?_) (fun hc9 => ?_)
 · replace hF := of_pos hF hc9
   refine TS.sk (NX.sq (TS.bk 1 ?_))
   obtain ⟨hg10, hF⟩ := of_guardn hF
   refine TS.drawE (id := 3) (b := true) (ops := c97.s2.s2.s1.bd.bd.s2.bd.rops) (fin := (qs (S97_1 v4 v3) [] [] [])) (fin2 := (qs (S97_1 v4 v3) [] [] [])) (a1 := (S97_0 v4 v3)) (h1 := []) [] (fun e he => by cases he) mixed (by kernel_rfl) rfl 5 (by kernel_rfl) [] ?_ rfl (.inl ⟨rfl, rfl⟩) ?_ ?_
   · exact QI.r (qs (st 20 [(0, iv v3), (1, iv v4), (14, .bool (decide (v4 > 0))), (15, iv v4), (16, iv v3), (17, iv v4)]) [] [] []) 3 (QI.o { val := iv (Int.tmod v3 v4) } (qs (st 20 [(0, iv v3), (1, iv v4), (14, .bool (decide (v4 > 0))), (15, iv v4), (16, iv v3), (17, iv v4), (18, iv (Int.tmod v3 v4))]) [] [] []) (q_int (P := Pg) (op := .rem) (ty := 3) (ox := (.tmp 16)) (oy := (.tmp 17)) (k := .i64) (k' := .i64) (y := v3) (z := v4) (by kernel_rfl) (rem_ok hg10)) (QI.r (qs (S97_1 v4 v3) [] [] []) 1 (QI.done (by kernel_rfl))))
   · exact SI.run (a2 := (S97_0 v4 v3)) (h2 := []) 1 (by kernel_rfl) (SI.done (by kernel_rfl))
   refine NX.bk ?_
   exact Rd.again (a2 := (st 20 [(0, iv v4), (1, iv (Int.tmod v3 v4))])) (h2 := []) (Wk.an [] (.nil _) [iv v4, iv (Int.tmod v3 v4)] (.fl (.fl .nil))) (ih v4 (Int.tmod v3 v4) _ hF)
 replace hF := of_neg hF hc9
 refine TS.ex 0 (NX.sqX ?_)
 have hF := sj hF
 subst hF
 exact Rd.out (e := .exit 0) (by intro h; cases h) (And.intro rfl (Wk.an [] (.nil _) [iv v3] (.fl .nil)))
theorem B97 (p0 p1 r : Int) (hF : F97 p0 p1 = some r) : TS Pg 0 0 c97 (st 20 [(0, iv p0), (1, iv p1)]) [] (NX Pg 0 0 [] (FinP Pg Try.f97 0 (V97 0 r) (N97 0 r))) := by
 unfold F97 at hF
 refine TS.sq (TS.rg (TI.ra 1 [0, 1] (st 20 [(0, iv p0), (1, iv p1)]) (TI.dq (TS.sq (TS.rg (TI.ra 10 [0, 1] (st 20 [(0, iv (mx p0 (w64 (0 - p0)))), (1, iv (mx p1 (w64 (0 - p1))))]) (TI.dn ?_)))))))
 refine NX.sq (TS.sq (TS.bk 0 ?_))
 obtain ⟨r11, h12, hF⟩ := of_do hF
 refine TS.lp (TL.weak (a2 := (st 20 [(0, iv (mx p0 (w64 (0 - p0)))), (1, iv (mx p1 (w64 (0 - p1))))])) (h2 := []) (Wk.an [] (.nil _) [iv (mx p0 (w64 (0 - p0))), iv (mx p1 (w64 (0 - p1)))] (.fl (.fl .nil))) (TL.post (L97l0  (mx p0 (w64 (0 - p0))) (mx p1 (w64 (0 - p1))) r11 h12) ?_))
 rintro e a1 h1 hp
 obtain ⟨rfl, hw⟩ := hp
 refine ⟨(st 20 [(0, iv r11)]), [], (NX.bkX (NX.sq (TS.sq (TS.rg (TI.ra 2 [4] (st 20 [(4, iv r11)]) (TI.dq (TS.rt ?_))))))), hw⟩
 have hF := sj hF
 subst hF
 exact ⟨.inr rfl, rfl, iv r11, by kernel_rfl, WkV.flat0 (by kernel_rfl) (nl rfl)⟩
theorem C97 (p0 p1 r : Int) (hF : F97 p0 p1 = some r) : PureSim Pg 97 [iv p0, iv p1] [] (V97 0 r) (N97 0 r) :=
 PureSim.of_Fin Try.func97 (c := c97) (by kernel_rfl) (by kernel_rfl) 0 rfl [0, 1] [] (by kernel_rfl) (B97 p0 p1 r hF)
noncomputable def c89 : Code := Try.f89.code
def F89 (p0 p1 : Int) : Option I2 :=
 (
  if decide (p1 < 0) then
   some (w64 (0 - p0), w64 (0 - p1))
  else
   some (p0, p1)
 : Option I2) >>= fun m6 =>
 F97 m6.1 m6.2 >>= fun r8 =>
 if r8 = 0 then none else
 some (w64 (Int.tdiv m6.1 r8), w64 (Int.tdiv m6.2 r8))
def V89 (b : Nat) (r : I2) : Value := ag [iv r.1, iv r.2]
def N89 (b : Nat) (r : I2) : List Blk := []
theorem B89 (p0 p1 : Int) (r : I2) (hF : F89 p0 p1 = some r) : TS Pg 0 0 c89 (st 28 [(0, ag [iv p0, iv p1])]) [] (NX Pg 0 0 [] (FinP Pg Try.f89 0 (V89 0 r) (N89 0 r))) := by
 unfold F89 at hF
 refine TS.sq (TS.rg (TI.rn 2 [1, 2] [0, 1] (st 28 [(1, pt 0 0), (2, pt 1 0)]) [cl 101 [iv p0, iv p1], cl 101 [iv 0, iv 0]] (TI.dq (TS.sq (TS.sq (TS.rg (TI.ra 3 [1, 2, 6] (st 28 [(1, pt 0 0), (2, pt 1 0), (6, .bool (decide (p1 < 0)))]) ?_)))))))
 refine TI.dn (NX.sq ?_)
 obtain ⟨m6, hm7, hF⟩ := of_do hF
 have hK : NX Pg 0 0 [.sq c89.s2.s2] (FinP Pg Try.f89 0 (V89 0 r) (N89 0 r)) .normal (st 28 [(1, pt 0 0), (2, pt 1 0)]) [cl 101 [iv m6.1, iv m6.2], cl 101 [iv 0, iv 0]] := by
  refine NX.sq (TS.sq ?_)
  obtain ⟨r8, h9, hF⟩ := of_do hF
  refine TS.rg (TI.ra 4 [1, 2, 15, 17] (st 28 [(1, pt 0 0), (2, pt 1 0), (15, iv m6.1), (17, iv m6.2)]) (TI.cf (C97 _ _ _ h9) (TI.ra 1 [1, 2, 3] (st 28 [(1, pt 0 0), (2, pt 1 0), (3, iv r8)]) (TI.dq (TS.sq ?_)))))
  obtain ⟨hg10, hF⟩ := of_guardn hF
  refine TS.dp [] (fun e he => by cases he) mixed 8 [2] [1] (st 28 [(2, pt 1 0)]) [.dead, cl 101 [iv (w64 (Int.tdiv m6.1 r8)), iv (w64 (Int.tdiv m6.2 r8))]] ?_ ?_
  · exact QJ.rn (qs (st 28 [(1, pt 0 0), (2, pt 1 0), (3, iv r8), (19, pt 0 0), (20, iv m6.1), (21, iv r8)]) [cl 101 [iv m6.1, iv m6.2], cl 101 [iv 0, iv 0]] [] []) 3 (QJ.o { val := iv (w64 (Int.tdiv m6.1 r8)) } (q_int (P := Pg) (op := .quo) (ty := 3) (ox := (.tmp 20)) (oy := (.tmp 21)) (k := .i64) (k' := .i64) (y := m6.1) (z := r8) (by kernel_rfl) (quo_ok hg10)) (QJ.rn (qs (st 28 [(1, pt 0 0), (2, pt 1 0), (3, iv r8), (19, pt 0 0), (20, iv m6.1), (21, iv r8), (22, iv (w64 (Int.tdiv m6.1 r8))), (23, pt 0 1), (24, iv m6.2), (25, iv r8)]) [cl 101 [iv m6.1, iv m6.2], cl 101 [iv 0, iv 0]] [] []) 3 (QJ.o { val := iv (w64 (Int.tdiv m6.2 r8)) } (q_int (P := Pg) (op := .quo) (ty := 3) (ox := (.tmp 24)) (oy := (.tmp 25)) (k := .i64) (k' := .i64) (y := m6.2) (z := r8) (by kernel_rfl) (quo_ok hg10)) (QJ.dn ⟨rfl, SJ.la⟩))))
  refine TS.rt ?_
  have hF := sj hF
  subst hF
  exact ⟨.inr rfl, rfl, ag [iv (w64 (Int.tdiv m6.1 r8)), iv (w64 (Int.tdiv m6.2 r8))], by kernel_rfl, WkV.flat0 (by kernel_rfl) (nl rfl)⟩
 clear hF
 have hF := hm7
 clear hm7
 refine TS.start ?_
 refine TS.cd (.tmp 6) (decide (p1 < 0)) (fun hc11 => ?_) (fun hc11 => ?_)
 · replace hF := of_pos hF hc11
   refine TS.rg (TI.rn 8 [1, 2] [0, 1] (st 28 [(1, pt 0 0), (2, pt 1 0)]) [cl 101 [iv (w64 (0 - p0)), iv (w64 (0 - p1))], cl 101 [iv 0, iv 0]] (TI.dn ?_))
   have hF := sj hF
   subst hF
   exact TS.weak (by exact (Wk.an [0, 1] (.lt (.fl (.fl .nil)) (.lt (.fl (.fl .nil)) (.nil _))) [pt 0 0, pt 1 0] (.pp (.pp .nil)))) hK
 replace hF := of_neg hF hc11
 refine TS.sk ?_
 have hF := sj hF
 subst hF
 exact TS.weak (by exact (Wk.an [0, 1] (.lt (.fl (.fl .nil)) (.lt (.fl (.fl .nil)) (.nil _))) [pt 0 0, pt 1 0] (.pp (.pp .nil)))) hK
theorem C89 (p0 p1 : Int) (r : I2) (hF : F89 p0 p1 = some r) : PureSim Pg 89 [ag [iv p0, iv p1]] [] (V89 0 r) (N89 0 r) :=
 PureSim.of_Fin Try.func89 (c := c89) (by kernel_rfl) (by kernel_rfl) 0 rfl [0] [] (by kernel_rfl) (B89 p0 p1 r hF)
noncomputable def c77 : Code := Try.f77.code
def S77_1 (r33 : Int) (p2 : List I2) (v12 v13 : Int) (o31 : I2) (v14 o36 : Int) : CAct := (st 45 [(2, pt 1 0), (4, pt 2 0), (6, pt 3 0), (7, iv r33), (8, sl 0 p2), (9, iv (p2.length : Int)), (10, iv v12), (19, pt 1 0), (20, iv v13), (21, pt 3 1), (22, iv o31.2), (23, iv r33), (24, iv (w64 (Int.tdiv o31.2 r33))), (25, iv (w64 (v13 * (w64 (Int.tdiv o31.2 r33))))), (26, pt 3 0), (27, iv o31.1), (28, pt 1 1), (29, iv v14), (30, iv r33), (31, iv (w64 (Int.tdiv v14 r33))), (32, iv (w64 (o31.1 * (w64 (Int.tdiv v14 r33))))), (33, iv o36), (34, pt 1 1), (35, iv v14), (36, iv r33), (37, iv (w64 (Int.tdiv v14 r33))), (38, pt 3 1), (39, iv o31.2), (40, iv (w64 ((w64 (Int.tdiv v14 r33)) * o31.2)))])
def S77_0 (r33 : Int) (p2 : List I2) (v12 v13 : Int) (o31 : I2) (v14 o36 : Int) (r38 : I2) : CAct := sx (S77_1 r33 p2 v12 v13 o31 v14 o36) [(41, ag [iv o36, iv (w64 ((w64 (Int.tdiv v14 r33)) * o31.2))]), (42, ag [iv r38.1, iv r38.2])]
def S77_2 (p2 : List I2) (v12 : Int) : CAct := (st 45 [(2, pt 1 0), (4, pt 2 0), (8, sl 0 p2), (9, iv (p2.length : Int)), (10, iv (w64 (v12 + 1)))])
def S77_3 (p2 : List I2) (v12 : Int) : CAct := (st 45 [(2, pt 1 0), (4, pt 2 0), (8, sl 0 p2), (9, iv (p2.length : Int)), (10, iv v12)])
def S77_4 (p2 : List I2) : CAct := (st 45 [(2, pt 1 0), (4, pt 2 0), (8, sl 0 p2), (9, iv (p2.length : Int)), (10, iv 0)])
def H77_5 (p2 : List I2) (v13 v14 : Int) (o31 : I2) : List Blk := [ab 101 e101 p2, cl 101 [iv v13, iv v14], cl 101 [iv 0, iv 0], cl 101 [iv o31.1, iv o31.2]]
def H77_6 (p2 : List I2) (v13 v14 : Int) : List Blk := [ab 101 e101 p2, cl 101 [iv v13, iv v14], cl 101 [iv 0, iv 0]]
def F77l0 (p2 : List I2) (v12 v13 v14 : Int) : Option I2 :=
 if decide (v12 < (p2.length : Int)) then
  if (0 : Int) ≤ v12 ∧ v12 < (p2.length : Int) then
   some (List.getD p2 v12.toNat (0, 0)) >>= fun o31 =>
   F97 v14 o31.2 >>= fun r33 =>
   if r33 = 0 then none else
   some (w64 ((w64 (v13 * (w64 (Int.tdiv o31.2 r33)))) + (w64 (o31.1 * (w64 (Int.tdiv v14 r33)))))) >>= fun o36 =>
   F89 o36 (w64 ((w64 (Int.tdiv v14 r33)) * o31.2)) >>= fun r38 =>
   F77l0 p2 (w64 (v12 + 1)) r38.1 r38.2
  else none
 else
  some (v13, v14)
 partial_fixpoint
def F77 (p0 p1 : Int) (p2 : List I2) : Option I2 :=
 F77l0 p2 0 p0 p1 >>= fun r40 =>
 some (r40.1, r40.2)
def V77 (b : Nat) (r : I2) : Value := ag [iv r.1, iv r.2]
def N77 (b : Nat) (r : I2) : List Blk := []
def P77l0 (p2 : List I2) (r : I2) : Post := fun e a h => e = .exit 0 ∧ Wk Pg 1 1 a h (st 45 [(2, pt 1 0), (4, pt 2 0)]) [ab 101 e101 p2, cl 101 [iv r.1, iv r.2], cl 101 [iv 0, iv 0]]
theorem L77l0 (p2 : List I2) (v12 v13 v14 : Int) (r : I2) (hF : F77l0 p2 v12 v13 v14 = some r) : TL Pg 1 1 c77.s2.s1.s2.bd.bd (S77_3 p2 v12) (H77_6 p2 v13 v14) (P77l0 p2 r) := by
 refine F77l0.partial_correctness p2 (motive := fun v12 v13 v14 r => TL Pg 1 1 c77.s2.s1.s2.bd.bd (S77_3 p2 v12) (H77_6 p2 v13 v14) (P77l0 p2 r)) ?_ v12 v13 v14 r hF
 clear hF r v12 v13 v14
 intro again ih v12 v13 v14 r hF
 refine TL.round (TS.sq (TS.rg (TI.ra 1 [2, 4, 8, 9, 10, 11] (st 45 [(2, pt 1 0), (4, pt 2 0), (8, sl 0 p2), (9, iv (p2.length : Int)), (10, iv v12), (11, .bool (decide (v12 < (p2.length : Int))))]) (TI.dq (TS.sq ?_)))))
 refine TS.cd (.tmp 11) (decide (v12 < (p2.length : Int))) (fun hc29 => ?_) (fun hc29 => ?_)
 · replace hF := of_pos hF hc29
   refine TS.sk (NX.sq (TS.sq (TS.bk 1 (TS.sq ?_))))
   obtain ⟨hg30, hF⟩ := of_guard hF
   obtain ⟨o31, h32, hF⟩ := of_do hF
   replace h32 := sj h32
   refine TS.rg (TI.o { val := pt 0 (0 + v12.toNat * 2) } (q_ixS 0 0 (v12.toNat * 2) (by kernel_rfl) hg30) [2, 4, 8, 9, 10, 12] [0, 1, 2] (st 45 [(2, pt 1 0), (4, pt 2 0), (8, sl 0 p2), (9, iv (p2.length : Int)), (10, iv v12), (12, pt 0 (0 + v12.toNat * 2))]) (H77_6 p2 v13 v14) (TI.o { val := ag [iv o31.1, iv o31.2] } (q_nAa Pg (H77_6 p2 v13 v14) 101 0 (0 + v12.toNat * 2) p2 e101 2 101 v12.toNat (0, 0) h32) [2, 4, 8, 9, 10, 13] [0, 1, 2] (st 45 [(2, pt 1 0), (4, pt 2 0), (8, sl 0 p2), (9, iv (p2.length : Int)), (10, iv v12), (13, ag [iv o31.1, iv o31.2])]) (H77_6 p2 v13 v14) (TI.rn 2 [2, 4, 6, 8, 9, 10] [0, 1, 2, 3] (st 45 [(2, pt 1 0), (4, pt 2 0), (6, pt 3 0), (8, sl 0 p2), (9, iv (p2.length : Int)), (10, iv v12)]) (H77_5 p2 v13 v14 o31) (TI.dq (TS.sq ?_)))))
   obtain ⟨r33, h34, hF⟩ := of_do hF
   refine TS.rg (TI.ra 4 [2, 4, 6, 8, 9, 10, 15, 17] (st 45 [(2, pt 1 0), (4, pt 2 0), (6, pt 3 0), (8, sl 0 p2), (9, iv (p2.length : Int)), (10, iv v12), (15, iv v14), (17, iv o31.2)]) (TI.cf (C97 _ _ _ h34) (TI.ra 1 [2, 4, 6, 7, 8, 9, 10] (st 45 [(2, pt 1 0), (4, pt 2 0), (6, pt 3 0), (7, iv r33), (8, sl 0 p2), (9, iv (p2.length : Int)), (10, iv v12)]) (TI.dq ?_))))
   obtain ⟨hg35, hF⟩ := of_guardn hF
   obtain ⟨o36, h37, hF⟩ := of_do hF
   replace h37 := sj h37
   obtain ⟨r38, h39, hF⟩ := of_do hF
   have hT : ∀ e ∈ ([⟨89, [ag [iv o36, iv (w64 ((w64 (Int.tdiv v14 r33)) * o31.2))]], (H77_5 p2 v13 v14 o31), ag [iv r38.1, iv r38.2], []⟩] : List Entry), PureSim Pg e.g e.args e.h e.v e.new := by
    intro e he
    simp only [List.mem_cons, List.not_mem_nil, or_false] at he
    rcases he with rfl
    exact PureSim.ak (C89 _ _ _ h39)
   refine TS.drawE (id := 5) (b := true) (ops := c77.s2.s1.s2.bd.bd.s2.s2.s1.bd.s2.s2.rops) (fin := (qs (S77_1 r33 p2 v12 v13 o31 v14 o36) (H77_5 p2 v13 v14 o31) [] [])) (fin2 := (qs (S77_1 r33 p2 v12 v13 o31 v14 o36) (H77_5 p2 v13 v14 o31) [] [])) (a1 := (S77_0 r33 p2 v12 v13 o31 v14 o36 r38)) (h1 := [ab 101 e101 p2, cl 101 [iv r38.1, iv r38.2], cl 101 [iv 0, iv 0], cl 101 [iv o31.1, iv o31.2]]) [⟨89, [ag [iv o36, iv (w64 ((w64 (Int.tdiv v14 r33)) * o31.2))]], (H77_5 p2 v13 v14 o31), ag [iv r38.1, iv r38.2], []⟩] hT mixed (by kernel_rfl) rfl 22 (by kernel_rfl) [] ?_ rfl (.inl ⟨rfl, rfl⟩) ?_ ?_
   · refine QI.r (qs (st 45 [(2, pt 1 0), (4, pt 2 0), (6, pt 3 0), (7, iv r33), (8, sl 0 p2), (9, iv (p2.length : Int)), (10, iv v12), (19, pt 1 0), (20, iv v13), (21, pt 3 1), (22, iv o31.2), (23, iv r33)]) (H77_5 p2 v13 v14 o31) [] []) 5 (QI.o { val := iv (w64 (Int.tdiv o31.2 r33)) } (qs (st 45 [(2, pt 1 0), (4, pt 2 0), (6, pt 3 0), (7, iv r33), (8, sl 0 p2), (9, iv (p2.length : Int)), (10, iv v12), (19, pt 1 0), (20, iv v13), (21, pt 3 1), (22, iv o31.2), (23, iv r33), (24, iv (w64 (Int.tdiv o31.2 r33)))]) (H77_5 p2 v13 v14 o31) [] []) (q_int (P := Pg) (op := .quo) (ty := 3) (ox := (.tmp 22)) (oy := (.tmp 23)) (k := .i64) (k' := .i64) (y := o31.2) (z := r33) (by kernel_rfl) (quo_ok hg35)) (QI.r (qs (st 45 [(2, pt 1 0), (4, pt 2 0), (6, pt 3 0), (7, iv r33), (8, sl 0 p2), (9, iv (p2.length : Int)), (10, iv v12), (19, pt 1 0), (20, iv v13), (21, pt 3 1), (22, iv o31.2), (23, iv r33), (24, iv (w64 (Int.tdiv o31.2 r33))), (25, iv (w64 (v13 * (w64 (Int.tdiv o31.2 r33))))), (26, pt 3 0), (27, iv o31.1), (28, pt 1 1), (29, iv v14), (30, iv r33)]) (H77_5 p2 v13 v14 o31) [] []) 6 (QI.o { val := iv (w64 (Int.tdiv v14 r33)) } (qs (st 45 [(2, pt 1 0), (4, pt 2 0), (6, pt 3 0), (7, iv r33), (8, sl 0 p2), (9, iv (p2.length : Int)), (10, iv v12), (19, pt 1 0), (20, iv v13), (21, pt 3 1), (22, iv o31.2), (23, iv r33), (24, iv (w64 (Int.tdiv o31.2 r33))), (25, iv (w64 (v13 * (w64 (Int.tdiv o31.2 r33))))), (26, pt 3 0), (27, iv o31.1), (28, pt 1 1), (29, iv v14), (30, iv r33), (31, iv (w64 (Int.tdiv v14 r33)))]) (H77_5 p2 v13 v14 o31) [] []) (q_int (P := Pg) (op := .quo) (ty := 3) (ox := (.tmp 29)) (oy := (.tmp 30)) (k := .i64) (k' := .i64) (y := v14) (z := r33) (by kernel_rfl) (quo_ok hg35)) (QI.r (qs (st 45 [(2, pt 1 0), (4, pt 2 0), (6, pt 3 0), (7, iv r33), (8, sl 0 p2), (9, iv (p2.length : Int)), (10, iv v12), (19, pt 1 0), (20, iv v13), (21, pt 3 1), (22, iv o31.2), (23, iv r33), (24, iv (w64 (Int.tdiv o31.2 r33))), (25, iv (w64 (v13 * (w64 (Int.tdiv o31.2 r33))))), (26, pt 3 0), (27, iv o31.1), (28, pt 1 1), (29, iv v14), (30, iv r33), (31, iv (w64 (Int.tdiv v14 r33))), (32, iv (w64 (o31.1 * (w64 (Int.tdiv v14 r33)))))]) (H77_5 p2 v13 v14 o31) [] []) 1 (QI.o { val := iv o36 } (qs (st 45 [(2, pt 1 0), (4, pt 2 0), (6, pt 3 0), (7, iv r33), (8, sl 0 p2), (9, iv (p2.length : Int)), (10, iv v12), (19, pt 1 0), (20, iv v13), (21, pt 3 1), (22, iv o31.2), (23, iv r33), (24, iv (w64 (Int.tdiv o31.2 r33))), (25, iv (w64 (v13 * (w64 (Int.tdiv o31.2 r33))))), (26, pt 3 0), (27, iv o31.1), (28, pt 1 1), (29, iv v14), (30, iv r33), (31, iv (w64 (Int.tdiv v14 r33))), (32, iv (w64 (o31.1 * (w64 (Int.tdiv v14 r33))))), (33, iv o36)]) (H77_5 p2 v13 v14 o31) [] []) (q_convI (e := w64 ((w64 (v13 * (w64 (Int.tdiv o31.2 r33)))) + (w64 (o31.1 * (w64 (Int.tdiv v14 r33)))))) (y := o36) (by kernel_rfl) h37) (QI.r (qs (st 45 [(2, pt 1 0), (4, pt 2 0), (6, pt 3 0), (7, iv r33), (8, sl 0 p2), (9, iv (p2.length : Int)), (10, iv v12), (19, pt 1 0), (20, iv v13), (21, pt 3 1), (22, iv o31.2), (23, iv r33), (24, iv (w64 (Int.tdiv o31.2 r33))), (25, iv (w64 (v13 * (w64 (Int.tdiv o31.2 r33))))), (26, pt 3 0), (27, iv o31.1), (28, pt 1 1), (29, iv v14), (30, iv r33), (31, iv (w64 (Int.tdiv v14 r33))), (32, iv (w64 (o31.1 * (w64 (Int.tdiv v14 r33))))), (33, iv o36), (34, pt 1 1), (35, iv v14), (36, iv r33)]) (H77_5 p2 v13 v14 o31) [] []) 3 (QI.o { val := iv (w64 (Int.tdiv v14 r33)) } (qs (st 45 [(2, pt 1 0), (4, pt 2 0), (6, pt 3 0), (7, iv r33), (8, sl 0 p2), (9, iv (p2.length : Int)), (10, iv v12), (19, pt 1 0), (20, iv v13), (21, pt 3 1), (22, iv o31.2), (23, iv r33), (24, iv (w64 (Int.tdiv o31.2 r33))), (25, iv (w64 (v13 * (w64 (Int.tdiv o31.2 r33))))), (26, pt 3 0), (27, iv o31.1), (28, pt 1 1), (29, iv v14), (30, iv r33), (31, iv (w64 (Int.tdiv v14 r33))), (32, iv (w64 (o31.1 * (w64 (Int.tdiv v14 r33))))), (33, iv o36), (34, pt 1 1), (35, iv v14), (36, iv r33), (37, iv (w64 (Int.tdiv v14 r33)))]) (H77_5 p2 v13 v14 o31) [] []) (q_int (P := Pg) (op := .quo) (ty := 3) (ox := (.tmp 35)) (oy := (.tmp 36)) (k := .i64) (k' := .i64) (y := v14) (z := r33) (by kernel_rfl) (quo_ok hg35)) (QI.r (qs (S77_1 r33 p2 v12 v13 o31 v14 o36) (H77_5 p2 v13 v14 o31) [] []) 3 ?_))))))))
     exact QI.done (by kernel_rfl)
   · exact SI.run (a2 := (st 45 [(2, pt 1 0), (4, pt 2 0), (6, pt 3 0), (7, iv r33), (8, sl 0 p2), (9, iv (p2.length : Int)), (10, iv v12), (19, pt 1 0), (20, iv v13), (21, pt 3 1), (22, iv o31.2), (23, iv r33), (24, iv (w64 (Int.tdiv o31.2 r33))), (25, iv (w64 (v13 * (w64 (Int.tdiv o31.2 r33))))), (26, pt 3 0), (27, iv o31.1), (28, pt 1 1), (29, iv v14), (30, iv r33), (31, iv (w64 (Int.tdiv v14 r33))), (32, iv (w64 (o31.1 * (w64 (Int.tdiv v14 r33))))), (33, iv o36), (34, pt 1 1), (35, iv v14), (36, iv r33), (37, iv (w64 (Int.tdiv v14 r33))), (38, pt 3 1), (39, iv o31.2), (40, iv (w64 ((w64 (Int.tdiv v14 r33)) * o31.2))), (41, ag [iv o36, iv (w64 ((w64 (Int.tdiv v14 r33)) * o31.2))])])) (h2 := (H77_5 p2 v13 v14 o31)) 1 (by kernel_rfl) (SI.o { val := ag [iv r38.1, iv r38.2], new := [] } (S77_0 r33 p2 v12 v13 o31 v14 o36 r38) (H77_5 p2 v13 v14 o31) (qOf_call (g := 89) (args := [ag [iv o36, iv (w64 ((w64 (Int.tdiv v14 r33)) * o31.2))]]) (by kernel_rfl) lookC_hit) (SI.run (a2 := (S77_0 r33 p2 v12 v13 o31 v14 o36 r38)) (h2 := [ab 101 e101 p2, cl 101 [iv r38.1, iv r38.2], cl 101 [iv 0, iv 0], cl 101 [iv o31.1, iv o31.2]]) 1 (by kernel_rfl) (SI.done (by kernel_rfl))))
   refine NX.bk (NX.sq (TS.rg (TI.rn 2 [2, 4, 8, 9, 10] [0, 1, 2] (S77_2 p2 v12) [ab 101 e101 p2, cl 101 [iv r38.1, iv r38.2], cl 101 [iv 0, iv 0], .dead] (TI.dn ?_))))
   exact Rd.again (a2 := (S77_2 p2 v12)) (h2 := [ab 101 e101 p2, cl 101 [iv r38.1, iv r38.2], cl 101 [iv 0, iv 0]]) (Wk.an [1, 2] (.ac (.lt (.fl (.fl .nil)) (.lt (.fl (.fl .nil)) (.nil _)))) [pt 1 0, pt 2 0, sl 0 p2, iv (p2.length : Int), iv (w64 (v12 + 1))] (.pp (.pp (.sl (.fl (.fl .nil)))))) (ih (w64 (v12 + 1)) r38.1 r38.2 _ hF)
 replace hF := of_neg hF hc29
 refine TS.ex 0 (NX.sqX ?_)
 have hF := sj hF
 subst hF
 exact Rd.out (e := .exit 0) (by intro h; cases h) (And.intro rfl (Wk.an [1, 2] (.ac (.lt (.fl (.fl .nil)) (.lt (.fl (.fl .nil)) (.nil _)))) [pt 1 0, pt 2 0] (.pp (.pp .nil))))
theorem B77 (p0 p1 : Int) (p2 : List I2) (r : I2) (hF : F77 p0 p1 p2 = some r) : TS Pg 1 1 c77 (st 45 [(0, ag [iv p0, iv p1]), (1, sl 0 p2)]) [ab 101 e101 p2] (NX Pg 1 1 [] (FinP Pg Try.f77 1 (V77 1 r) (N77 1 r))) := by
 unfold F77 at hF
 refine TS.sq (TS.rg (TI.rn 2 [1, 2, 4] [0, 1, 2] (st 45 [(1, sl 0 p2), (2, pt 1 0), (4, pt 2 0)]) [ab 101 e101 p2, cl 101 [iv p0, iv p1], cl 101 [iv 0, iv 0]] (TI.dq (TS.sq (TS.sq (TS.rg (TI.ra 3 [2, 4, 8, 9, 10] (S77_4 p2) ?_)))))))
 refine TI.dn (NX.sq (TS.bk 0 ?_))
 obtain ⟨r40, h41, hF⟩ := of_do hF
 refine TS.lp (TL.weak (a2 := (S77_4 p2)) (h2 := [ab 101 e101 p2, cl 101 [iv p0, iv p1], cl 101 [iv 0, iv 0]]) (Wk.an [1, 2] (.ac (.lt (.fl (.fl .nil)) (.lt (.fl (.fl .nil)) (.nil _)))) [pt 1 0, pt 2 0, sl 0 p2, iv (p2.length : Int), iv 0] (.pp (.pp (.sl (.fl (.fl .nil)))))) (TL.post (L77l0 p2 0 p0 p1 r40 h41) ?_))
 rintro e a1 h1 hp
 obtain ⟨rfl, hw⟩ := hp
 refine ⟨(st 45 [(2, pt 1 0), (4, pt 2 0)]), [ab 101 e101 p2, cl 101 [iv r40.1, iv r40.2], cl 101 [iv 0, iv 0]], (NX.bkX (NX.sq (TS.sq (TS.rg (TI.rn 2 [4] [0, 2] (st 45 [(4, pt 2 0)]) [ab 101 e101 p2, .dead, cl 101 [iv r40.1, iv r40.2]] (TI.dq (TS.rt ?_))))))), hw⟩
 have hF := sj hF
 subst hF
 exact ⟨.inr rfl, rfl, ag [iv r40.1, iv r40.2], by kernel_rfl, WkV.flat0 (by kernel_rfl) (nl rfl)⟩
theorem C77 (p0 p1 : Int) (p2 : List I2) (r : I2) (hF : F77 p0 p1 p2 = some r) : PureSim Pg 77 [ag [iv p0, iv p1], sl 0 p2] [ab 101 e101 p2] (V77 1 r) (N77 1 r) :=
 PureSim.of_Fin Try.func77 (c := c77) (by kernel_rfl) (by kernel_rfl) 1 rfl [0, 1] [0] (by kernel_rfl) (B77 p0 p1 p2 r hF)
noncomputable def c54 : Code := Try.f54.code
noncomputable def H54_0 (p0 : List I2) (m15 o101 : I2) (m110 : Int) (o105 r119 r123 : I2) : List Blk := [ab 55 e55 p0, cl 101 [iv m15.1, iv m15.2], cl 101 [iv 0, iv 0], cl 23 [sl 0 p0], .mark, .loop (st 61 [(3, pt 1 0), (4, pt 2 0), (21, .func (.func 98) ⟨[]⟩ ⟨[pt 3 0]⟩)]).tmps [22, 23] c54.s2.s2.s1.s2.bd.ras c54.s2.s2.s1.s2.bd.rbd .busy none, .dead, .dead, cl 55 [iv o101.1, iv o101.2], cl 55 [iv m110, iv o105.2], .dead, cl 101 [iv r119.1, iv r119.2], cl 101 [iv r123.1, iv r123.2]]
noncomputable def H54_1 (p0 : List I2) (m15 o101 : I2) (m110 : Int) (o105 r119 : I2) : List Blk := [ab 55 e55 p0, cl 101 [iv m15.1, iv m15.2], cl 101 [iv 0, iv 0], cl 23 [sl 0 p0], .mark, .loop (st 61 [(3, pt 1 0), (4, pt 2 0), (21, .func (.func 98) ⟨[]⟩ ⟨[pt 3 0]⟩)]).tmps [22, 23] c54.s2.s2.s1.s2.bd.ras c54.s2.s2.s1.s2.bd.rbd .busy none, .dead, .dead, cl 55 [iv o101.1, iv o101.2], cl 55 [iv m110, iv o105.2], .dead, cl 101 [iv r119.1, iv r119.2]]
noncomputable def H54_2 (p0 : List I2) (m15 o101 : I2) (m110 : Int) (o105 r117 : I2) : List Blk := [ab 55 e55 p0, cl 101 [iv m15.1, iv m15.2], cl 101 [iv 0, iv 0], cl 23 [sl 0 p0], .mark, .loop (st 61 [(3, pt 1 0), (4, pt 2 0), (21, .func (.func 98) ⟨[]⟩ ⟨[pt 3 0]⟩)]).tmps [22, 23] c54.s2.s2.s1.s2.bd.ras c54.s2.s2.s1.s2.bd.rbd .busy none, .dead, .dead, cl 55 [iv o101.1, iv o101.2], cl 55 [iv m110, iv o105.2], cl 101 [iv r117.1, iv r117.2]]
noncomputable def H54_3 (p0 : List I2) (m15 o101 : I2) (m110 : Int) (o105 : I2) : List Blk := [ab 55 e55 p0, cl 101 [iv m15.1, iv m15.2], cl 101 [iv 0, iv 0], cl 23 [sl 0 p0], .mark, .loop (st 61 [(3, pt 1 0), (4, pt 2 0), (21, .func (.func 98) ⟨[]⟩ ⟨[pt 3 0]⟩)]).tmps [22, 23] c54.s2.s2.s1.s2.bd.ras c54.s2.s2.s1.s2.bd.rbd .ready none, .dead, .dead, cl 55 [iv o101.1, iv o101.2], cl 55 [iv m110, iv o105.2]]
noncomputable def H54_4 (p0 : List I2) (m15 o101 : I2) (m110 : Int) (o105 : I2) : List Blk := [ab 55 e55 p0, cl 101 [iv m15.1, iv m15.2], cl 101 [iv 0, iv 0], cl 23 [sl 0 p0], .mark, .loop (st 61 [(3, pt 1 0), (4, pt 2 0), (21, .func (.func 98) ⟨[]⟩ ⟨[pt 3 0]⟩)]).tmps [22, 23] c54.s2.s2.s1.s2.bd.ras c54.s2.s2.s1.s2.bd.rbd .busy none, .dead, .dead, cl 55 [iv o101.1, iv o101.2], cl 55 [iv m110, iv o105.2]]
noncomputable def H54_5 (p0 : List I2) (m15 r125 : I2) : List Blk := [ab 55 e55 p0, cl 101 [iv m15.1, iv m15.2], cl 101 [iv r125.1, iv r125.2], cl 23 [sl 0 p0], .mark, .loop (st 61 [(3, pt 1 0), (4, pt 2 0), (21, .func (.func 98) ⟨[]⟩ ⟨[pt 3 0]⟩)]).tmps [22, 23] c54.s2.s2.s1.s2.bd.ras c54.s2.s2.s1.s2.bd.rbd .done (some .ret), .dead, .dead, .dead, .dead, .dead, .dead, .dead]
noncomputable def H54_6 (p0 : List I2) (m15 o101 : I2) : List Blk := [ab 55 e55 p0, cl 101 [iv m15.1, iv m15.2], cl 101 [iv 0, iv 0], cl 23 [sl 0 p0], .mark, .loop (st 61 [(3, pt 1 0), (4, pt 2 0), (21, .func (.func 98) ⟨[]⟩ ⟨[pt 3 0]⟩)]).tmps [22, 23] c54.s2.s2.s1.s2.bd.ras c54.s2.s2.s1.s2.bd.rbd .ready none, cl 55 [iv o101.1, iv o101.2]]
noncomputable def H54_7 (p0 : List I2) (m15 : I2) : List Blk := [ab 55 e55 p0, cl 101 [iv m15.1, iv m15.2], cl 101 [iv 0, iv 0], cl 23 [sl 0 p0], .mark, .loop (st 61 [(3, pt 1 0), (4, pt 2 0), (21, .func (.func 98) ⟨[]⟩ ⟨[pt 3 0]⟩)]).tmps [22, 23] c54.s2.s2.s1.s2.bd.ras c54.s2.s2.s1.s2.bd.rbd .ready none]
def S54_9 (p0 : List I2) (r6 p1 p2 : Int) (r135 : I2) : CAct := (st 61 [(0, sl 0 p0), (3, pt 1 0), (4, pt 2 0), (15, .bool (decide (r6 < 0))), (16, ag [iv p1, iv p2]), (17, ag [iv r135.1, iv r135.2]), (18, sv 3 1 1)])
def S54_8 (p0 : List I2) (r6 p1 p2 : Int) (r135 r137 : I2) : CAct := sx (S54_9 p0 r6 p1 p2 r135) [(19, ag [iv r137.1, iv r137.2])]
def S54_10 (p0 : List I2) (v56 : Int) : CAct := (st 36 [(0, .func (.yield 5) #[] #[]), (1, pt 3 0), (4, pt 6 0), (5, pt 7 0), (6, sl 0 p0), (7, iv (p0.length : Int)), (8, iv v56)])
def S54_11 (p0 : List I2) (v56 : Int) : CAct := (st 36 [(0, .func (.yield 5) #[] #[]), (1, pt 3 0), (6, sl 0 p0), (7, iv (p0.length : Int)), (8, iv (w64 (v56 + 1)))])
def S54_13 (p0 : List I2) (v56 : Int) : CAct := (st 36 [(0, .func (.yield 5) #[] #[]), (1, pt 3 0), (6, sl 0 p0), (7, iv (p0.length : Int)), (8, iv v56)])
def S54_14 (p0 : List I2) : CAct := (st 36 [(0, .func (.yield 5) #[] #[]), (1, pt 3 0), (6, sl 0 p0), (7, iv (p0.length : Int)), (8, iv 0)])
def H54_12 (p0 : List I2) (m15 : I2) : List Blk := [ab 55 e55 p0, cl 101 [iv m15.1, iv m15.2], cl 101 [iv 0, iv 0], cl 23 [sl 0 p0]]
def H54_15 (p0 : List I2) (p1 p2 : Int) (r135 : I2) : List Blk := [ab 55 e55 p0, cl 101 [iv p1, iv p2], cl 101 [iv 0, iv 0], cl 101 [iv r135.1, iv r135.2]]
def H54_16 (p0 : List I2) (p1 p2 : Int) : List Blk := [ab 55 e55 p0, cl 101 [iv p1, iv p2], cl 101 [iv 0, iv 0]]
def S54_17  : CAct := (st 61 [(3, pt 1 0), (4, pt 2 0), (21, .func (.func 98) ⟨[]⟩ ⟨[pt 3 0]⟩)])
noncomputable def c54f88 : Code := Try.f88.code
noncomputable def c54f98 : Code := Try.f98.code
def F54l0 (p0 : List I2) (m15 : I2) (v56 : Int) : Option (I2 ⊕ Unit) :=
 if decide (v56 < (p0.length : Int)) then
  if (0 : Int) ≤ v56 ∧ v56 < (p0.length : Int) then
   some (List.getD p0 v56.toNat (0, 0)) >>= fun o101 =>
   if (p0.length : Int) = 0 then none else
   if (0 : Int) ≤ Int.tmod (w64 (v56 + 1)) (p0.length : Int) ∧ Int.tmod (w64 (v56 + 1)) (p0.length : Int) < (p0.length : Int) then
    some (List.getD p0 (Int.tmod (w64 (v56 + 1)) (p0.length : Int)).toNat (0, 0)) >>= fun o105 =>
    (
     if (w64 (v56 + 1)) == (p0.length : Int) then
      some (w64 (o105.1 + 3600))
     else
      some o105.1
    : Option Int) >>= fun m110 =>
    F55 m110 >>= fun r112 =>
    F87 m15.1 m15.2 r112.1 r112.2 >>= fun r114 =>
    if decide (r114 < 0) then
     F55 (w64 (0 - o101.1)) >>= fun r117 =>
     F77 m15.1 m15.2 ([(r117.1, r117.2)]) >>= fun r119 =>
     F55 o101.2 >>= fun r121 =>
     F89 (w64 (r119.1 * (w64 (o105.2 - o101.2)))) (w64 (r119.2 * (w64 (m110 - o101.1)))) >>= fun r123 =>
     F77 r121.1 r121.2 ([(r123.1, r123.2)]) >>= fun r125 =>
     some (.inl (r125.1, r125.2))
    else
     F54l0 p0 m15 (w64 (v56 + 1))
   else none
  else none
 else
  some (.inr ())
 partial_fixpoint
def F54 (p0 : List I2) (p1 p2 : Int) : Option I2 :=
 if (0 : Int) ≤ 0 ∧ 0 < (p0.length : Int) then
  some (List.getD p0 (Int.toNat 0) (0, 0)) >>= fun o2 =>
  F55 o2.1 >>= fun r4 =>
  F87 p1 p2 r4.1 r4.2 >>= fun r6 =>
  (
   if decide (r6 < 0) then
    F55 3600 >>= fun r135 =>
    F77 p1 p2 ([(r135.1, r135.2)]) >>= fun r137 =>
    some (r137.1, r137.2)
   else
    some (p1, p2)
  : Option I2) >>= fun m15 =>
  F54l0 p0 m15 0 >>= fun r128 =>
  match r128 with
  | .inl o130 =>
   some (o130.1, o130.2)
  | .inr o131 =>
   F55 0 >>= fun r132 =>
   some (r132.1, r132.2)
 else none
def V54 (b : Nat) (r : I2) : Value := ag [iv r.1, iv r.2]
def N54 (b : Nat) (r : I2) : List Blk := []
def P54l0 (p0 : List I2) (m15 : I2) (r : I2 ⊕ Unit) : Post := fun e a h => (match r with | .inl q0 => e = .ret ∧ Wk Pg 1 6 a h (st 36 []) [ab 55 e55 p0, cl 101 [iv m15.1, iv m15.2], cl 101 [iv q0.1, iv q0.2], cl 23 [sl 0 p0], .mark, .loop (S54_17).tmps [22, 23] c54.s2.s2.s1.s2.bd.ras c54.s2.s2.s1.s2.bd.rbd .done (some .ret)] | .inr q0 => e = .exit 0 ∧ Wk Pg 1 6 a h (st 36 []) (H54_7 p0 m15))
theorem L54l0 (p0 : List I2) (m15 : I2) (v56 : Int) (r : I2 ⊕ Unit) (hF : F54l0 p0 m15 v56 = some r) : TL Pg 1 6 c54f98.s2.bd.bd (S54_13 p0 v56) (H54_7 p0 m15) (P54l0 p0 m15 r) := by
 refine F54l0.partial_correctness p0 m15 (motive := fun v56 r => TL Pg 1 6 c54f98.s2.bd.bd (S54_13 p0 v56) (H54_7 p0 m15) (P54l0 p0 m15 r)) ?_ v56 r hF
 clear hF r v56
 intro again ih v56 r hF
 refine TL.round (TS.sq (TS.rg (TI.ra 1 [0, 1, 6, 7, 8, 9] (st 36 [(0, .func (.yield 5) #[] #[]), (1, pt 3 0), (6, sl 0 p0), (7, iv (p0.length : Int)), (8, iv v56), (9, .bool (decide (v56 < (p0.length : Int))))]) (TI.dq (TS.sq ?_)))))
 refine TS.cd (.tmp 9) (decide (v56 < (p0.length : Int))) (fun hc99 => ?_) (fun hc99 => ?_)
 · replace hF := of_pos hF hc99
   refine TS.sk (NX.sq (TS.sq (TS.bk 1 (TS.sq ?_))))
   obtain ⟨hg100, hF⟩ := of_guard hF
   obtain ⟨o101, h102, hF⟩ := of_do hF
   replace h102 := sj h102
   refine TS.rg (TI.ra 1 [0, 1, 6, 7, 8, 10] (st 36 [(0, .func (.yield 5) #[] #[]), (1, pt 3 0), (6, sl 0 p0), (7, iv (p0.length : Int)), (8, iv v56), (10, iv v56)]) (TI.o { val := pt 0 (0 + v56.toNat * 2) } (q_ixS 0 0 (v56.toNat * 2) (by kernel_rfl) hg100) [0, 1, 6, 7, 8, 10, 11] [0, 1, 2, 3, 4, 5] (st 36 [(0, .func (.yield 5) #[] #[]), (1, pt 3 0), (6, sl 0 p0), (7, iv (p0.length : Int)), (8, iv v56), (10, iv v56), (11, pt 0 (0 + v56.toNat * 2))]) (H54_7 p0 m15) (TI.o { val := ag [iv o101.1, iv o101.2] } (q_nAa Pg (H54_7 p0 m15) 55 0 (0 + v56.toNat * 2) p0 e55 2 55 v56.toNat (0, 0) h102) [0, 1, 6, 7, 8, 10, 12] [0, 1, 2, 3, 4, 5] (st 36 [(0, .func (.yield 5) #[] #[]), (1, pt 3 0), (6, sl 0 p0), (7, iv (p0.length : Int)), (8, iv v56), (10, iv v56), (12, ag [iv o101.1, iv o101.2])]) (H54_7 p0 m15) (TI.rn 3 [0, 1, 3, 4, 6, 7, 8] [0, 1, 2, 3, 4, 5, 6] (st 36 [(0, .func (.yield 5) #[] #[]), (1, pt 3 0), (3, iv v56), (4, pt 6 0), (6, sl 0 p0), (7, iv (p0.length : Int)), (8, iv v56)]) (H54_6 p0 m15 o101) (TI.dq (TS.sq ?_))))))
   obtain ⟨hg103, hF⟩ := of_guardn hF
   obtain ⟨hg104, hF⟩ := of_guard hF
   obtain ⟨o105, h106, hF⟩ := of_do hF
   replace h106 := sj h106
   refine TS.dp [] (fun e he => by cases he) mixed 9 [0, 1, 3, 4, 5, 6, 7, 8] [0, 1, 2, 3, 4, 5, 6, 7] (st 36 [(0, .func (.yield 5) #[] #[]), (1, pt 3 0), (3, iv v56), (4, pt 6 0), (5, pt 7 0), (6, sl 0 p0), (7, iv (p0.length : Int)), (8, iv v56)]) [ab 55 e55 p0, cl 101 [iv m15.1, iv m15.2], cl 101 [iv 0, iv 0], cl 23 [sl 0 p0], .mark, .loop (S54_17).tmps [22, 23] c54.s2.s2.s1.s2.bd.ras c54.s2.s2.s1.s2.bd.rbd .ready none, cl 55 [iv o101.1, iv o101.2], cl 55 [iv o105.1, iv o105.2]] ?_ ?_
   · exact QJ.rn (qs (st 36 [(0, .func (.yield 5) #[] #[]), (1, pt 3 0), (3, iv v56), (4, pt 6 0), (6, sl 0 p0), (7, iv (p0.length : Int)), (8, iv v56), (13, sl 0 p0), (14, iv v56), (15, iv (w64 (v56 + 1))), (16, sl 0 p0), (17, iv (p0.length : Int))]) (H54_6 p0 m15 o101) [] []) 5 (QJ.o { val := iv (Int.tmod (w64 (v56 + 1)) (p0.length : Int)) } (q_int (P := Pg) (op := .rem) (ty := 3) (ox := (.tmp 15)) (oy := (.tmp 17)) (k := .i64) (k' := .i64) (y := w64 (v56 + 1)) (z := (p0.length : Int)) (by kernel_rfl) (rem_ok hg103)) (QJ.o { val := pt 0 (0 + (Int.tmod (w64 (v56 + 1)) (p0.length : Int)).toNat * 2) } (q_ixS 0 0 ((Int.tmod (w64 (v56 + 1)) (p0.length : Int)).toNat * 2) (by kernel_rfl) hg104) (QJ.o { val := ag [iv o105.1, iv o105.2] } (q_nAa Pg (H54_6 p0 m15 o101) 55 0 (0 + (Int.tmod (w64 (v56 + 1)) (p0.length : Int)).toNat * 2) p0 e55 2 55 (Int.tmod (w64 (v56 + 1)) (p0.length : Int)).toNat (0, 0) h106) (QJ.rn (qs (st 36 [(0, .func (.yield 5) #[] #[]), (1, pt 3 0), (3, iv v56), (4, pt 6 0), (5, pt 7 0), (6, sl 0 p0), (7, iv (p0.length : Int)), (8, iv v56), (13, sl 0 p0), (14, iv v56), (15, iv (w64 (v56 + 1))), (16, sl 0 p0), (17, iv (p0.length : Int)), (18, iv (Int.tmod (w64 (v56 + 1)) (p0.length : Int))), (19, pt 0 (0 + (Int.tmod (w64 (v56 + 1)) (p0.length : Int)).toNat * 2)), (20, ag [iv o105.1, iv o105.2])]) [ab 55 e55 p0, cl 101 [iv m15.1, iv m15.2], cl 101 [iv 0, iv 0], cl 23 [sl 0 p0], .mark, .loop (S54_17).tmps [22, 23] c54.s2.s2.s1.s2.bd.ras c54.s2.s2.s1.s2.bd.rbd .ready none, cl 55 [iv o101.1, iv o101.2], cl 55 [iv 0, iv 0]] [(8, 7, 8)] []) 1 (QJ.dn ⟨rfl, SJ.la⟩)))))
   refine TS.sq (TS.sq (TS.rg (TI.ra 5 [0, 1, 4, 5, 6, 7, 8, 25] (st 36 [(0, .func (.yield 5) #[] #[]), (1, pt 3 0), (4, pt 6 0), (5, pt 7 0), (6, sl 0 p0), (7, iv (p0.length : Int)), (8, iv v56), (25, .bool ((w64 (v56 + 1)) == (p0.length : Int)))]) (TI.dq ?_))))
   obtain ⟨m110, hm111, hF⟩ := of_do hF
   have hK : NX Pg 1 6 [.sq c54f98.s2.bd.bd.s2.s2.s1.bd.s2.s2.s2, .bk 1, .sq c54f98.s2.bd.bd.s2.s2.s2] (Rd Pg 1 6 c54f98.s2.bd.bd (P54l0 p0 m15 r)) .normal (S54_10 p0 v56) [ab 55 e55 p0, cl 101 [iv m15.1, iv m15.2], cl 101 [iv 0, iv 0], cl 23 [sl 0 p0], .mark, .loop (S54_17).tmps [22, 23] c54.s2.s2.s1.s2.bd.ras c54.s2.s2.s1.s2.bd.rbd .ready none, cl 55 [iv o101.1, iv o101.2], cl 55 [iv m110, iv o105.2]] := by
    refine NX.sq (TS.sq (TS.rg (TI.rn 3 [0, 1, 6, 7, 8, 30, 31, 32] [0, 1, 2, 3, 4, 5] (st 36 [(0, .func (.yield 5) #[] #[]), (1, pt 3 0), (6, sl 0 p0), (7, iv (p0.length : Int)), (8, iv v56), (30, .func (.yield 5) #[] #[]), (31, ag [iv o101.1, iv o101.2]), (32, ag [iv m110, iv o105.2])]) [ab 55 e55 p0, cl 101 [iv m15.1, iv m15.2], cl 101 [iv 0, iv 0], cl 23 [sl 0 p0], .mark, .loop (S54_17).tmps [22, 23] c54.s2.s2.s1.s2.bd.ras c54.s2.s2.s1.s2.bd.rbd .ready none, .dead, .dead] (TI.yield (l := 5) (n := 8) (args := [ag [iv o101.1, iv o101.2], ag [iv m110, iv o105.2]]) (t := (S54_17).tmps) (p := [22, 23]) («as» := c54.s2.s2.s1.s2.bd.ras) (bd := c54.s2.s2.s1.s2.bd.rbd) (a2 := (st 61 [(3, pt 1 0), (4, pt 2 0), (21, .func (.func 98) ⟨[]⟩ ⟨[pt 3 0]⟩), (22, ag [iv o101.1, iv o101.2]), (23, ag [iv m110, iv o105.2])])) (by kernel_rfl) (by kernel_rfl) (by decide) rfl (by kernel_rfl) (by kernel_rfl) (TS.sq (TS.rg (TI.rn 2 [3, 4, 5, 23] [0, 1, 2, 3, 4, 5, 8] (st 61 [(3, pt 1 0), (4, pt 2 0), (5, pt 8 0), (23, ag [iv m110, iv o105.2])]) [ab 55 e55 p0, cl 101 [iv m15.1, iv m15.2], cl 101 [iv 0, iv 0], cl 23 [sl 0 p0], .mark, .loop (S54_17).tmps [22, 23] c54.s2.s2.s1.s2.bd.ras c54.s2.s2.s1.s2.bd.rbd .ready none, .dead, .dead, cl 55 [iv o101.1, iv o101.2]] (TI.dn ?_))))))))
    refine NX.sq (TS.rg (TI.rn 2 [3, 4, 5, 6] [0, 1, 2, 3, 4, 5, 8, 9] (st 61 [(3, pt 1 0), (4, pt 2 0), (5, pt 8 0), (6, pt 9 0)]) (H54_3 p0 m15 o101 m110 o105) (TI.dn ?_)))
    refine ⟨rfl, (S54_17).tmps, [22, 23], c54.s2.s2.s1.s2.bd.ras, c54.s2.s2.s1.s2.bd.rbd, by kernel_rfl, (TS.bk 1 (TS.sq ?_))⟩
    obtain ⟨r112, h113, hF⟩ := of_do hF
    obtain ⟨r114, h115, hF⟩ := of_do hF
    have hT : ∀ e ∈ ([⟨55, [iv m110], (H54_4 p0 m15 o101 m110 o105), ag [iv r112.1, iv r112.2], []⟩, ⟨87, [ag [iv m15.1, iv m15.2], ag [iv r112.1, iv r112.2]], (H54_4 p0 m15 o101 m110 o105), iv r114, []⟩] : List Entry), PureSim Pg e.g e.args e.h e.v e.new := by
     intro e he
     simp only [List.mem_cons, List.not_mem_nil, or_false] at he
     rcases he with rfl | rfl
     · exact PureSim.ak (C55 _ _ h113)
     exact PureSim.ak (C87 _ _ _ _ _ h115)
    refine TS.dp [⟨55, [iv m110], (H54_4 p0 m15 o101 m110 o105), ag [iv r112.1, iv r112.2], []⟩, ⟨87, [ag [iv m15.1, iv m15.2], ag [iv r112.1, iv r112.2]], (H54_4 p0 m15 o101 m110 o105), iv r114, []⟩] hT mixed 4 [3, 4, 5, 6, 29] [0, 1, 2, 3, 4, 5, 8, 9] (st 61 [(3, pt 1 0), (4, pt 2 0), (5, pt 8 0), (6, pt 9 0), (29, .bool (decide (r114 < 0)))]) (H54_4 p0 m15 o101 m110 o105) ?_ ?_
    · exact QJ.rn (qs (st 61 [(3, pt 1 0), (4, pt 2 0), (5, pt 8 0), (6, pt 9 0), (24, ag [iv m15.1, iv m15.2]), (25, pt 9 0), (26, iv m110)]) (H54_4 p0 m15 o101 m110 o105) [] []) 3 (QJ.o { val := ag [iv r112.1, iv r112.2], new := [] } (qOf_call (g := 55) (args := [iv m110]) (by kernel_rfl) lookC_hit) (QJ.dn ⟨rfl, (SJ.o { val := iv r114, new := [] } (qOf_call (g := 87) (args := [ag [iv m15.1, iv m15.2], ag [iv r112.1, iv r112.2]]) (by kernel_rfl) (lookC_skip (fun hg => absurd (show (55 : Nat) = 87 from hg) (by decide)) lookC_hit)) SJ.la)⟩))
    refine TS.cd (.tmp 29) (decide (r114 < 0)) (fun hc116 => ?_) (fun hc116 => ?_)
    · replace hF := of_pos hF hc116
      refine TS.sq ?_
      obtain ⟨r117, h118, hF⟩ := of_do hF
      obtain ⟨r119, h120, hF⟩ := of_do hF
      have hT : ∀ e ∈ ([⟨55, [iv (w64 (0 - o101.1))], (H54_4 p0 m15 o101 m110 o105), ag [iv r117.1, iv r117.2], []⟩, ⟨77, [ag [iv m15.1, iv m15.2], sv 10 1 1], (H54_2 p0 m15 o101 m110 o105 r117), ag [iv r119.1, iv r119.2], []⟩] : List Entry), PureSim Pg e.g e.args e.h e.v e.new := by
       intro e he
       simp only [List.mem_cons, List.not_mem_nil, or_false] at he
       rcases he with rfl | rfl
       · exact PureSim.ak (C55 _ _ h118)
       exact (PureSim.ren (hc := [accB 101 (List.length ([(r117.1, r117.2)])) (List.flatMap e101 ([(r117.1, r117.2)]))]) (fun i => List.getD [(10, 0)] i (0, 0)) (C77 _ _ _ _ h120) (.cons (At.accU (by kernel_rfl) rfl (fun _ => rfl)) (.nil _)) (.fl (.cons (Rn.any _ _ _ _ _ _ (nl rfl) rfl rfl (by decide)) .nil)) (.flat (by kernel_rfl)) newflat_nil)
      refine TS.dp [⟨55, [iv (w64 (0 - o101.1))], (H54_4 p0 m15 o101 m110 o105), ag [iv r117.1, iv r117.2], []⟩, ⟨77, [ag [iv m15.1, iv m15.2], sv 10 1 1], (H54_2 p0 m15 o101 m110 o105 r117), ag [iv r119.1, iv r119.2], []⟩] hT mixed 8 [4, 5, 6, 7] [0, 1, 2, 3, 4, 5, 8, 9, 11] (st 61 [(4, pt 2 0), (5, pt 8 0), (6, pt 9 0), (7, pt 11 0)]) (H54_1 p0 m15 o101 m110 o105 r119) ?_ ?_
      · exact QJ.rn (qs (st 61 [(3, pt 1 0), (4, pt 2 0), (5, pt 8 0), (6, pt 9 0), (29, .bool (decide (r114 < 0))), (30, ag [iv m15.1, iv m15.2]), (31, pt 8 0), (32, iv o101.1), (33, iv (w64 (0 - o101.1)))]) (H54_4 p0 m15 o101 m110 o105) [] []) 4 (QJ.o { val := ag [iv r117.1, iv r117.2], new := [] } (qOf_call (g := 55) (args := [iv (w64 (0 - o101.1))]) (by kernel_rfl) lookC_hit) (QJ.rn (qs (st 61 [(3, pt 1 0), (4, pt 2 0), (5, pt 8 0), (6, pt 9 0), (29, .bool (decide (r114 < 0))), (30, ag [iv m15.1, iv m15.2]), (31, pt 8 0), (32, iv o101.1), (33, iv (w64 (0 - o101.1))), (34, ag [iv r117.1, iv r117.2]), (35, sv 10 1 1)]) (H54_2 p0 m15 o101 m110 o105 r117) [(5, 10, 11)] []) 1 (QJ.o { val := ag [iv r119.1, iv r119.2], new := [] } (qOf_call (g := 77) (args := [ag [iv m15.1, iv m15.2], sv 10 1 1]) (by kernel_rfl) (lookC_skip (fun hg => absurd (show (55 : Nat) = 77 from hg) (by decide)) lookC_hit)) (QJ.rn (qs (st 61 [(3, pt 1 0), (4, pt 2 0), (5, pt 8 0), (6, pt 9 0), (7, pt 11 0), (29, .bool (decide (r114 < 0))), (30, ag [iv m15.1, iv m15.2]), (31, pt 8 0), (32, iv o101.1), (33, iv (w64 (0 - o101.1))), (34, ag [iv r117.1, iv r117.2]), (35, sv 10 1 1), (36, ag [iv r119.1, iv r119.2])]) [ab 55 e55 p0, cl 101 [iv m15.1, iv m15.2], cl 101 [iv 0, iv 0], cl 23 [sl 0 p0], .mark, .loop (S54_17).tmps [22, 23] c54.s2.s2.s1.s2.bd.ras c54.s2.s2.s1.s2.bd.rbd .busy none, .dead, .dead, cl 55 [iv o101.1, iv o101.2], cl 55 [iv m110, iv o105.2], cl 101 [iv r117.1, iv r117.2], cl 101 [iv 0, iv 0]] [(7, 11, 12), (5, 10, 11)] []) 1 (QJ.dn ⟨rfl, SJ.la⟩)))))
      refine TS.sq ?_
      obtain ⟨r121, h122, hF⟩ := of_do hF
      obtain ⟨r123, h124, hF⟩ := of_do hF
      obtain ⟨r125, h126, hF⟩ := of_do hF
      have hT : ∀ e ∈ ([⟨55, [iv o101.2], (H54_1 p0 m15 o101 m110 o105 r119), ag [iv r121.1, iv r121.2], []⟩, ⟨89, [ag [iv (w64 (r119.1 * (w64 (o105.2 - o101.2)))), iv (w64 (r119.2 * (w64 (m110 - o101.1))))]], (H54_1 p0 m15 o101 m110 o105 r119), ag [iv r123.1, iv r123.2], []⟩, ⟨77, [ag [iv r121.1, iv r121.2], sv 12 1 1], (H54_0 p0 m15 o101 m110 o105 r119 r123), ag [iv r125.1, iv r125.2], []⟩] : List Entry), PureSim Pg e.g e.args e.h e.v e.new := by
       intro e he
       simp only [List.mem_cons, List.not_mem_nil, or_false] at he
       rcases he with rfl | rfl | rfl
       · exact PureSim.ak (C55 _ _ h122)
       · exact PureSim.ak (C89 _ _ _ h124)
       exact (PureSim.ren (hc := [accB 101 (List.length ([(r123.1, r123.2)])) (List.flatMap e101 ([(r123.1, r123.2)]))]) (fun i => List.getD [(12, 0)] i (0, 0)) (C77 _ _ _ _ h126) (.cons (At.accU (by kernel_rfl) rfl (fun _ => rfl)) (.nil _)) (.fl (.cons (Rn.any _ _ _ _ _ _ (nl rfl) rfl rfl (by decide)) .nil)) (.flat (by kernel_rfl)) newflat_nil)
      refine TS.dp [⟨55, [iv o101.2], (H54_1 p0 m15 o101 m110 o105 r119), ag [iv r121.1, iv r121.2], []⟩, ⟨89, [ag [iv (w64 (r119.1 * (w64 (o105.2 - o101.2)))), iv (w64 (r119.2 * (w64 (m110 - o101.1))))]], (H54_1 p0 m15 o101 m110 o105 r119), ag [iv r123.1, iv r123.2], []⟩, ⟨77, [ag [iv r121.1, iv r121.2], sv 12 1 1], (H54_0 p0 m15 o101 m110 o105 r119 r123), ag [iv r125.1, iv r125.2], []⟩] hT mixed 20 [] [0, 1, 2, 3, 4, 5] (st 61 []) [ab 55 e55 p0, cl 101 [iv m15.1, iv m15.2], cl 101 [iv r125.1, iv r125.2], cl 23 [sl 0 p0], .mark, .loop (S54_17).tmps [22, 23] c54.s2.s2.s1.s2.bd.ras c54.s2.s2.s1.s2.bd.rbd .busy none, .dead, .dead, .dead, .dead, .dead, .dead, .dead] ?_ ?_
      · exact QJ.rn (qs (st 61 [(4, pt 2 0), (5, pt 8 0), (6, pt 9 0), (7, pt 11 0), (37, pt 8 1), (38, iv o101.2)]) (H54_1 p0 m15 o101 m110 o105 r119) [] []) 2 (QJ.o { val := ag [iv r121.1, iv r121.2], new := [] } (qOf_call (g := 55) (args := [iv o101.2]) (by kernel_rfl) lookC_hit) (QJ.rn (qs (st 61 [(4, pt 2 0), (5, pt 8 0), (6, pt 9 0), (7, pt 11 0), (37, pt 8 1), (38, iv o101.2), (39, ag [iv r121.1, iv r121.2]), (40, pt 11 0), (41, iv r119.1), (42, pt 9 1), (43, iv o105.2), (44, pt 8 1), (45, iv o101.2), (46, iv (w64 (o105.2 - o101.2))), (47, iv (w64 (r119.1 * (w64 (o105.2 - o101.2))))), (48, pt 11 1), (49, iv r119.2), (50, pt 9 0), (51, iv m110), (52, pt 8 0), (53, iv o101.1), (54, iv (w64 (m110 - o101.1))), (55, iv (w64 (r119.2 * (w64 (m110 - o101.1))))), (56, ag [iv (w64 (r119.1 * (w64 (o105.2 - o101.2)))), iv (w64 (r119.2 * (w64 (m110 - o101.1))))])]) (H54_1 p0 m15 o101 m110 o105 r119) [] []) 17 (QJ.dn ⟨rfl, (SJ.o { val := ag [iv r123.1, iv r123.2], new := [] } (qOf_call (g := 89) (args := [ag [iv (w64 (r119.1 * (w64 (o105.2 - o101.2)))), iv (w64 (r119.2 * (w64 (m110 - o101.1))))]]) (by kernel_rfl) (lookC_skip (fun hg => absurd (show (55 : Nat) = 89 from hg) (by decide)) lookC_hit)) (SJ.rn (st 61 [(4, pt 2 0), (5, pt 8 0), (6, pt 9 0), (7, pt 11 0), (37, pt 8 1), (38, iv o101.2), (39, ag [iv r121.1, iv r121.2]), (40, pt 11 0), (41, iv r119.1), (42, pt 9 1), (43, iv o105.2), (44, pt 8 1), (45, iv o101.2), (46, iv (w64 (o105.2 - o101.2))), (47, iv (w64 (r119.1 * (w64 (o105.2 - o101.2))))), (48, pt 11 1), (49, iv r119.2), (50, pt 9 0), (51, iv m110), (52, pt 8 0), (53, iv o101.1), (54, iv (w64 (m110 - o101.1))), (55, iv (w64 (r119.2 * (w64 (m110 - o101.1))))), (56, ag [iv (w64 (r119.1 * (w64 (o105.2 - o101.2)))), iv (w64 (r119.2 * (w64 (m110 - o101.1))))]), (57, ag [iv r123.1, iv r123.2]), (58, sv 12 1 1)]) (H54_0 p0 m15 o101 m110 o105 r119 r123) 1 (SJ.o { val := ag [iv r125.1, iv r125.2], new := [] } (qOf_call (g := 77) (args := [ag [iv r121.1, iv r121.2], sv 12 1 1]) (by kernel_rfl) (lookC_skip (fun hg => absurd (show (55 : Nat) = 77 from hg) (by decide)) (lookC_skip (fun hg => absurd (show (89 : Nat) = 77 from hg) (by decide)) lookC_hit))) SJ.la)))⟩)))
      refine TS.rt (NX.bkR ?_)
      refine ⟨.bool false, (H54_5 p0 m15 r125), by kernel_rfl, (TI.rn 0 [0, 1, 6, 7, 8, 33] [0, 1, 2, 3, 4, 5] (st 36 [(0, .func (.yield 5) #[] #[]), (1, pt 3 0), (6, sl 0 p0), (7, iv (p0.length : Int)), (8, iv v56), (33, .bool false)]) (H54_5 p0 m15 r125) (TI.ra 1 [0, 1, 6, 7, 8, 34] (st 36 [(0, .func (.yield 5) #[] #[]), (1, pt 3 0), (6, sl 0 p0), (7, iv (p0.length : Int)), (8, iv v56), (34, .bool true)]) (TI.dq (TS.cdT (.tmp 34) (TS.rt (NX.bkR (NX.sqR ?_)))))))⟩
      have hF := sj hF
      subst hF
      exact Rd.out (e := .ret) (by intro h; cases h) (And.intro rfl (Wk.an [] (.ac (.lt (.fl (.fl .nil)) (.lt (.fl (.fl .nil)) (.lt (.sl .nil) (.cons (At.blk (by kernel_rfl) RnB.mark) (.cons (At.blk (b1 := .loop (S54_17).tmps [22, 23] c54.s2.s2.s1.s2.bd.ras c54.s2.s2.s1.s2.bd.rbd .done (some .ret)) (by kernel_rfl) (RnB.loop _ _ _ _ _ _ _ (LRn.stx [3, 4, 21] [pt 1 0, pt 2 0, .func (.func 98) ⟨[]⟩ ⟨[pt 3 0]⟩] [pt 1 0, pt 2 0, .func (.func 98) ⟨[]⟩ ⟨[pt 3 0]⟩] (.pp (.pp (.cons (Rn.func' .nil (.pp .nil)) .nil))) (by kernel_rfl) (by kernel_rfl) rfl))) (.nil _))))))) [] .nil))
    replace hF := of_neg hF hc116
    refine TS.sk (NX.bk ?_)
    refine ⟨.bool true, (H54_3 p0 m15 o101 m110 o105), by kernel_rfl, (TI.rn 0 [0, 1, 6, 7, 8, 33] [0, 1, 2, 3, 4, 5] (st 36 [(0, .func (.yield 5) #[] #[]), (1, pt 3 0), (6, sl 0 p0), (7, iv (p0.length : Int)), (8, iv v56), (33, .bool true)]) [ab 55 e55 p0, cl 101 [iv m15.1, iv m15.2], cl 101 [iv 0, iv 0], cl 23 [sl 0 p0], .mark, .loop (S54_17).tmps [22, 23] c54.s2.s2.s1.s2.bd.ras c54.s2.s2.s1.s2.bd.rbd .ready none, .dead, .dead, .dead, .dead] (TI.ra 1 [0, 1, 6, 7, 8, 34] (st 36 [(0, .func (.yield 5) #[] #[]), (1, pt 3 0), (6, sl 0 p0), (7, iv (p0.length : Int)), (8, iv v56), (34, .bool false)]) (TI.dq (TS.cdF (.tmp 34) (TS.sk (NX.bk (NX.sq ?_)))))))⟩
    refine TS.rg (TI.ra 2 [0, 1, 6, 7, 8] (S54_11 p0 v56) (TI.dn ?_))
    exact Rd.again (a2 := (S54_11 p0 v56)) (h2 := (H54_7 p0 m15)) (Wk.an [] (.ac (.lt (.fl (.fl .nil)) (.lt (.fl (.fl .nil)) (.lt (.sl .nil) (.cons (At.blk (by kernel_rfl) RnB.mark) (.cons (At.blk (b1 := .loop (S54_17).tmps [22, 23] c54.s2.s2.s1.s2.bd.ras c54.s2.s2.s1.s2.bd.rbd .ready none) (by kernel_rfl) (RnB.loop _ _ _ _ _ _ _ (LRn.stx [3, 4, 21] [pt 1 0, pt 2 0, .func (.func 98) ⟨[]⟩ ⟨[pt 3 0]⟩] [pt 1 0, pt 2 0, .func (.func 98) ⟨[]⟩ ⟨[pt 3 0]⟩] (.pp (.pp (.cons (Rn.func' .nil (.pp .nil)) .nil))) (by kernel_rfl) (by kernel_rfl) rfl))) (.nil _))))))) [.func (.yield 5) #[] #[], pt 3 0, sl 0 p0, iv (p0.length : Int), iv (w64 (v56 + 1))] (.cons (Rn.yield _ (nl rfl)) (.pp (.sl (.fl (.fl .nil)))))) (ih (w64 (v56 + 1)) _ hF)
   clear hF
   have hF := hm111
   clear hm111
   refine TS.start ?_
   refine TS.cd (.tmp 25) ((w64 (v56 + 1)) == (p0.length : Int)) (fun hc127 => ?_) (fun hc127 => ?_)
   · replace hF := of_pos hF hc127
     refine TS.rg (TI.rn 5 [0, 1, 4, 5, 6, 7, 8] [0, 1, 2, 3, 4, 5, 6, 7] (S54_10 p0 v56) [ab 55 e55 p0, cl 101 [iv m15.1, iv m15.2], cl 101 [iv 0, iv 0], cl 23 [sl 0 p0], .mark, .loop (S54_17).tmps [22, 23] c54.s2.s2.s1.s2.bd.ras c54.s2.s2.s1.s2.bd.rbd .ready none, cl 55 [iv o101.1, iv o101.2], cl 55 [iv (w64 (o105.1 + 3600)), iv o105.2]] (TI.dn ?_))
     have hF := sj hF
     subst hF
     exact TS.weak (by exact (Wk.an [6, 7] (.ac (.lt (.fl (.fl .nil)) (.lt (.fl (.fl .nil)) (.lt (.sl .nil) (.cons (At.blk (by kernel_rfl) RnB.mark) (.cons (At.blk (b1 := .loop (S54_17).tmps [22, 23] c54.s2.s2.s1.s2.bd.ras c54.s2.s2.s1.s2.bd.rbd .ready none) (by kernel_rfl) (RnB.loop _ _ _ _ _ _ _ (LRn.stx [3, 4, 21] [pt 1 0, pt 2 0, .func (.func 98) ⟨[]⟩ ⟨[pt 3 0]⟩] [pt 1 0, pt 2 0, .func (.func 98) ⟨[]⟩ ⟨[pt 3 0]⟩] (.pp (.pp (.cons (Rn.func' .nil (.pp .nil)) .nil))) (by kernel_rfl) (by kernel_rfl) rfl))) (.lt (.fl (.fl .nil)) (.lt (.fl (.fl .nil)) (.nil _))))))))) [.func (.yield 5) #[] #[], pt 3 0, pt 6 0, pt 7 0, sl 0 p0, iv (p0.length : Int), iv v56] (.cons (Rn.yield _ (nl rfl)) (.pp (.pp (.pp (.sl (.fl (.fl .nil))))))))) hK
   replace hF := of_neg hF hc127
   refine TS.sk ?_
   have hF := sj hF
   subst hF
   exact TS.weak (by exact (Wk.an [6, 7] (.ac (.lt (.fl (.fl .nil)) (.lt (.fl (.fl .nil)) (.lt (.sl .nil) (.cons (At.blk (by kernel_rfl) RnB.mark) (.cons (At.blk (b1 := .loop (S54_17).tmps [22, 23] c54.s2.s2.s1.s2.bd.ras c54.s2.s2.s1.s2.bd.rbd .ready none) (by kernel_rfl) (RnB.loop _ _ _ _ _ _ _ (LRn.stx [3, 4, 21] [pt 1 0, pt 2 0, .func (.func 98) ⟨[]⟩ ⟨[pt 3 0]⟩] [pt 1 0, pt 2 0, .func (.func 98) ⟨[]⟩ ⟨[pt 3 0]⟩] (.pp (.pp (.cons (Rn.func' .nil (.pp .nil)) .nil))) (by kernel_rfl) (by kernel_rfl) rfl))) (.lt (.fl (.fl .nil)) (.lt (.fl (.fl .nil)) (.nil _))))))))) [.func (.yield 5) #[] #[], pt 3 0, pt 6 0, pt 7 0, sl 0 p0, iv (p0.length : Int), iv v56] (.cons (Rn.yield _ (nl rfl)) (.pp (.pp (.pp (.sl (.fl (.fl .nil))))))))) hK
 replace hF := of_neg hF hc99
 refine TS.ex 0 (NX.sqX ?_)
 have hF := sj hF
 subst hF
 exact Rd.out (e := .exit 0) (by intro h; cases h) (And.intro rfl (Wk.an [] (.ac (.lt (.fl (.fl .nil)) (.lt (.fl (.fl .nil)) (.lt (.sl .nil) (.cons (At.blk (by kernel_rfl) RnB.mark) (.cons (At.blk (b1 := .loop (S54_17).tmps [22, 23] c54.s2.s2.s1.s2.bd.ras c54.s2.s2.s1.s2.bd.rbd .ready none) (by kernel_rfl) (RnB.loop _ _ _ _ _ _ _ (LRn.stx [3, 4, 21] [pt 1 0, pt 2 0, .func (.func 98) ⟨[]⟩ ⟨[pt 3 0]⟩] [pt 1 0, pt 2 0, .func (.func 98) ⟨[]⟩ ⟨[pt 3 0]⟩] (.pp (.pp (.cons (Rn.func' .nil (.pp .nil)) .nil))) (by kernel_rfl) (by kernel_rfl) rfl))) (.nil _))))))) [] .nil))
theorem B54 (p0 : List I2) (p1 p2 : Int) (r : I2) (hF : F54 p0 p1 p2 = some r) : TS0 Pg 1 1 c54 (st 61 [(0, sl 0 p0), (1, ag [iv p1, iv p2])]) [ab 55 e55 p0] (NX0 Pg 1 1 [] (FinM Pg Try.f54 1 (V54 1 r) (N54 1 r))) := by
 unfold F54 at hF
 refine TS0.sqP (by kernel_rfl) (TS0.piece (TS.rg (TI.rn 2 [0, 3, 4] [0, 1, 2] (st 61 [(0, sl 0 p0), (3, pt 1 0), (4, pt 2 0)]) (H54_16 p0 p1 p2) (TI.dn (NX.z (NX0.sq (TS0.sqP (by kernel_rfl) (TS0.piece ?_))))))))
 refine TS.sq ?_
 obtain ⟨hg1, hF⟩ := of_guard hF
 obtain ⟨o2, h3, hF⟩ := of_do hF
 replace h3 := sj h3
 obtain ⟨r4, h5, hF⟩ := of_do hF
 obtain ⟨r6, h7, hF⟩ := of_do hF
 have hT : ∀ e ∈ ([⟨55, [iv o2.1], (H54_16 p0 p1 p2), ag [iv r4.1, iv r4.2], []⟩, ⟨87, [ag [iv p1, iv p2], ag [iv r4.1, iv r4.2]], (H54_16 p0 p1 p2), iv r6, []⟩] : List Entry), PureSim Pg e.g e.args e.h e.v e.new := by
  intro e he
  simp only [List.mem_cons, List.not_mem_nil, or_false] at he
  rcases he with rfl | rfl
  · exact PureSim.ak (C55 _ _ h5)
  exact PureSim.ak (C87 _ _ _ _ _ h7)
 refine TS.dp [⟨55, [iv o2.1], (H54_16 p0 p1 p2), ag [iv r4.1, iv r4.2], []⟩, ⟨87, [ag [iv p1, iv p2], ag [iv r4.1, iv r4.2]], (H54_16 p0 p1 p2), iv r6, []⟩] hT mixed 6 [0, 3, 4, 15] [0, 1, 2] (st 61 [(0, sl 0 p0), (3, pt 1 0), (4, pt 2 0), (15, .bool (decide (r6 < 0)))]) (H54_16 p0 p1 p2) ?_ ?_
 · exact QJ.rn (qs (st 61 [(0, sl 0 p0), (3, pt 1 0), (4, pt 2 0), (8, ag [iv p1, iv p2]), (9, sl 0 p0)]) (H54_16 p0 p1 p2) [] []) 2 (QJ.o { val := pt 0 (0 + (Int.toNat 0) * 2) } (q_ixS 0 0 ((Int.toNat 0) * 2) (by kernel_rfl) hg1) (QJ.rn (qs (st 61 [(0, sl 0 p0), (3, pt 1 0), (4, pt 2 0), (8, ag [iv p1, iv p2]), (9, sl 0 p0), (10, pt 0 (0 + (Int.toNat 0) * 2)), (11, pt 0 (0 + (Int.toNat 0) * 2))]) (H54_16 p0 p1 p2) [] []) 1 (QJ.o { val := iv o2.1 } (q_n1a Pg (H54_16 p0 p1 p2) 3 0 (0 + (Int.toNat 0) * 2) p0 e55 2 55 (Int.toNat 0) 0 (0, 0) h3) (QJ.o { val := ag [iv r4.1, iv r4.2], new := [] } (qOf_call (g := 55) (args := [iv o2.1]) (by kernel_rfl) lookC_hit) (QJ.dn ⟨rfl, (SJ.o { val := iv r6, new := [] } (qOf_call (g := 87) (args := [ag [iv p1, iv p2], ag [iv r4.1, iv r4.2]]) (by kernel_rfl) (lookC_skip (fun hg => absurd (show (55 : Nat) = 87 from hg) (by decide)) lookC_hit)) SJ.la)⟩)))))
 obtain ⟨m15, hm16, hF⟩ := of_do hF
 have hK : NX Pg 1 1 [] (NX0 Pg 1 1 [.sq c54.s2.s2] (FinM Pg Try.f54 1 (V54 1 r) (N54 1 r))) .normal (st 61 [(0, sl 0 p0), (3, pt 1 0), (4, pt 2 0)]) [ab 55 e55 p0, cl 101 [iv m15.1, iv m15.2], cl 101 [iv 0, iv 0]] := by
  refine NX.z (NX0.sq (TS0.sqP (by kernel_rfl) (TS0.sqP (by kernel_rfl) (TS0.piece (TS.rg (TI.ra 1 [3, 4, 20] (st 61 [(3, pt 1 0), (4, pt 2 0), (20, sl 0 p0)]) (TI.inline (g := 88) (args := [sl 0 p0]) (fn := Try.f88) (c := c54f88) (n := 3) (by kernel_rfl) (by kernel_rfl) (by kernel_rfl) (by kernel_rfl) (by kernel_rfl) [0] (a2 := (st 4 [(0, sl 0 p0)])) (by kernel_rfl) (TS.sq ?_))))))))
  refine TS.rg (TI.rn 2 [1] [0, 1, 2, 3] (st 4 [(1, pt 3 0)]) (H54_12 p0 m15) (TI.dq (TS.sq (TS.rg (TI.ra 2 [2] (st 4 [(2, .func (.func 98) ⟨[]⟩ ⟨[pt 3 0]⟩)]) (TI.dq ?_))))))
  refine TS.rt ?_
  refine ⟨.inr rfl, rfl, .func (.func 98) ⟨[]⟩ ⟨[pt 3 0]⟩, .func (.func 98) ⟨[]⟩ ⟨[pt 3 0]⟩, (H54_12 p0 m15), by kernel_rfl, WkV.refl, (TI.rn 0 [3, 4, 21] [0, 1, 2, 3] (S54_17) (H54_12 p0 m15) (TI.dn (NX.z (NX0.sq (TS0.bkP (id := 0) (by kernel_rfl) (TS0.rgP (g := (.tmp 21)) (ps := #[22, 23]) (f := 98) (first := #[]) (captured := #[pt 3 0]) (fn := Try.f98) (ci := c54f98) (n := 4) (by kernel_rfl) (by kernel_rfl) (by kernel_rfl) (by kernel_rfl) (by kernel_rfl) (by kernel_rfl) [0, 1] (a2 := (st 36 [(0, .func (.yield 5) #[] #[]), (1, pt 3 0)])) (h2 := (H54_7 p0 m15)) (by kernel_rfl) (by kernel_rfl) (TS.sq (TS.rg ?_))))))))⟩
  refine TI.ra 3 [0, 1, 6, 7, 8] (S54_14 p0) (TI.dq (TS.bk 0 ?_))
  obtain ⟨r128, h129, hF⟩ := of_do hF
  refine TS.lp (TL.weak (a2 := (S54_14 p0)) (h2 := (H54_7 p0 m15)) (Wk.an [] (.ac (.lt (.fl (.fl .nil)) (.lt (.fl (.fl .nil)) (.lt (.sl .nil) (.cons (At.blk (by kernel_rfl) RnB.mark) (.cons (At.blk (b1 := .loop (S54_17).tmps [22, 23] c54.s2.s2.s1.s2.bd.ras c54.s2.s2.s1.s2.bd.rbd .ready none) (by kernel_rfl) (RnB.loop _ _ _ _ _ _ _ (LRn.stx [3, 4, 21] [pt 1 0, pt 2 0, .func (.func 98) ⟨[]⟩ ⟨[pt 3 0]⟩] [pt 1 0, pt 2 0, .func (.func 98) ⟨[]⟩ ⟨[pt 3 0]⟩] (.pp (.pp (.cons (Rn.func' .nil (.pp .nil)) .nil))) (by kernel_rfl) (by kernel_rfl) rfl))) (.nil _))))))) [.func (.yield 5) #[] #[], pt 3 0, sl 0 p0, iv (p0.length : Int), iv 0] (.cons (Rn.yield _ (nl rfl)) (.pp (.sl (.fl (.fl .nil)))))) (TL.post (L54l0 p0 m15 0 r128 h129) ?_))
  rintro e a1 h1 hp
  rcases r128 with o130 | o131
  · skip
    obtain ⟨rfl, hw⟩ := hp
    refine ⟨(st 36 []), [ab 55 e55 p0, cl 101 [iv m15.1, iv m15.2], cl 101 [iv o130.1, iv o130.2], cl 23 [sl 0 p0], .mark, .loop (S54_17).tmps [22, 23] c54.s2.s2.s1.s2.bd.ras c54.s2.s2.s1.s2.bd.rbd .done (some .ret)], (NX.bkR ?_), hw⟩
    refine ⟨.inr rfl, rfl, ⟨.tuple ⟨[]⟩, by kernel_rfl⟩, .inr ⟨(S54_17).tmps, [22, 23], c54.s2.s2.s1.s2.bd.ras, c54.s2.s2.s1.s2.bd.rbd, .ret, by kernel_rfl, (TS0.startM [4] [0, 2, 4] (a2 := (stm 61 [4] [(4, pt 2 0)])) (h2 := [ab 55 e55 p0, .dead, cl 101 [iv o130.1, iv o130.2], .dead, .mark, .dead]) (by kernel_rfl) (TS0.piece (TS.rt (NX.z (NX0.bkR (NX0.sqR ?_))))))⟩⟩
    have hF := sj hF
    subst hF
    exact ⟨.inr rfl, [ab 55 e55 p0, .dead, cl 101 [iv o130.1, iv o130.2], .dead, .dead, .dead], by kernel_rfl, ag [iv o130.1, iv o130.2], by kernel_rfl, WkV.flat0 (by kernel_rfl) (nl rfl)⟩
  skip
  obtain ⟨rfl, hw⟩ := hp
  refine ⟨(st 36 []), (H54_7 p0 m15), (NX.bkX ?_), hw⟩
  refine ⟨.inl rfl, rfl, ⟨.tuple ⟨[]⟩, by kernel_rfl⟩, .inl ⟨(S54_17).tmps, [22, 23], c54.s2.s2.s1.s2.bd.ras, c54.s2.s2.s1.s2.bd.rbd, by kernel_rfl, (NX0.bk (NX0.sq (TS0.startM [4] [0, 2, 4] (a2 := (stm 61 [4] [(4, pt 2 0)])) (h2 := [ab 55 e55 p0, .dead, cl 101 [iv 0, iv 0], .dead, .mark, .dead]) (by kernel_rfl) (TS0.piece (TS.sq ?_)))))⟩⟩
  obtain ⟨r132, h133, hF⟩ := of_do hF
  refine TS.rg (TI.cf (C55 _ _ h133) (TI.rn 1 [4] [0, 2, 4] (stm 61 [4] [(4, pt 2 0)]) [ab 55 e55 p0, .dead, cl 101 [iv r132.1, iv r132.2], .dead, .mark, .dead] (TI.dq (TS.rt (NX.z ?_)))))
  have hF := sj hF
  subst hF
  exact ⟨.inr rfl, [ab 55 e55 p0, .dead, cl 101 [iv r132.1, iv r132.2], .dead, .dead, .dead], by kernel_rfl, ag [iv r132.1, iv r132.2], by kernel_rfl, WkV.flat0 (by kernel_rfl) (nl rfl)⟩
 clear hF
 have hF := hm16
 clear hm16
 refine TS.start ?_
 refine TS.cd (.tmp 15) (decide (r6 < 0)) (fun hc134 => ?_) (fun hc134 => ?_)
 · replace hF := of_pos hF hc134
   obtain ⟨r135, h136, hF⟩ := of_do hF
   obtain ⟨r137, h138, hF⟩ := of_do hF
   have hT : ∀ e ∈ ([⟨55, [iv 3600], (H54_16 p0 p1 p2), ag [iv r135.1, iv r135.2], []⟩, ⟨77, [ag [iv p1, iv p2], sv 3 1 1], (H54_15 p0 p1 p2 r135), ag [iv r137.1, iv r137.2], []⟩] : List Entry), PureSim Pg e.g e.args e.h e.v e.new := by
    intro e he
    simp only [List.mem_cons, List.not_mem_nil, or_false] at he
    rcases he with rfl | rfl
    · exact PureSim.ak (C55 _ _ h136)
    exact (PureSim.ren (hc := [accB 101 (List.length ([(r135.1, r135.2)])) (List.flatMap e101 ([(r135.1, r135.2)]))]) (fun i => List.getD [(3, 0)] i (0, 0)) (C77 _ _ _ _ h138) (.cons (At.accU (by kernel_rfl) rfl (fun _ => rfl)) (.nil _)) (.fl (.cons (Rn.any _ _ _ _ _ _ (nl rfl) rfl rfl (by decide)) .nil)) (.flat (by kernel_rfl)) newflat_nil)
   refine TS.drawE (id := 2) (b := true) (ops := c54.s2.s1.s2.th.rops) (fin := (qs (S54_9 p0 r6 p1 p2 r135) (H54_15 p0 p1 p2 r135) [(2, 3, 4)] [])) (fin2 := (qs (S54_9 p0 r6 p1 p2 r135) (H54_15 p0 p1 p2 r135) [(2, 3, 4)] [])) (a1 := (S54_8 p0 r6 p1 p2 r135 r137)) (h1 := [ab 55 e55 p0, cl 101 [iv r137.1, iv r137.2], cl 101 [iv 0, iv 0], cl 101 [iv r135.1, iv r135.2]]) [⟨55, [iv 3600], (H54_16 p0 p1 p2), ag [iv r135.1, iv r135.2], []⟩, ⟨77, [ag [iv p1, iv p2], sv 3 1 1], (H54_15 p0 p1 p2 r135), ag [iv r137.1, iv r137.2], []⟩] hT mixed (by kernel_rfl) rfl 3 (by kernel_rfl) [] ?_ rfl (.inl ⟨rfl, rfl⟩) ?_ ?_
   · exact QI.r (qs (st 61 [(0, sl 0 p0), (3, pt 1 0), (4, pt 2 0), (15, .bool (decide (r6 < 0))), (16, ag [iv p1, iv p2])]) (H54_16 p0 p1 p2) [] []) 1 (QI.o { val := ag [iv r135.1, iv r135.2], new := [] } (qs (st 61 [(0, sl 0 p0), (3, pt 1 0), (4, pt 2 0), (15, .bool (decide (r6 < 0))), (16, ag [iv p1, iv p2]), (17, ag [iv r135.1, iv r135.2])]) (H54_16 p0 p1 p2) [] []) (qOf_call (g := 55) (args := [iv 3600]) (by kernel_rfl) lookC_hit) (QI.r (qs (S54_9 p0 r6 p1 p2 r135) (H54_15 p0 p1 p2 r135) [(2, 3, 4)] []) 1 (QI.done (by kernel_rfl))))
   · exact SI.o { val := ag [iv r137.1, iv r137.2], new := [] } (S54_8 p0 r6 p1 p2 r135 r137) (H54_15 p0 p1 p2 r135) (qOf_call (g := 77) (args := [ag [iv p1, iv p2], sv 3 1 1]) (by kernel_rfl) (lookC_skip (fun hg => absurd (show (55 : Nat) = 77 from hg) (by decide)) lookC_hit)) (SI.run (a2 := (S54_8 p0 r6 p1 p2 r135 r137)) (h2 := [ab 55 e55 p0, cl 101 [iv r137.1, iv r137.2], cl 101 [iv 0, iv 0], cl 101 [iv r135.1, iv r135.2]]) 1 (by kernel_rfl) (SI.done (by kernel_rfl)))
   have hF := sj hF
   subst hF
   exact NXz.weak (by exact (Wk.an [1, 2] (.ac (.lt (.fl (.fl .nil)) (.lt (.fl (.fl .nil)) (.nil _)))) [sl 0 p0, pt 1 0, pt 2 0] (.sl (.pp (.pp .nil))))) hK
 replace hF := of_neg hF hc134
 refine TS.sk ?_
 have hF := sj hF
 subst hF
 exact NXz.weak (by exact (Wk.an [1, 2] (.ac (.lt (.fl (.fl .nil)) (.lt (.fl (.fl .nil)) (.nil _)))) [sl 0 p0, pt 1 0, pt 2 0] (.sl (.pp (.pp .nil))))) hK
theorem C54 (p0 : List I2) (p1 p2 : Int) (r : I2) (hF : F54 p0 p1 p2 = some r) : PureSim Pg 54 [sl 0 p0, ag [iv p1, iv p2]] [ab 55 e55 p0] (V54 1 r) (N54 1 r) :=
 PureSim.of_FinM Try.func54 (c := c54) (by kernel_rfl) (by kernel_rfl) 1 rfl [0, 1] [0] (by kernel_rfl) (B54 p0 p1 p2 r hF)
noncomputable def c56 : Code := Try.f56.code
def F56 (p0 p1 : Int) : Option I2 :=
 some (p0, p1)
def V56 (b : Nat) (r : I2) : Value := ag [iv r.1, iv r.2]
def N56 (b : Nat) (r : I2) : List Blk := []
theorem B56 (p0 p1 : Int) (r : I2) (hF : F56 p0 p1 = some r) : TS Pg 0 0 c56 (st 8 [(0, ag [iv p0, iv p1])]) [] (NX Pg 0 0 [] (FinP Pg Try.f56 0 (V56 0 r) (N56 0 r))) := by
 unfold F56 at hF
 refine TS.sq (TS.rg (TI.rn 2 [1, 2] [0, 1] (st 8 [(1, pt 0 0), (2, pt 1 0)]) [cl 101 [iv p0, iv p1], cl 29 [iv 0, iv 0]] (TI.dq (TS.sq (TS.rg (TI.rn 6 [2] [1] (st 8 [(2, pt 1 0)]) [.dead, cl 29 [iv p0, iv p1]] (TI.dn ?_)))))))
 refine NX.sq (TS.rt ?_)
 have hF := sj hF
 subst hF
 exact ⟨.inr rfl, rfl, ag [iv p0, iv p1], by kernel_rfl, WkV.flat0 (by kernel_rfl) (nl rfl)⟩
theorem C56 (p0 p1 : Int) (r : I2) (hF : F56 p0 p1 = some r) : PureSim Pg 56 [ag [iv p0, iv p1]] [] (V56 0 r) (N56 0 r) :=
 PureSim.of_Fin Try.func56 (c := c56) (by kernel_rfl) (by kernel_rfl) 0 rfl [0] [] (by kernel_rfl) (B56 p0 p1 r hF)
noncomputable def c72 : Code := Try.f72.code
def F72 (p0 p1 : Int) : Option Int :=
 some (w64 (p0 + p1))
def V72 (b : Nat) (r : Int) : Value := iv r
def N72 (b : Nat) (r : Int) : List Blk := []
theorem B72 (p0 p1 r : Int) (hF : F72 p0 p1 = some r) : TS Pg 0 0 c72 (st 8 [(0, ag [iv p0, iv p1])]) [] (NX Pg 0 0 [] (FinP Pg Try.f72 0 (V72 0 r) (N72 0 r))) := by
 unfold F72 at hF
 refine TS.sq (TS.rg (TI.rn 2 [1] [0] (st 8 [(1, pt 0 0)]) [cl 55 [iv p0, iv p1]] (TI.dq (TS.sq (TS.rg (TI.rn 6 [2] [] (st 8 [(2, iv (w64 (p0 + p1)))]) [.dead] (TI.dn ?_)))))))
 refine NX.sq (TS.rt ?_)
 have hF := sj hF
 subst hF
 exact ⟨.inr rfl, rfl, iv (w64 (p0 + p1)), by kernel_rfl, WkV.flat0 (by kernel_rfl) (nl rfl)⟩
theorem C72 (p0 p1 r : Int) (hF : F72 p0 p1 = some r) : PureSim Pg 72 [ag [iv p0, iv p1]] [] (V72 0 r) (N72 0 r) :=
 PureSim.of_Fin Try.func72 (c := c72) (by kernel_rfl) (by kernel_rfl) 0 rfl [0] [] (by kernel_rfl) (B72 p0 p1 r hF)
noncomputable def c60 : Code := Try.f60.code
noncomputable def H60_0 (p0 : List I2) (v30 : List Int) (v29 : Int) (o67 : I2) (m76 : Int) (o71 : I2) : List Blk := [ab 55 e55 p0, cl 34 [accV 6 v30.length], cl 3 [iv v29], cl 23 [sl 0 p0], .mark, .loop (st 23 [(2, .slice none 0 0), (3, pt 1 0), (4, pt 2 0), (8, .func (.func 98) ⟨[]⟩ ⟨[pt 3 0]⟩)]).tmps [9, 10] c60.s2.s2.s2.s1.s2.bd.ras c60.s2.s2.s2.s1.s2.bd.rbd .busy none, ab 3 e3 v30, .dead, .dead, cl 55 [iv o67.1, iv o67.2], cl 55 [iv m76, iv o71.2]]
noncomputable def H60_1 (p0 : List I2) (m85 : List Int) (v29 : Int) : List Blk := [ab 55 e55 p0, cl 34 [accV 9 m85.length], cl 3 [iv (w64 (v29 + 1))], cl 23 [sl 0 p0], .mark, .loop (st 23 [(2, .slice none 0 0), (3, pt 1 0), (4, pt 2 0), (8, .func (.func 98) ⟨[]⟩ ⟨[pt 3 0]⟩)]).tmps [9, 10] c60.s2.s2.s2.s1.s2.bd.ras c60.s2.s2.s2.s1.s2.bd.rbd .ready none, .dead, .dead, .dead, ab 3 e3 m85]
noncomputable def H60_2 (p0 : List I2) (v30 : List Int) (v29 : Int) (o67 : I2) : List Blk := [ab 55 e55 p0, cl 34 [accV 6 v30.length], cl 3 [iv v29], cl 23 [sl 0 p0], .mark, .loop (st 23 [(2, .slice none 0 0), (3, pt 1 0), (4, pt 2 0), (8, .func (.func 98) ⟨[]⟩ ⟨[pt 3 0]⟩)]).tmps [9, 10] c60.s2.s2.s2.s1.s2.bd.ras c60.s2.s2.s2.s1.s2.bd.rbd .ready none, ab 3 e3 v30, cl 55 [iv o67.1, iv o67.2]]
noncomputable def H60_3 (p0 : List I2) (v30 : List Int) (v29 : Int) : List Blk := [ab 55 e55 p0, cl 34 [accV 6 v30.length], cl 3 [iv v29], cl 23 [sl 0 p0], .mark, .loop (st 23 [(2, .slice none 0 0), (3, pt 1 0), (4, pt 2 0), (8, .func (.func 98) ⟨[]⟩ ⟨[pt 3 0]⟩)]).tmps [9, 10] c60.s2.s2.s2.s1.s2.bd.ras c60.s2.s2.s2.s1.s2.bd.rbd .ready none, ab 3 e3 v30]
def S60_7 (p0 : List I2) (v28 : Int) : CAct := (st 36 [(0, .func (.yield 5) #[] #[]), (1, pt 3 0), (6, sl 0 p0), (7, iv (p0.length : Int)), (8, iv v28)])
def S60_4 (p0 : List I2) (v28 : Int) (o67 : I2) (m76 : Int) (o71 : I2) : CAct := sx (S60_7 p0 v28) [(30, .func (.yield 5) #[] #[]), (31, ag [iv o67.1, iv o67.2]), (32, ag [iv m76, iv o71.2])]
def S60_5 (p0 : List I2) (v28 : Int) : CAct := (st 36 [(0, .func (.yield 5) #[] #[]), (1, pt 3 0), (4, pt 7 0), (5, pt 8 0), (6, sl 0 p0), (7, iv (p0.length : Int)), (8, iv v28)])
def S60_6 (p0 : List I2) (v28 : Int) : CAct := (st 36 [(0, .func (.yield 5) #[] #[]), (1, pt 3 0), (6, sl 0 p0), (7, iv (p0.length : Int)), (8, iv (w64 (v28 + 1)))])
def S60_8 (p0 : List I2) : CAct := (st 36 [(0, .func (.yield 5) #[] #[]), (1, pt 3 0), (6, sl 0 p0), (7, iv (p0.length : Int)), (8, iv 0)])
def H60_9 (p0 : List I2) : List Blk := [ab 55 e55 p0, cl 34 [.slice none 0 0], cl 3 [iv 0], cl 23 [sl 0 p0]]
def S60_10  : CAct := (st 23 [(2, .slice none 0 0), (3, pt 1 0), (4, pt 2 0), (8, .func (.func 98) ⟨[]⟩ ⟨[pt 3 0]⟩)])
noncomputable def c60f88 : Code := Try.f88.code
noncomputable def c60f98 : Code := Try.f98.code
def F60l0 (p0 : List I2) (v28 : Int) (v30 : List Int) (v29 : Int) : Option ((List Int) × Int) :=
 if decide (v28 < (p0.length : Int)) then
  if (0 : Int) ≤ v28 ∧ v28 < (p0.length : Int) then
   some (List.getD p0 v28.toNat (0, 0)) >>= fun o67 =>
   if (p0.length : Int) = 0 then none else
   if (0 : Int) ≤ Int.tmod (w64 (v28 + 1)) (p0.length : Int) ∧ Int.tmod (w64 (v28 + 1)) (p0.length : Int) < (p0.length : Int) then
    some (List.getD p0 (Int.tmod (w64 (v28 + 1)) (p0.length : Int)).toNat (0, 0)) >>= fun o71 =>
    (
     if (w64 (v28 + 1)) == (p0.length : Int) then
      some (w64 (o71.1 + 3600))
     else
      some o71.1
    : Option Int) >>= fun m76 =>
    F72 m76 o71.2 >>= fun r78 =>
    F72 o67.1 o67.2 >>= fun r80 =>
    (
     if decide (r78 ≤ r80) then
      if List.length v30 ≤ 1000000000 then
       some (v30 ++ [v29])
      else none
     else
      some v30
    : Option (List Int)) >>= fun m85 =>
    F60l0 p0 (w64 (v28 + 1)) m85 (w64 (v29 + 1))
   else none
  else none
 else
  some (v30, v29)
 partial_fixpoint
def F60 (p0 : List I2) : Option (List Int) :=
 F60l0 p0 0 ([]) 0 >>= fun r90 =>
 some r90.1
def V60 (b : Nat) (r : List Int) : Value := accV (b + 0) r.length
def N60 (b : Nat) (r : List Int) : List Blk := [ab 3 e3 r]
def P60l0 (p0 : List I2) (r : (List Int) × Int) : Post := fun e a h => e = .exit 0 ∧ Wk Pg 1 6 a h (st 36 []) [ab 55 e55 p0, cl 34 [accV 6 r.1.length], cl 3 [iv r.2], cl 23 [sl 0 p0], .mark, .loop (S60_10).tmps [9, 10] c60.s2.s2.s2.s1.s2.bd.ras c60.s2.s2.s2.s1.s2.bd.rbd .ready none, ab 3 e3 r.1]
theorem L60l0 (p0 : List I2) (v28 : Int) (v30 : List Int) (v29 : Int) (r : (List Int) × Int) (hF : F60l0 p0 v28 v30 v29 = some r) : TL Pg 1 6 c60f98.s2.bd.bd (S60_7 p0 v28) (H60_3 p0 v30 v29) (P60l0 p0 r) := by
 refine F60l0.partial_correctness p0 (motive := fun v28 v30 v29 r => TL Pg 1 6 c60f98.s2.bd.bd (S60_7 p0 v28) (H60_3 p0 v30 v29) (P60l0 p0 r)) ?_ v28 v30 v29 r hF
 clear hF r v28 v30 v29
 intro again ih v28 v30 v29 r hF
 refine TL.round (TS.sq (TS.rg (TI.ra 1 [0, 1, 6, 7, 8, 9] (st 36 [(0, .func (.yield 5) #[] #[]), (1, pt 3 0), (6, sl 0 p0), (7, iv (p0.length : Int)), (8, iv v28), (9, .bool (decide (v28 < (p0.length : Int))))]) (TI.dq (TS.sq ?_)))))
 refine TS.cd (.tmp 9) (decide (v28 < (p0.length : Int))) (fun hc65 => ?_) (fun hc65 => ?_)
 · replace hF := of_pos hF hc65
   refine TS.sk (NX.sq (TS.sq (TS.bk 1 (TS.sq ?_))))
   obtain ⟨hg66, hF⟩ := of_guard hF
   obtain ⟨o67, h68, hF⟩ := of_do hF
   replace h68 := sj h68
   refine TS.rg (TI.ra 1 [0, 1, 6, 7, 8, 10] (st 36 [(0, .func (.yield 5) #[] #[]), (1, pt 3 0), (6, sl 0 p0), (7, iv (p0.length : Int)), (8, iv v28), (10, iv v28)]) (TI.o { val := pt 0 (0 + v28.toNat * 2) } (q_ixS 0 0 (v28.toNat * 2) (by kernel_rfl) hg66) [0, 1, 6, 7, 8, 10, 11] [0, 1, 2, 3, 4, 5, 6] (st 36 [(0, .func (.yield 5) #[] #[]), (1, pt 3 0), (6, sl 0 p0), (7, iv (p0.length : Int)), (8, iv v28), (10, iv v28), (11, pt 0 (0 + v28.toNat * 2))]) (H60_3 p0 v30 v29) (TI.o { val := ag [iv o67.1, iv o67.2] } (q_nAa Pg (H60_3 p0 v30 v29) 55 0 (0 + v28.toNat * 2) p0 e55 2 55 v28.toNat (0, 0) h68) [0, 1, 6, 7, 8, 10, 12] [0, 1, 2, 3, 4, 5, 6] (st 36 [(0, .func (.yield 5) #[] #[]), (1, pt 3 0), (6, sl 0 p0), (7, iv (p0.length : Int)), (8, iv v28), (10, iv v28), (12, ag [iv o67.1, iv o67.2])]) (H60_3 p0 v30 v29) (TI.rn 3 [0, 1, 3, 4, 6, 7, 8] [0, 1, 2, 3, 4, 5, 6, 7] (st 36 [(0, .func (.yield 5) #[] #[]), (1, pt 3 0), (3, iv v28), (4, pt 7 0), (6, sl 0 p0), (7, iv (p0.length : Int)), (8, iv v28)]) (H60_2 p0 v30 v29 o67) (TI.dq (TS.sq ?_))))))
   obtain ⟨hg69, hF⟩ := of_guardn hF
   obtain ⟨hg70, hF⟩ := of_guard hF
   obtain ⟨o71, h72, hF⟩ := of_do hF
   replace h72 := sj h72
   refine TS.dp [] (fun e he => by cases he) mixed 9 [0, 1, 3, 4, 5, 6, 7, 8] [0, 1, 2, 3, 4, 5, 6, 7, 8] (st 36 [(0, .func (.yield 5) #[] #[]), (1, pt 3 0), (3, iv v28), (4, pt 7 0), (5, pt 8 0), (6, sl 0 p0), (7, iv (p0.length : Int)), (8, iv v28)]) [ab 55 e55 p0, cl 34 [accV 6 v30.length], cl 3 [iv v29], cl 23 [sl 0 p0], .mark, .loop (S60_10).tmps [9, 10] c60.s2.s2.s2.s1.s2.bd.ras c60.s2.s2.s2.s1.s2.bd.rbd .ready none, ab 3 e3 v30, cl 55 [iv o67.1, iv o67.2], cl 55 [iv o71.1, iv o71.2]] ?_ ?_
   · exact QJ.rn (qs (st 36 [(0, .func (.yield 5) #[] #[]), (1, pt 3 0), (3, iv v28), (4, pt 7 0), (6, sl 0 p0), (7, iv (p0.length : Int)), (8, iv v28), (13, sl 0 p0), (14, iv v28), (15, iv (w64 (v28 + 1))), (16, sl 0 p0), (17, iv (p0.length : Int))]) (H60_2 p0 v30 v29 o67) [] []) 5 (QJ.o { val := iv (Int.tmod (w64 (v28 + 1)) (p0.length : Int)) } (q_int (P := Pg) (op := .rem) (ty := 3) (ox := (.tmp 15)) (oy := (.tmp 17)) (k := .i64) (k' := .i64) (y := w64 (v28 + 1)) (z := (p0.length : Int)) (by kernel_rfl) (rem_ok hg69)) (QJ.o { val := pt 0 (0 + (Int.tmod (w64 (v28 + 1)) (p0.length : Int)).toNat * 2) } (q_ixS 0 0 ((Int.tmod (w64 (v28 + 1)) (p0.length : Int)).toNat * 2) (by kernel_rfl) hg70) (QJ.o { val := ag [iv o71.1, iv o71.2] } (q_nAa Pg (H60_2 p0 v30 v29 o67) 55 0 (0 + (Int.tmod (w64 (v28 + 1)) (p0.length : Int)).toNat * 2) p0 e55 2 55 (Int.tmod (w64 (v28 + 1)) (p0.length : Int)).toNat (0, 0) h72) (QJ.rn (qs (st 36 [(0, .func (.yield 5) #[] #[]), (1, pt 3 0), (3, iv v28), (4, pt 7 0), (5, pt 8 0), (6, sl 0 p0), (7, iv (p0.length : Int)), (8, iv v28), (13, sl 0 p0), (14, iv v28), (15, iv (w64 (v28 + 1))), (16, sl 0 p0), (17, iv (p0.length : Int)), (18, iv (Int.tmod (w64 (v28 + 1)) (p0.length : Int))), (19, pt 0 (0 + (Int.tmod (w64 (v28 + 1)) (p0.length : Int)).toNat * 2)), (20, ag [iv o71.1, iv o71.2])]) [ab 55 e55 p0, cl 34 [accV 6 v30.length], cl 3 [iv v29], cl 23 [sl 0 p0], .mark, .loop (S60_10).tmps [9, 10] c60.s2.s2.s2.s1.s2.bd.ras c60.s2.s2.s2.s1.s2.bd.rbd .ready none, ab 3 e3 v30, cl 55 [iv o67.1, iv o67.2], cl 55 [iv 0, iv 0]] [(8, 8, 9)] []) 1 (QJ.dn ⟨rfl, SJ.la⟩)))))
   refine TS.sq (TS.sq (TS.rg (TI.ra 5 [0, 1, 4, 5, 6, 7, 8, 25] (st 36 [(0, .func (.yield 5) #[] #[]), (1, pt 3 0), (4, pt 7 0), (5, pt 8 0), (6, sl 0 p0), (7, iv (p0.length : Int)), (8, iv v28), (25, .bool ((w64 (v28 + 1)) == (p0.length : Int)))]) (TI.dq ?_))))
   obtain ⟨m76, hm77, hF⟩ := of_do hF
   have hK : NX Pg 1 6 [.sq c60f98.s2.bd.bd.s2.s2.s1.bd.s2.s2.s2, .bk 1, .sq c60f98.s2.bd.bd.s2.s2.s2] (Rd Pg 1 6 c60f98.s2.bd.bd (P60l0 p0 r)) .normal (S60_5 p0 v28) [ab 55 e55 p0, cl 34 [accV 6 v30.length], cl 3 [iv v29], cl 23 [sl 0 p0], .mark, .loop (S60_10).tmps [9, 10] c60.s2.s2.s2.s1.s2.bd.ras c60.s2.s2.s2.s1.s2.bd.rbd .ready none, ab 3 e3 v30, cl 55 [iv o67.1, iv o67.2], cl 55 [iv m76, iv o71.2]] := by
    refine NX.sq (TS.sq (TS.rg (TI.rn 3 [0, 1, 6, 7, 8, 30, 31, 32] [0, 1, 2, 3, 4, 5, 6] (S60_4 p0 v28 o67 m76 o71) [ab 55 e55 p0, cl 34 [accV 6 v30.length], cl 3 [iv v29], cl 23 [sl 0 p0], .mark, .loop (S60_10).tmps [9, 10] c60.s2.s2.s2.s1.s2.bd.ras c60.s2.s2.s2.s1.s2.bd.rbd .ready none, ab 3 e3 v30, .dead, .dead] (TI.yield (l := 5) (n := 9) (args := [ag [iv o67.1, iv o67.2], ag [iv m76, iv o71.2]]) (t := (S60_10).tmps) (p := [9, 10]) («as» := c60.s2.s2.s2.s1.s2.bd.ras) (bd := c60.s2.s2.s2.s1.s2.bd.rbd) (a2 := (st 23 [(2, .slice none 0 0), (3, pt 1 0), (4, pt 2 0), (8, .func (.func 98) ⟨[]⟩ ⟨[pt 3 0]⟩), (9, ag [iv o67.1, iv o67.2]), (10, ag [iv m76, iv o71.2])])) (by kernel_rfl) (by kernel_rfl) (by decide) rfl (by kernel_rfl) (by kernel_rfl) (TS.sq (TS.rg (TI.rn 2 [3, 4, 5, 10] [0, 1, 2, 3, 4, 5, 6, 9] (st 23 [(3, pt 1 0), (4, pt 2 0), (5, pt 9 0), (10, ag [iv m76, iv o71.2])]) [ab 55 e55 p0, cl 34 [accV 6 v30.length], cl 3 [iv v29], cl 23 [sl 0 p0], .mark, .loop (S60_10).tmps [9, 10] c60.s2.s2.s2.s1.s2.bd.ras c60.s2.s2.s2.s1.s2.bd.rbd .ready none, ab 3 e3 v30, .dead, .dead, cl 55 [iv o67.1, iv o67.2]] (TI.dn ?_))))))))
    refine NX.sq (TS.rg (TI.rn 2 [3, 4, 5, 6] [0, 1, 2, 3, 4, 5, 6, 9, 10] (st 23 [(3, pt 1 0), (4, pt 2 0), (5, pt 9 0), (6, pt 10 0)]) [ab 55 e55 p0, cl 34 [accV 6 v30.length], cl 3 [iv v29], cl 23 [sl 0 p0], .mark, .loop (S60_10).tmps [9, 10] c60.s2.s2.s2.s1.s2.bd.ras c60.s2.s2.s2.s1.s2.bd.rbd .ready none, ab 3 e3 v30, .dead, .dead, cl 55 [iv o67.1, iv o67.2], cl 55 [iv m76, iv o71.2]] (TI.dn ?_)))
    refine ⟨rfl, (S60_10).tmps, [9, 10], c60.s2.s2.s2.s1.s2.bd.ras, c60.s2.s2.s2.s1.s2.bd.rbd, by kernel_rfl, (TS.bk 1 (TS.sq (TS.sq ?_)))⟩
    obtain ⟨r78, h79, hF⟩ := of_do hF
    obtain ⟨r80, h81, hF⟩ := of_do hF
    have hT : ∀ e ∈ ([⟨72, [ag [iv m76, iv o71.2]], (H60_0 p0 v30 v29 o67 m76 o71), iv r78, []⟩, ⟨72, [ag [iv o67.1, iv o67.2]], (H60_0 p0 v30 v29 o67 m76 o71), iv r80, []⟩] : List Entry), PureSim Pg e.g e.args e.h e.v e.new := by
     intro e he
     simp only [List.mem_cons, List.not_mem_nil, or_false] at he
     rcases he with rfl | rfl
     · exact PureSim.ak (C72 _ _ _ h79)
     exact PureSim.ak (C72 _ _ _ h81)
    refine TS.dp [⟨72, [ag [iv m76, iv o71.2]], (H60_0 p0 v30 v29 o67 m76 o71), iv r78, []⟩, ⟨72, [ag [iv o67.1, iv o67.2]], (H60_0 p0 v30 v29 o67 m76 o71), iv r80, []⟩] hT mixed 3 [3, 4, 15] [0, 1, 2, 3, 4, 5, 6] (st 23 [(3, pt 1 0), (4, pt 2 0), (15, .bool (decide (r78 ≤ r80)))]) [ab 55 e55 p0, cl 34 [accV 6 v30.length], cl 3 [iv v29], cl 23 [sl 0 p0], .mark, .loop (S60_10).tmps [9, 10] c60.s2.s2.s2.s1.s2.bd.ras c60.s2.s2.s2.s1.s2.bd.rbd .busy none, ab 3 e3 v30, .dead, .dead, .dead, .dead] ?_ ?_
    · refine QJ.rn (qs (st 23 [(3, pt 1 0), (4, pt 2 0), (5, pt 9 0), (6, pt 10 0), (11, ag [iv m76, iv o71.2])]) (H60_0 p0 v30 v29 o67 m76 o71) [] []) 1 (QJ.o { val := iv r78, new := [] } (qOf_call (g := 72) (args := [ag [iv m76, iv o71.2]]) (by kernel_rfl) lookC_hit) (QJ.rn (qs (st 23 [(3, pt 1 0), (4, pt 2 0), (5, pt 9 0), (6, pt 10 0), (11, ag [iv m76, iv o71.2]), (12, iv r78), (13, ag [iv o67.1, iv o67.2])]) (H60_0 p0 v30 v29 o67 m76 o71) [] []) 1 (QJ.dn ⟨rfl, ?_⟩)))
      exact SJ.o { val := iv r80, new := [] } (qOf_call (g := 72) (args := [ag [iv o67.1, iv o67.2]]) (by kernel_rfl) (lookC_skip (by intro _ ha hh; first | (exact absurd (congrArg List.length hh) (Nat.ne_of_beq_eq_false rfl)) | (have hr := sj (h79.symm.trans (Eq.trans (congr (congrArg F72 (show m76 = o67.1 from congrArg (leafI 0) ha)) (show o71.2 = o67.2 from congrArg (leafI 1) ha)) h81)); first | (subst hr; rfl) | (cases hr; done) | (cases hr; rfl))) lookC_hit)) SJ.la
    obtain ⟨m85, hm86, hF⟩ := of_do hF
    have hK : NX Pg 1 9 [.sq c60.s2.s2.s2.s1.s2.bd.rbd.bd.s2, .bk 1] (YB 5 (fun v h3 => TI Pg 1 6 c60f98.s2.bd.bd.s2.s2.s1.bd.s2.s2.s2.s1.rops 4 (putAt c60f98.s2.bd.bd.s2.s2.s1.bd.s2.s2.s2.s1.rops 3 (S60_4 p0 v28 o67 m76 o71) v) h3 (NX Pg 1 6 [.sq c60f98.s2.bd.bd.s2.s2.s1.bd.s2.s2.s2.s2, .bk 1, .sq c60f98.s2.bd.bd.s2.s2.s2] (Rd Pg 1 6 c60f98.s2.bd.bd (P60l0 p0 r)) .normal))) .normal (st 23 [(4, pt 2 0)]) [ab 55 e55 p0, cl 34 [accV 9 m85.length], cl 3 [iv v29], cl 23 [sl 0 p0], .mark, .loop (S60_10).tmps [9, 10] c60.s2.s2.s2.s1.s2.bd.ras c60.s2.s2.s2.s1.s2.bd.rbd .busy none, .dead, .dead, .dead, ab 3 e3 m85] := by
     refine NX.sq (TS.rg (TI.rn 3 [] [0, 1, 2, 3, 4, 5, 9] (st 23 []) [ab 55 e55 p0, cl 34 [accV 9 m85.length], cl 3 [iv (w64 (v29 + 1))], cl 23 [sl 0 p0], .mark, .loop (S60_10).tmps [9, 10] c60.s2.s2.s2.s1.s2.bd.ras c60.s2.s2.s2.s1.s2.bd.rbd .busy none, .dead, .dead, .dead, ab 3 e3 m85] (TI.dn (NX.bk ?_))))
     refine ⟨.bool true, (H60_1 p0 m85 v29), by kernel_rfl, (TI.rn 0 [0, 1, 6, 7, 8, 33] [0, 1, 2, 3, 4, 5, 9] (st 36 [(0, .func (.yield 5) #[] #[]), (1, pt 3 0), (6, sl 0 p0), (7, iv (p0.length : Int)), (8, iv v28), (33, .bool true)]) (H60_1 p0 m85 v29) (TI.ra 1 [0, 1, 6, 7, 8, 34] (st 36 [(0, .func (.yield 5) #[] #[]), (1, pt 3 0), (6, sl 0 p0), (7, iv (p0.length : Int)), (8, iv v28), (34, .bool false)]) (TI.dq (TS.cdF (.tmp 34) (TS.sk (NX.bk (NX.sq ?_)))))))⟩
     refine TS.rg (TI.ra 2 [0, 1, 6, 7, 8] (S60_6 p0 v28) (TI.dn ?_))
     exact Rd.again (a2 := (S60_6 p0 v28)) (h2 := [ab 55 e55 p0, cl 34 [accV 6 m85.length], cl 3 [iv (w64 (v29 + 1))], cl 23 [sl 0 p0], .mark, .loop (S60_10).tmps [9, 10] c60.s2.s2.s2.s1.s2.bd.ras c60.s2.s2.s2.s1.s2.bd.rbd .ready none, ab 3 e3 m85]) (Wk.an [9] (.ac (.lt (.cons (Rn.acc (nl rfl) rfl) .nil) (.lt (.fl .nil) (.lt (.sl .nil) (.cons (At.blk (by kernel_rfl) RnB.mark) (.cons (At.blk (b1 := .loop (S60_10).tmps [9, 10] c60.s2.s2.s2.s1.s2.bd.ras c60.s2.s2.s2.s1.s2.bd.rbd .ready none) (by kernel_rfl) (RnB.loop _ _ _ _ _ _ _ (LRn.stx [2, 3, 4, 8] [.slice none 0 0, pt 1 0, pt 2 0, .func (.func 98) ⟨[]⟩ ⟨[pt 3 0]⟩] [.slice none 0 0, pt 1 0, pt 2 0, .func (.func 98) ⟨[]⟩ ⟨[pt 3 0]⟩] (.fl (.pp (.pp (.cons (Rn.func' .nil (.pp .nil)) .nil)))) (by kernel_rfl) (by kernel_rfl) rfl))) (.ac (.nil _)))))))) [.func (.yield 5) #[] #[], pt 3 0, sl 0 p0, iv (p0.length : Int), iv (w64 (v28 + 1))] (.cons (Rn.yield _ (nl rfl)) (.pp (.sl (.fl (.fl .nil)))))) (ih (w64 (v28 + 1)) m85 (w64 (v29 + 1)) _ hF)
    clear hF
    have hF := hm86
    clear hm86
    refine TS.start ?_
    refine TS.cd (.tmp 15) (decide (r78 ≤ r80)) (fun hc87 => ?_) (fun hc87 => ?_)
    · replace hF := of_pos hF hc87
      obtain ⟨hg88, hF⟩ := of_guard hF
      refine TS.rg (TI.rn 3 [3, 4, 16, 18] [0, 1, 2, 3, 4, 5, 6, 11] (st 23 [(3, pt 1 0), (4, pt 2 0), (16, accV 6 v30.length), (18, sv 11 1 1)]) [ab 55 e55 p0, cl 34 [accV 6 v30.length], cl 3 [iv v29], cl 23 [sl 0 p0], .mark, .loop (S60_10).tmps [9, 10] c60.s2.s2.s2.s1.s2.bd.ras c60.s2.s2.s2.s1.s2.bd.rbd .busy none, ab 3 e3 v30, .dead, .dead, .dead, .dead, cl 3 [iv v29]] (TI.acc (l := v30) (b := 6) (ts := #[34, 34]) (e := 3) (bytes := 8) (z := iv 0) (y := sv 11 1 1) (ys := [v29]) (xs := List.flatMap e3 ([v29])) (m := 1) (s := 1) (enc := e3) (by kernel_rfl) (by kernel_rfl) (by decide) (by kernel_rfl) (by kernel_rfl) (by kernel_rfl) (by kernel_rfl) (by kernel_rfl) (by kernel_rfl) (by kernel_rfl) (by kernel_rfl) (fun _ => rfl) rfl rfl (by omega) [3, 4, 19] [0, 1, 2, 3, 4, 5, 12] (a2 := (st 23 [(3, pt 1 0), (4, pt 2 0), (19, sv 12 (List.length (v30 ++ [v29])) UNK)])) (h2 := [ab 55 e55 p0, cl 34 [accV 6 v30.length], cl 3 [iv v29], cl 23 [sl 0 p0], .mark, .loop (S60_10).tmps [9, 10] c60.s2.s2.s2.s1.s2.bd.ras c60.s2.s2.s2.s1.s2.bd.rbd .busy none, .dead, .dead, .dead, .dead, .dead, .dead, lb3 (v30 ++ [v29])]) (by kernel_rfl) (TI.rn 1 [4] [0, 1, 2, 3, 4, 5, 12] (st 23 [(4, pt 2 0)]) [ab 55 e55 p0, cl 34 [sv 12 (List.length (v30 ++ [v29])) UNK], cl 3 [iv v29], cl 23 [sl 0 p0], .mark, .loop (S60_10).tmps [9, 10] c60.s2.s2.s2.s1.s2.bd.ras c60.s2.s2.s2.s1.s2.bd.rbd .busy none, .dead, .dead, .dead, .dead, .dead, .dead, lb3 (v30 ++ [v29])] (TI.dn ?_))))
      have hF := sj hF
      subst hF
      exact TS.weak (by exact (Wk.an [12] (.ac (.lt (.cons (Rn.accU (nl rfl) rfl (by simp)) .nil) (.lt (.fl .nil) (.lt (.sl .nil) (.cons (At.blk (by kernel_rfl) RnB.mark) (.cons (At.blk (b1 := .loop (S60_10).tmps [9, 10] c60.s2.s2.s2.s1.s2.bd.ras c60.s2.s2.s2.s1.s2.bd.rbd .busy none) (by kernel_rfl) (RnB.loop _ _ _ _ _ _ _ (LRn.stx [2, 3, 4, 8] [.slice none 0 0, pt 1 0, pt 2 0, .func (.func 98) ⟨[]⟩ ⟨[pt 3 0]⟩] [.slice none 0 0, pt 1 0, pt 2 0, .func (.func 98) ⟨[]⟩ ⟨[pt 3 0]⟩] (.fl (.pp (.pp (.cons (Rn.func' .nil (.pp .nil)) .nil)))) (by kernel_rfl) (by kernel_rfl) rfl))) (.cons (.inl rfl) (.cons (.inl rfl) (.cons (.inl rfl) (.cons (At.accU (by kernel_rfl) rfl (fun _ => rfl)) (.nil _))))))))))) [pt 2 0] (.pp .nil))) hK
    replace hF := of_neg hF hc87
    refine TS.sk ?_
    have hF := sj hF
    subst hF
    exact TS.weak (by exact (Wk.anD [6] (.ac (.lt (.cons (Rn.acc (nl rfl) rfl) .nil) (.lt (.fl .nil) (.lt (.sl .nil) (.cons (At.blk (by kernel_rfl) RnB.mark) (.cons (At.blk (b1 := .loop (S60_10).tmps [9, 10] c60.s2.s2.s2.s1.s2.bd.ras c60.s2.s2.s2.s1.s2.bd.rbd .busy none) (by kernel_rfl) (RnB.loop _ _ _ _ _ _ _ (LRn.stx [2, 3, 4, 8] [.slice none 0 0, pt 1 0, pt 2 0, .func (.func 98) ⟨[]⟩ ⟨[pt 3 0]⟩] [.slice none 0 0, pt 1 0, pt 2 0, .func (.func 98) ⟨[]⟩ ⟨[pt 3 0]⟩] (.fl (.pp (.pp (.cons (Rn.func' .nil (.pp .nil)) .nil)))) (by kernel_rfl) (by kernel_rfl) rfl))) (.cons (.inl rfl) (.cons (.inl rfl) (.cons (.inl rfl) (.ac (.nil _))))))))))) [pt 2 0] (.pp .nil))) hK
   clear hF
   have hF := hm77
   clear hm77
   refine TS.start ?_
   refine TS.cd (.tmp 25) ((w64 (v28 + 1)) == (p0.length : Int)) (fun hc89 => ?_) (fun hc89 => ?_)
   · replace hF := of_pos hF hc89
     refine TS.rg (TI.rn 5 [0, 1, 4, 5, 6, 7, 8] [0, 1, 2, 3, 4, 5, 6, 7, 8] (S60_5 p0 v28) [ab 55 e55 p0, cl 34 [accV 6 v30.length], cl 3 [iv v29], cl 23 [sl 0 p0], .mark, .loop (S60_10).tmps [9, 10] c60.s2.s2.s2.s1.s2.bd.ras c60.s2.s2.s2.s1.s2.bd.rbd .ready none, ab 3 e3 v30, cl 55 [iv o67.1, iv o67.2], cl 55 [iv (w64 (o71.1 + 3600)), iv o71.2]] (TI.dn ?_))
     have hF := sj hF
     subst hF
     exact TS.weak (by exact (Wk.an [6, 7, 8] (.ac (.lt (.cons (Rn.acc (nl rfl) rfl) .nil) (.lt (.fl .nil) (.lt (.sl .nil) (.cons (At.blk (by kernel_rfl) RnB.mark) (.cons (At.blk (b1 := .loop (S60_10).tmps [9, 10] c60.s2.s2.s2.s1.s2.bd.ras c60.s2.s2.s2.s1.s2.bd.rbd .ready none) (by kernel_rfl) (RnB.loop _ _ _ _ _ _ _ (LRn.stx [2, 3, 4, 8] [.slice none 0 0, pt 1 0, pt 2 0, .func (.func 98) ⟨[]⟩ ⟨[pt 3 0]⟩] [.slice none 0 0, pt 1 0, pt 2 0, .func (.func 98) ⟨[]⟩ ⟨[pt 3 0]⟩] (.fl (.pp (.pp (.cons (Rn.func' .nil (.pp .nil)) .nil)))) (by kernel_rfl) (by kernel_rfl) rfl))) (.ac (.lt (.fl (.fl .nil)) (.lt (.fl (.fl .nil)) (.nil _)))))))))) [.func (.yield 5) #[] #[], pt 3 0, pt 7 0, pt 8 0, sl 0 p0, iv (p0.length : Int), iv v28] (.cons (Rn.yield _ (nl rfl)) (.pp (.pp (.pp (.sl (.fl (.fl .nil))))))))) hK
   replace hF := of_neg hF hc89
   refine TS.sk ?_
   have hF := sj hF
   subst hF
   exact TS.weak (by exact (Wk.an [6, 7, 8] (.ac (.lt (.cons (Rn.acc (nl rfl) rfl) .nil) (.lt (.fl .nil) (.lt (.sl .nil) (.cons (At.blk (by kernel_rfl) RnB.mark) (.cons (At.blk (b1 := .loop (S60_10).tmps [9, 10] c60.s2.s2.s2.s1.s2.bd.ras c60.s2.s2.s2.s1.s2.bd.rbd .ready none) (by kernel_rfl) (RnB.loop _ _ _ _ _ _ _ (LRn.stx [2, 3, 4, 8] [.slice none 0 0, pt 1 0, pt 2 0, .func (.func 98) ⟨[]⟩ ⟨[pt 3 0]⟩] [.slice none 0 0, pt 1 0, pt 2 0, .func (.func 98) ⟨[]⟩ ⟨[pt 3 0]⟩] (.fl (.pp (.pp (.cons (Rn.func' .nil (.pp .nil)) .nil)))) (by kernel_rfl) (by kernel_rfl) rfl))) (.ac (.lt (.fl (.fl .nil)) (.lt (.fl (.fl .nil)) (.nil _)))))))))) [.func (.yield 5) #[] #[], pt 3 0, pt 7 0, pt 8 0, sl 0 p0, iv (p0.length : Int), iv v28] (.cons (Rn.yield _ (nl rfl)) (.pp (.pp (.pp (.sl (.fl (.fl .nil))))))))) hK
 replace hF := of_neg hF hc65
 refine TS.ex 0 (NX.sqX ?_)
 have hF := sj hF
 subst hF
 exact Rd.out (e := .exit 0) (by intro h; cases h) (And.intro rfl (Wk.an [6] (.ac (.lt (.cons (Rn.acc (nl rfl) rfl) .nil) (.lt (.fl .nil) (.lt (.sl .nil) (.cons (At.blk (by kernel_rfl) RnB.mark) (.cons (At.blk (b1 := .loop (S60_10).tmps [9, 10] c60.s2.s2.s2.s1.s2.bd.ras c60.s2.s2.s2.s1.s2.bd.rbd .ready none) (by kernel_rfl) (RnB.loop _ _ _ _ _ _ _ (LRn.stx [2, 3, 4, 8] [.slice none 0 0, pt 1 0, pt 2 0, .func (.func 98) ⟨[]⟩ ⟨[pt 3 0]⟩] [.slice none 0 0, pt 1 0, pt 2 0, .func (.func 98) ⟨[]⟩ ⟨[pt 3 0]⟩] (.fl (.pp (.pp (.cons (Rn.func' .nil (.pp .nil)) .nil)))) (by kernel_rfl) (by kernel_rfl) rfl))) (.ac (.nil _)))))))) [] .nil))
theorem B60 (p0 : List I2) (r : List Int) (hF : F60 p0 = some r) : TS0 Pg 1 1 c60 (st 23 [(0, sl 0 p0)]) [ab 55 e55 p0] (NX0 Pg 1 1 [] (FinM Pg Try.f60 1 (V60 1 r) (N60 1 r))) := by
 unfold F60 at hF
 refine TS0.sqP (by kernel_rfl) (TS0.piece (TS.rg (TI.ra 1 [0, 2] (st 23 [(0, sl 0 p0), (2, .slice none 0 0)]) (TI.dn (NX.z (NX0.sq (TS0.sqP (by kernel_rfl) (TS0.piece ?_))))))))
 refine TS.rg (TI.rn 1 [0, 2, 3] [0, 1] (st 23 [(0, sl 0 p0), (2, .slice none 0 0), (3, pt 1 0)]) [ab 55 e55 p0, cl 34 [.slice none 0 0]] (TI.dn (NX.z (NX0.sq (TS0.sqP (by kernel_rfl) (TS0.piece (TS.rg (TI.rn 2 [0, 2, 3, 4] [0, 1, 2] (st 23 [(0, sl 0 p0), (2, .slice none 0 0), (3, pt 1 0), (4, pt 2 0)]) [ab 55 e55 p0, cl 34 [.slice none 0 0], cl 3 [iv 0]] ?_))))))))
 refine TI.dn (NX.z (NX0.sq (TS0.sqP (by kernel_rfl) (TS0.sqP (by kernel_rfl) (TS0.piece (TS.rg (TI.ra 1 [2, 3, 4, 7] (st 23 [(2, .slice none 0 0), (3, pt 1 0), (4, pt 2 0), (7, sl 0 p0)]) (TI.inline (g := 88) (args := [sl 0 p0]) (fn := Try.f88) (c := c60f88) (n := 3) (by kernel_rfl) (by kernel_rfl) (by kernel_rfl) (by kernel_rfl) (by kernel_rfl) [0] (a2 := (st 4 [(0, sl 0 p0)])) (by kernel_rfl) ?_))))))))
 refine TS.sq (TS.rg (TI.rn 2 [1] [0, 1, 2, 3] (st 4 [(1, pt 3 0)]) (H60_9 p0) (TI.dq (TS.sq (TS.rg (TI.ra 2 [2] (st 4 [(2, .func (.func 98) ⟨[]⟩ ⟨[pt 3 0]⟩)]) (TI.dn ?_)))))))
 refine NX.sq (TS.rt ?_)
 refine ⟨.inr rfl, rfl, .func (.func 98) ⟨[]⟩ ⟨[pt 3 0]⟩, .func (.func 98) ⟨[]⟩ ⟨[pt 3 0]⟩, (H60_9 p0), by kernel_rfl, WkV.refl, (TI.rn 0 [2, 3, 4, 8] [0, 1, 2, 3] (S60_10) (H60_9 p0) (TI.dn (NX.z (NX0.sq (TS0.bkP (id := 0) (by kernel_rfl) (TS0.rgP (g := (.tmp 8)) (ps := #[9, 10]) (f := 98) (first := #[]) (captured := #[pt 3 0]) (fn := Try.f98) (ci := c60f98) (n := 4) (by kernel_rfl) (by kernel_rfl) (by kernel_rfl) (by kernel_rfl) (by kernel_rfl) (by kernel_rfl) [0, 1] (a2 := (st 36 [(0, .func (.yield 5) #[] #[]), (1, pt 3 0)])) (h2 := [ab 55 e55 p0, cl 34 [.slice none 0 0], cl 3 [iv 0], cl 23 [sl 0 p0], .mark, .loop (S60_10).tmps [9, 10] c60.s2.s2.s2.s1.s2.bd.ras c60.s2.s2.s2.s1.s2.bd.rbd .ready none]) (by kernel_rfl) (by kernel_rfl) (TS.sq (TS.rg ?_))))))))⟩
 refine TI.ra 3 [0, 1, 6, 7, 8] (S60_8 p0) (TI.dq (TS.bk 0 ?_))
 obtain ⟨r90, h91, hF⟩ := of_do hF
 refine TS.lp (TL.weak (a2 := (S60_8 p0)) (h2 := [ab 55 e55 p0, cl 34 [accV 6 (List.length ([]))], cl 3 [iv 0], cl 23 [sl 0 p0], .mark, .loop (S60_10).tmps [9, 10] c60.s2.s2.s2.s1.s2.bd.ras c60.s2.s2.s2.s1.s2.bd.rbd .ready none, accB 3 (List.length ([])) (List.flatMap e3 ([]))]) (Wk.an [6] (.ac (.lt (.cons (Rn.accN) .nil) (.lt (.fl .nil) (.lt (.sl .nil) (.cons (At.blk (by kernel_rfl) RnB.mark) (.cons (At.blk (b1 := .loop (S60_10).tmps [9, 10] c60.s2.s2.s2.s1.s2.bd.ras c60.s2.s2.s2.s1.s2.bd.rbd .ready none) (by kernel_rfl) (RnB.loop _ _ _ _ _ _ _ (LRn.stx [2, 3, 4, 8] [.slice none 0 0, pt 1 0, pt 2 0, .func (.func 98) ⟨[]⟩ ⟨[pt 3 0]⟩] [.slice none 0 0, pt 1 0, pt 2 0, .func (.func 98) ⟨[]⟩ ⟨[pt 3 0]⟩] (.fl (.pp (.pp (.cons (Rn.func' .nil (.pp .nil)) .nil)))) (by kernel_rfl) (by kernel_rfl) rfl))) (.cons At.accN (.nil _)))))))) [.func (.yield 5) #[] #[], pt 3 0, sl 0 p0, iv (p0.length : Int), iv 0] (.cons (Rn.yield _ (nl rfl)) (.pp (.sl (.fl (.fl .nil)))))) (TL.post (L60l0 p0 0 ([]) 0 r90 h91) ?_))
 rintro e a1 h1 hp
 obtain ⟨rfl, hw⟩ := hp
 refine ⟨(st 36 []), [ab 55 e55 p0, cl 34 [accV 6 r90.1.length], cl 3 [iv r90.2], cl 23 [sl 0 p0], .mark, .loop (S60_10).tmps [9, 10] c60.s2.s2.s2.s1.s2.bd.ras c60.s2.s2.s2.s1.s2.bd.rbd .ready none, ab 3 e3 r90.1], (NX.bkX ?_), hw⟩
 refine ⟨.inl rfl, rfl, ⟨.tuple ⟨[]⟩, by kernel_rfl⟩, .inl ⟨(S60_10).tmps, [9, 10], c60.s2.s2.s2.s1.s2.bd.ras, c60.s2.s2.s2.s1.s2.bd.rbd, by kernel_rfl, (NX0.bk (NX0.sq (TS0.startM [3] [0, 1, 4, 6] (a2 := (stm 23 [4] [(3, pt 1 0)])) (h2 := [ab 55 e55 p0, cl 34 [accV 6 r90.1.length], .dead, .dead, .mark, .dead, ab 3 e3 r90.1]) (by kernel_rfl) (TS0.piece (TS.sq (TS.rg (TI.rn 2 [2] [0, 4, 6] (stm 23 [4] [(2, accV 6 r90.1.length)]) [ab 55 e55 p0, .dead, .dead, .dead, .mark, .dead, ab 3 e3 r90.1] (TI.dq ?_))))))))⟩⟩
 refine TS.rt (NX.z ?_)
 have hF := sj hF
 subst hF
 exact ⟨.inr rfl, [ab 55 e55 p0, .dead, .dead, .dead, .dead, .dead, ab 3 e3 r90.1], by kernel_rfl, accV 6 r90.1.length, by kernel_rfl, WkV.made (L := 1) (f := [6]) (by decide) (by decide) rfl (.ac (.nil _)) (Rn.acc (nl rfl) rfl)⟩
theorem C60 (p0 : List I2) (r : List Int) (hF : F60 p0 = some r) : PureSim Pg 60 [sl 0 p0] [ab 55 e55 p0] (V60 1 r) (N60 1 r) :=
 PureSim.of_FinM Try.func60 (c := c60) (by kernel_rfl) (by kernel_rfl) 1 rfl [0] [0] (by kernel_rfl) (B60 p0 r hF)
end
end Go.Proofs.Ythpfffijnkmdgaa
