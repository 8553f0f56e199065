/- What functions of the program compute, and that they do. -/
import Derived.Test.YthpfffijnkmdgaaCE
import Derived.Test.YthpfffijnkmdgaaGiven
set_option linter.unusedVariables false
set_option linter.unusedSimpArgs false
set_option maxRecDepth 100000
set_option maxHeartbeats 4000000
namespace Go.Proofs.Ythpfffijnkmdgaa
open Go Go.Cl
noncomputable section
def e54 (x : I2) : List Value := [.int .i64 x.1, .int .i64 x.2]
abbrev lb54 (l : List (I2)) : Blk := .cells 54 (List.flatMap e54 l)
noncomputable def c16 : Code := Try.f16.code
def H16_0 (p0 v6 : List I2) : List Blk := [ab 55 e55 p0, ab 54 e54 v6]
def F16l0 (p0 v6 : List I2) (v5 : Int) : Option (List I2) :=
 if decide (v5 < (p0.length : Int)) then
  if (0 : Int) ≤ v5 ∧ v5 < (p0.length : Int) then
   some (List.getD p0 v5.toNat (0, 0)) >>= fun o16 =>
   if List.length v6 ≤ 1000000000 then
    F16l0 p0 (v6 ++ [(o16.1, o16.2)]) (w64 (v5 + 1))
   else none
  else none
 else
  some v6
 partial_fixpoint
def F16 (p0 : List I2) : Option (List I2) :=
 F16l0 p0 ([]) 0 >>= fun r19 =>
 some r19
def V16 (b : Nat) (r : List I2) : Value := accV (b + 0) r.length
def N16 (b : Nat) (r : List I2) : List Blk := [ab 54 e54 r]
def P16l0 (p0 r : List I2) : Post := fun e a h => e = .exit 0 ∧ Wk Pg 1 1 a h (st 19 [(3, accV 1 r.length)]) [ab 55 e55 p0, ab 54 e54 r]
theorem L16l0 (p0 v6 : List I2) (v5 : Int) (r : List I2) (hF : F16l0 p0 v6 v5 = some r) : TL Pg 1 1 c16.s2.s2.s1.s2.bd.bd (st 19 [(0, sl 0 p0), (3, accV 1 v6.length), (4, iv v5)]) (H16_0 p0 v6) (P16l0 p0 r) := by
 refine F16l0.partial_correctness p0 (motive := fun v6 v5 r => TL Pg 1 1 c16.s2.s2.s1.s2.bd.bd (st 19 [(0, sl 0 p0), (3, accV 1 v6.length), (4, iv v5)]) (H16_0 p0 v6) (P16l0 p0 r)) ?_ v6 v5 r hF
 clear hF r v6 v5
 intro again ih v6 v5 r hF
 refine TL.round (TS.sq (TS.sq (TS.rg (TI.ra 4 [0, 3, 4, 8] (st 19 [(0, sl 0 p0), (3, accV 1 v6.length), (4, iv v5), (8, .bool (decide (v5 < (p0.length : Int))))]) (TI.dq ?_)))))
 refine TS.cd (.tmp 8) (decide (v5 < (p0.length : Int))) (fun hc14 => ?_) (fun hc14 => ?_)
 · replace hF := of_pos hF hc14
   refine TS.sk (NX.sq (TS.sq (TS.bk 1 ?_)))
   obtain ⟨hg15, hF⟩ := of_guard hF
   obtain ⟨o16, h17, hF⟩ := of_do hF
   replace h17 := sj h17
   obtain ⟨hg18, hF⟩ := of_guard hF
   refine TS.rg (TI.ra 3 [0, 4, 11, 12, 13] (st 19 [(0, sl 0 p0), (4, iv v5), (11, accV 1 v6.length), (12, sl 0 p0), (13, iv v5)]) (TI.o { val := pt 0 (0 + v5.toNat * 2) } (q_ixS 0 0 (v5.toNat * 2) (by kernel_rfl) hg15) [0, 4, 11, 14] [0, 1] (st 19 [(0, sl 0 p0), (4, iv v5), (11, accV 1 v6.length), (14, pt 0 (0 + v5.toNat * 2))]) (H16_0 p0 v6) (TI.o { val := ag [iv o16.1, iv o16.2] } (q_nAa Pg (H16_0 p0 v6) 55 0 (0 + v5.toNat * 2) p0 e55 2 55 v5.toNat (0, 0) h17) [0, 4, 11, 15] [0, 1] (st 19 [(0, sl 0 p0), (4, iv v5), (11, accV 1 v6.length), (15, ag [iv o16.1, iv o16.2])]) (H16_0 p0 v6) (TI.rn 1 [0, 4, 11, 16] [0, 1, 2] (st 19 [(0, sl 0 p0), (4, iv v5), (11, accV 1 v6.length), (16, sv 2 1 1)]) [ab 55 e55 p0, ab 54 e54 v6, cl 54 [iv o16.1, iv o16.2]] (TI.acc (l := v6) (b := 1) (ts := #[26, 26]) (e := 54) (bytes := 16) (z := ag [iv 0, iv 0]) (y := sv 2 1 1) (ys := [(o16.1, o16.2)]) (xs := List.flatMap e54 ([(o16.1, o16.2)])) (m := 1) (s := 2) (enc := e54) (by kernel_rfl) (by kernel_rfl) (by decide) (by kernel_rfl) (by kernel_rfl) (by kernel_rfl) (by kernel_rfl) (by kernel_rfl) (by kernel_rfl) (by kernel_rfl) (by kernel_rfl) (fun _ => rfl) rfl rfl (by omega) [0, 4, 17] [0, 3] (a2 := (st 19 [(0, sl 0 p0), (4, iv v5), (17, sv 3 (List.length (v6 ++ [(o16.1, o16.2)])) UNK)])) (h2 := [ab 55 e55 p0, .dead, .dead, lb54 (v6 ++ [(o16.1, o16.2)])]) (by kernel_rfl) (TI.ra 1 [0, 3, 4] (st 19 [(0, sl 0 p0), (3, sv 3 (List.length (v6 ++ [(o16.1, o16.2)])) UNK), (4, iv v5)]) (TI.dn (NX.bk ?_))))))))
   refine NX.sq (TS.rg (TI.ra 3 [0, 3, 4] (st 19 [(0, sl 0 p0), (3, sv 3 (List.length (v6 ++ [(o16.1, o16.2)])) UNK), (4, iv (w64 (v5 + 1)))]) (TI.dn ?_)))
   exact Rd.again (a2 := (st 19 [(0, sl 0 p0), (3, accV 1 (List.length (v6 ++ [(o16.1, o16.2)]))), (4, iv (w64 (v5 + 1)))])) (h2 := [ab 55 e55 p0, accB 54 (List.length (v6 ++ [(o16.1, o16.2)])) (List.flatMap e54 (v6 ++ [(o16.1, o16.2)]))]) (Wk.an [3] (.ac (.cons (At.accU (by kernel_rfl) rfl (fun _ => rfl)) (.nil _))) [sl 0 p0, sv 3 (List.length (v6 ++ [(o16.1, o16.2)])) UNK, iv (w64 (v5 + 1))] (.sl (.cons (Rn.accU (nl rfl) rfl (by simp)) (.fl .nil)))) (ih (v6 ++ [(o16.1, o16.2)]) (w64 (v5 + 1)) _ hF)
 replace hF := of_neg hF hc14
 refine TS.ex 0 (NX.sqX ?_)
 have hF := sj hF
 subst hF
 exact Rd.out (e := .exit 0) (by intro h; cases h) (And.intro rfl (Wk.an [1] (.ac (.ac (.nil _))) [accV 1 v6.length] (.cons (Rn.acc (nl rfl) rfl) .nil)))
theorem B16 (p0 r : List I2) (hF : F16 p0 = some r) : TS Pg 1 1 c16 (st 19 [(0, sl 0 p0)]) [ab 55 e55 p0] (NX Pg 1 1 [] (FinP Pg Try.f16 1 (V16 1 r) (N16 1 r))) := by
 unfold F16 at hF
 refine TS.sq (TS.rg (TI.ra 1 [0] (st 19 [(0, sl 0 p0)]) (TI.dq (TS.sq (TS.rg (TI.ra 1 [0, 3] (st 19 [(0, sl 0 p0), (3, .slice none 0 0)]) (TI.dn ?_)))))))
 refine NX.sq (TS.sq (TS.sq (TS.rg (TI.ra 1 [0, 3, 4] (st 19 [(0, sl 0 p0), (3, .slice none 0 0), (4, iv 0)]) (TI.dq (TS.bk 0 ?_))))))
 obtain ⟨r19, h20, hF⟩ := of_do hF
 refine TS.lp (TL.weak (a2 := (st 19 [(0, sl 0 p0), (3, accV 1 (List.length ([]))), (4, iv 0)])) (h2 := [ab 55 e55 p0, accB 54 (List.length ([])) (List.flatMap e54 ([]))]) (Wk.an [1] (.ac (.cons At.accN (.nil _))) [sl 0 p0, .slice none 0 0, iv 0] (.sl (.cons (Rn.accN) (.fl .nil)))) (TL.post (L16l0 p0 ([]) 0 r19 h20) ?_))
 rintro e a1 h1 hp
 obtain ⟨rfl, hw⟩ := hp
 refine ⟨(st 19 [(3, accV 1 r19.length)]), [ab 55 e55 p0, ab 54 e54 r19], (NX.bkX (NX.sq (TS.sq (TS.rg (TI.ra 2 [2] (st 19 [(2, accV 1 r19.length)]) (TI.dq (TS.rt ?_))))))), hw⟩
 have hF := sj hF
 subst hF
 exact ⟨.inr rfl, rfl, accV 1 r19.length, by kernel_rfl, WkV.made (L := 1) (f := [1]) (by decide) (by decide) rfl (.ac (.nil _)) (Rn.acc (nl rfl) rfl)⟩
theorem C16 (p0 r : List I2) (hF : F16 p0 = some r) : PureSim Pg 16 [sl 0 p0] [ab 55 e55 p0] (V16 1 r) (N16 1 r) :=
 PureSim.of_Fin Try.func16 (c := c16) (by kernel_rfl) (by kernel_rfl) 1 rfl [0] [0] (by kernel_rfl) (B16 p0 r hF)
noncomputable def c91 : Code := Try.f91.code
def F91 (p0 p1 p2 : Int) : Option Bool :=
 (
  if decide (p0 ≥ p1) then
   some (decide (p0 ≤ p2))
  else
   some (false)
 : Option Bool) >>= fun m2 =>
 some m2
def V91 (b : Nat) (r : Bool) : Value := .bool r
def N91 (b : Nat) (r : Bool) : List Blk := []
theorem B91 (p0 p1 p2 : Int) (r : Bool) (hF : F91 p0 p1 p2 = some r) : TS Pg 0 0 c91 (st 15 [(0, iv p0), (1, iv p1), (2, iv p2)]) [] (NX Pg 0 0 [] (FinP Pg Try.f91 0 (V91 0 r) (N91 0 r))) := by
 unfold F91 at hF
 refine TS.sq (TS.rg (TI.ra 1 [0, 1, 2] (st 15 [(0, iv p0), (1, iv p1), (2, iv p2)]) (TI.dq (TS.sq ?_))))
 obtain ⟨m2, hm3, hF⟩ := of_do hF
 have hK : NX Pg 0 0 [.sq c91.s2.s2] (FinP Pg Try.f91 0 (V91 0 r) (N91 0 r)) .normal (st 15 [(6, .bool m2)]) [] := by
  refine NX.sq (TS.rt ?_)
  have hF := sj hF
  subst hF
  exact ⟨.inr rfl, rfl, .bool m2, by kernel_rfl, WkV.flat0 (by kernel_rfl) (nl rfl)⟩
 rcases Bool.eq_false_or_eq_true (decide (p0 ≥ p1)) with hc1 | hc1
 · replace hm3 := of_pos hm3 hc1
   have hm3 := sj hm3
   subst hm3
   exact TS.rg (TI.ra 2 [0, 2, 7, 8] (st 15 [(0, iv p0), (2, iv p2), (7, iv p0), (8, iv p1)]) (TI.o { val := .bool true } (q_conv (e := decide (p0 ≥ p1)) (b := true) (by kernel_rfl) hc1) [0, 2, 9] [] (st 15 [(0, iv p0), (2, iv p2), (9, .bool true)]) [] (TI.ra 6 [6] (st 15 [(6, .bool (decide (p0 ≤ p2)))]) (TI.dn hK))))
 replace hm3 := of_neg hm3 hc1
 have hm3 := sj hm3
 subst hm3
 exact TS.rg (TI.ra 2 [0, 2, 7, 8] (st 15 [(0, iv p0), (2, iv p2), (7, iv p0), (8, iv p1)]) (TI.o { val := .bool false } (q_conv (e := decide (p0 ≥ p1)) (b := false) (by kernel_rfl) hc1) [0, 2, 9] [] (st 15 [(0, iv p0), (2, iv p2), (9, .bool false)]) [] (TI.ra 6 [6] (st 15 [(6, .bool false)]) (TI.dn hK))))
theorem C91 (p0 p1 p2 : Int) (r : Bool) (hF : F91 p0 p1 p2 = some r) : PureSim Pg 91 [iv p0, iv p1, iv p2] [] (V91 0 r) (N91 0 r) :=
 PureSim.of_Fin Try.func91 (c := c91) (by kernel_rfl) (by kernel_rfl) 0 rfl [0, 1, 2] [] (by kernel_rfl) (B91 p0 p1 p2 r hF)
noncomputable def c64 : Code := Try.f64.code
def F64 (p0 p1 p2 : Int) : Option Bool :=
 F91 p0 p1 p2 >>= fun r1 =>
 some r1
def V64 (b : Nat) (r : Bool) : Value := .bool r
def N64 (b : Nat) (r : Bool) : List Blk := []
theorem B64 (p0 p1 p2 : Int) (r : Bool) (hF : F64 p0 p1 p2 = some r) : TS Pg 0 0 c64 (st 11 [(0, iv p0), (1, iv p1), (2, iv p2)]) [] (NX Pg 0 0 [] (FinP Pg Try.f64 0 (V64 0 r) (N64 0 r))) := by
 unfold F64 at hF
 refine TS.sq (TS.rg (TI.ra 1 [0, 1, 2] (st 11 [(0, iv p0), (1, iv p1), (2, iv p2)]) (TI.dq (TS.sq ?_))))
 obtain ⟨r1, h2, hF⟩ := of_do hF
 refine TS.rg (TI.ra 3 [7, 8, 9] (st 11 [(7, iv p0), (8, iv p1), (9, iv p2)]) (TI.cf (C91 _ _ _ _ h2) (TI.ra 1 [6] (st 11 [(6, .bool r1)]) (TI.dq (TS.rt ?_)))))
 have hF := sj hF
 subst hF
 exact ⟨.inr rfl, rfl, .bool r1, by kernel_rfl, WkV.flat0 (by kernel_rfl) (nl rfl)⟩
theorem C64 (p0 p1 p2 : Int) (r : Bool) (hF : F64 p0 p1 p2 = some r) : PureSim Pg 64 [iv p0, iv p1, iv p2] [] (V64 0 r) (N64 0 r) :=
 PureSim.of_Fin Try.func64 (c := c64) (by kernel_rfl) (by kernel_rfl) 0 rfl [0, 1, 2] [] (by kernel_rfl) (B64 p0 p1 p2 r hF)
noncomputable def c57 : Code := Try.f57.code
def F57 (p0 : Int) : Option Bool :=
 F64 p0 0 3599 >>= fun r1 =>
 some r1
def V57 (b : Nat) (r : Bool) : Value := .bool r
def N57 (b : Nat) (r : Bool) : List Blk := []
theorem B57 (p0 : Int) (r : Bool) (hF : F57 p0 = some r) : TS Pg 0 0 c57 (st 5 [(0, iv p0)]) [] (NX Pg 0 0 [] (FinP Pg Try.f57 0 (V57 0 r) (N57 0 r))) := by
 unfold F57 at hF
 refine TS.sq (TS.rg (TI.ra 1 [0] (st 5 [(0, iv p0)]) (TI.dq (TS.sq ?_))))
 obtain ⟨r1, h2, hF⟩ := of_do hF
 refine TS.rg (TI.ra 1 [3] (st 5 [(3, iv p0)]) (TI.cf (C64 _ _ _ _ h2) (TI.ra 1 [2] (st 5 [(2, .bool r1)]) (TI.dq (TS.rt ?_)))))
 have hF := sj hF
 subst hF
 exact ⟨.inr rfl, rfl, .bool r1, by kernel_rfl, WkV.flat0 (by kernel_rfl) (nl rfl)⟩
theorem C57 (p0 : Int) (r : Bool) (hF : F57 p0 = some r) : PureSim Pg 57 [iv p0] [] (V57 0 r) (N57 0 r) :=
 PureSim.of_Fin Try.func57 (c := c57) (by kernel_rfl) (by kernel_rfl) 0 rfl [0] [] (by kernel_rfl) (B57 p0 r hF)
noncomputable def c23 : Code := Try.f23.code
def S23_0 (p0 : List I2) (v14 : Int) : CAct := (st 64 [(0, sl 0 p0), (3, iv v14), (16, sl 0 p0), (17, iv v14)])
def S23_1 (p0 : List I2) (v14 : Int) : CAct := (st 64 [(0, sl 0 p0), (3, iv v14), (18, pt 0 (0 + v14.toNat * 2))])
def S23_2 (p0 : List I2) (v14 : Int) : CAct := (st 64 [(0, sl 0 p0), (3, iv v14), (19, pt 0 (0 + v14.toNat * 2))])
def F23l0 (p0 : List I2) (v14 : Int) : Option (Int ⊕ Unit) :=
 if decide (v14 < (p0.length : Int)) then
  if (0 : Int) ≤ v14 ∧ v14 < (p0.length : Int) then
   some (List.getD p0 v14.toNat (0, 0)) >>= fun o43 =>
   F57 o43.1 >>= fun r45 =>
   (
    if !r45 then
     some (true)
    else
     F64 o43.2 (-900) 900 >>= fun r48 =>
     some (!r48)
   : Option Bool) >>= fun m50 =>
   if m50 then
    some (.inl 1)
   else
    (
     if decide (v14 > 0) then
      if (0 : Int) ≤ w64 (v14 - 1) ∧ w64 (v14 - 1) < (p0.length : Int) then
       some (List.getD p0 (w64 (v14 - 1)).toNat (0, 0)) >>= fun o53 =>
       some (o43.1 == o53.1)
      else none
     else
      some (false)
    : Option Bool) >>= fun m55 =>
    if m55 then
     some (.inl 7)
    else
     (
      if decide (v14 > 0) then
       if (0 : Int) ≤ w64 (v14 - 1) ∧ w64 (v14 - 1) < (p0.length : Int) then
        some (List.getD p0 (w64 (v14 - 1)).toNat (0, 0)) >>= fun o58 =>
        some (decide (o43.1 < o58.1))
       else none
      else
       some (false)
     : Option Bool) >>= fun m60 =>
     if m60 then
      some (.inl 5)
     else
      F23l0 p0 (w64 (v14 + 1))
  else none
 else
  some (.inr ())
 partial_fixpoint
def F23 (p0 : List I2) : Option Int :=
 if (p0.length : Int) == 0 then
  some 2
 else
  if decide ((p0.length : Int) > 36) then
   some 3
  else
   F23l0 p0 0 >>= fun r64 =>
   match r64 with
   | .inl o66 =>
    some o66
   | .inr o67 =>
    some 0
def V23 (b : Nat) (r : Int) : Value := iv r
def N23 (b : Nat) (r : Int) : List Blk := []
def P23l0 (p0 : List I2) (r : Int ⊕ Unit) : Post := fun e a h => (match r with | .inl q0 => e = .ret ∧ Wk Pg 1 1 a h (st 64 [(2, iv q0)]) [ab 54 e54 p0] | .inr q0 => e = .exit 0 ∧ Wk Pg 1 1 a h (st 64 []) [ab 54 e54 p0])
theorem L23l0 (p0 : List I2) (v14 : Int) (r : Int ⊕ Unit) (hF : F23l0 p0 v14 = some r) : TL Pg 1 1 c23.s2.s2.s2.s1.s2.bd.bd (st 64 [(0, sl 0 p0), (3, iv v14)]) [ab 54 e54 p0] (P23l0 p0 r) := by
 refine F23l0.partial_correctness p0 (motive := fun v14 r => TL Pg 1 1 c23.s2.s2.s2.s1.s2.bd.bd (st 64 [(0, sl 0 p0), (3, iv v14)]) [ab 54 e54 p0] (P23l0 p0 r)) ?_ v14 r hF
 clear hF r v14
 intro again ih v14 r hF
 refine TL.round (TS.sq (TS.sq (TS.rg (TI.ra 4 [0, 3, 13] (st 64 [(0, sl 0 p0), (3, iv v14), (13, .bool (decide (v14 < (p0.length : Int))))]) (TI.dq ?_)))))
 refine TS.cd (.tmp 13) (decide (v14 < (p0.length : Int))) (fun hc41 => ?_) (fun hc41 => ?_)
 · replace hF := of_pos hF hc41
   refine TS.sk (NX.sq (TS.sq (TS.bk 1 (TS.sq (TS.sq ?_)))))
   obtain ⟨hg42, hF⟩ := of_guard hF
   obtain ⟨o43, h44, hF⟩ := of_do hF
   replace h44 := sj h44
   obtain ⟨r45, h46, hF⟩ := of_do hF
   obtain ⟨m50, hm63, hF⟩ := of_do hF
   have hK : NX Pg 1 1 [.sq c23.s2.s2.s2.s1.s2.bd.bd.s2.s1.bd.s1.s2, .sq c23.s2.s2.s2.s1.s2.bd.bd.s2.s1.bd.s2, .bk 1, .sq c23.s2.s2.s2.s1.s2.bd.bd.s2.s2] (Rd Pg 1 1 c23.s2.s2.s2.s1.s2.bd.bd (P23l0 p0 r)) .normal (st 64 [(0, sl 0 p0), (3, iv v14), (31, .bool m50)]) [ab 54 e54 p0] := by
    refine NX.sq ?_
    cases m50 with
    | true =>
     replace hF := of_pos hF rfl
     refine TS.cdT (.tmp 31) (TS.sq (TS.rg (TI.ra 1 [2] (st 64 [(2, iv 1)]) (TI.dq (TS.rt (NX.sqR (NX.bkR ?_)))))))
     refine NX.sqR ?_
     have hF := sj hF
     subst hF
     exact Rd.out (e := .ret) (by intro h; cases h) (And.intro rfl (Wk.an [] (.ac (.nil _)) [iv 1] (.fl .nil)))
    | false =>
     replace hF := of_neg hF rfl
     refine TS.cdF (.tmp 31) (TS.sk (NX.sq (TS.sq (TS.sq ?_))))
     obtain ⟨m55, hm62, hF⟩ := of_do hF
     have hK : NX Pg 1 1 [.sq c23.s2.s2.s2.s1.s2.bd.bd.s2.s1.bd.s2.s1.s2, .sq c23.s2.s2.s2.s1.s2.bd.bd.s2.s1.bd.s2.s2, .bk 1, .sq c23.s2.s2.s2.s1.s2.bd.bd.s2.s2] (Rd Pg 1 1 c23.s2.s2.s2.s1.s2.bd.bd (P23l0 p0 r)) .normal (st 64 [(0, sl 0 p0), (3, iv v14), (47, .bool m55)]) [ab 54 e54 p0] := by
      refine NX.sq ?_
      cases m55 with
      | true =>
       replace hF := of_pos hF rfl
       refine TS.cdT (.tmp 47) (TS.sq (TS.rg (TI.ra 1 [2] (st 64 [(2, iv 7)]) (TI.dq (TS.rt (NX.sqR (NX.bkR ?_)))))))
       refine NX.sqR ?_
       have hF := sj hF
       subst hF
       exact Rd.out (e := .ret) (by intro h; cases h) (And.intro rfl (Wk.an [] (.ac (.nil _)) [iv 7] (.fl .nil)))
      | false =>
       replace hF := of_neg hF rfl
       refine TS.cdF (.tmp 47) (TS.sk (NX.sq (TS.sq ?_)))
       obtain ⟨m60, hm61, hF⟩ := of_do hF
       have hK : NX Pg 1 1 [.sq c23.s2.s2.s2.s1.s2.bd.bd.s2.s1.bd.s2.s2.s2, .bk 1, .sq c23.s2.s2.s2.s1.s2.bd.bd.s2.s2] (Rd Pg 1 1 c23.s2.s2.s2.s1.s2.bd.bd (P23l0 p0 r)) .normal (st 64 [(0, sl 0 p0), (3, iv v14), (63, .bool m60)]) [ab 54 e54 p0] := by
        refine NX.sq ?_
        cases m60 with
        | true =>
         replace hF := of_pos hF rfl
         refine TS.cdT (.tmp 63) (TS.sq (TS.rg (TI.ra 1 [2] (st 64 [(2, iv 5)]) (TI.dq (TS.rt (NX.bkR (NX.sqR ?_)))))))
         have hF := sj hF
         subst hF
         exact Rd.out (e := .ret) (by intro h; cases h) (And.intro rfl (Wk.an [] (.ac (.nil _)) [iv 5] (.fl .nil)))
        | false =>
         replace hF := of_neg hF rfl
         refine TS.cdF (.tmp 63) (TS.sk (NX.bk (NX.sq (TS.rg (TI.ra 3 [0, 3] (st 64 [(0, sl 0 p0), (3, iv (w64 (v14 + 1)))]) (TI.dn ?_))))))
         exact Rd.again (a2 := (st 64 [(0, sl 0 p0), (3, iv (w64 (v14 + 1)))])) (h2 := [ab 54 e54 p0]) (Wk.an [] (.ac (.nil _)) [sl 0 p0, iv (w64 (v14 + 1))] (.sl (.fl .nil))) (ih (w64 (v14 + 1)) _ hF)
       rcases Bool.eq_false_or_eq_true (decide (v14 > 0)) with hc56 | hc56
       · replace hm61 := of_pos hm61 hc56
         obtain ⟨hg57, hm61⟩ := of_guard hm61
         obtain ⟨o58, h59, hm61⟩ := of_do hm61
         replace h59 := sj h59
         have hm61 := sj hm61
         subst hm61
         refine TS.dp [] (fun e he => by cases he) mixed 14 [0, 3, 63] [0] (st 64 [(0, sl 0 p0), (3, iv v14), (63, .bool (decide (o43.1 < o58.1)))]) [ab 54 e54 p0] ?_ ?_
         · refine QJ.rn (qs (st 64 [(0, sl 0 p0), (3, iv v14), (47, .bool false), (48, iv v14)]) [ab 54 e54 p0] [] []) 1 (QJ.o { val := .bool true } (q_conv (e := decide (v14 > 0)) (b := true) (by kernel_rfl) hc56) (QJ.rn (qs (st 64 [(0, sl 0 p0), (3, iv v14), (47, .bool false), (48, iv v14), (49, .bool true), (50, .bool true), (51, sl 0 p0), (52, iv v14)]) [ab 54 e54 p0] [] []) 3 (QJ.o { val := pt 0 (0 + v14.toNat * 2) } (q_ixS 0 0 (v14.toNat * 2) (by kernel_rfl) hg42) (QJ.rn (qs (st 64 [(0, sl 0 p0), (3, iv v14), (47, .bool false), (48, iv v14), (49, .bool true), (50, .bool true), (51, sl 0 p0), (52, iv v14), (53, pt 0 (0 + v14.toNat * 2)), (54, pt 0 (0 + v14.toNat * 2))]) [ab 54 e54 p0] [] []) 1 (QJ.o { val := iv o43.1 } (q_n1a Pg [ab 54 e54 p0] 3 0 (0 + v14.toNat * 2) p0 e54 2 54 v14.toNat 0 (0, 0) h44) (QJ.rn (qs (st 64 [(0, sl 0 p0), (3, iv v14), (47, .bool false), (48, iv v14), (49, .bool true), (50, .bool true), (51, sl 0 p0), (52, iv v14), (53, pt 0 (0 + v14.toNat * 2)), (54, pt 0 (0 + v14.toNat * 2)), (55, iv o43.1), (56, sl 0 p0), (57, iv v14), (58, iv (w64 (v14 - 1)))]) [ab 54 e54 p0] [] []) 3 (QJ.o { val := pt 0 (0 + (w64 (v14 - 1)).toNat * 2) } (q_ixS 0 0 ((w64 (v14 - 1)).toNat * 2) (by kernel_rfl) hg57) (QJ.rn (qs (st 64 [(0, sl 0 p0), (3, iv v14), (47, .bool false), (48, iv v14), (49, .bool true), (50, .bool true), (51, sl 0 p0), (52, iv v14), (53, pt 0 (0 + v14.toNat * 2)), (54, pt 0 (0 + v14.toNat * 2)), (55, iv o43.1), (56, sl 0 p0), (57, iv v14), (58, iv (w64 (v14 - 1))), (59, pt 0 (0 + (w64 (v14 - 1)).toNat * 2)), (60, pt 0 (0 + (w64 (v14 - 1)).toNat * 2))]) [ab 54 e54 p0] [] []) 1 ?_))))))))
           exact QJ.o { val := iv o58.1 } (q_n1a Pg [ab 54 e54 p0] 3 0 (0 + (w64 (v14 - 1)).toNat * 2) p0 e54 2 54 (w64 (v14 - 1)).toNat 0 (0, 0) h59) (QJ.dn ⟨rfl, SJ.la⟩)
         exact hK
       replace hm61 := of_neg hm61 hc56
       have hm61 := sj hm61
       subst hm61
       refine TS.dp [] (fun e he => by cases he) mixed 14 [0, 3, 63] [0] (st 64 [(0, sl 0 p0), (3, iv v14), (63, .bool false)]) [ab 54 e54 p0] ?_ ?_
       · exact QJ.rn (qs (st 64 [(0, sl 0 p0), (3, iv v14), (47, .bool false), (48, iv v14)]) [ab 54 e54 p0] [] []) 1 (QJ.o { val := .bool false } (q_conv (e := decide (v14 > 0)) (b := false) (by kernel_rfl) hc56) (QJ.rn (qs (st 64 [(0, sl 0 p0), (3, iv v14), (47, .bool false), (48, iv v14), (49, .bool false), (50, .bool false), (51, undef), (52, undef), (53, undef), (54, undef), (55, undef), (56, undef), (57, undef), (58, undef), (59, undef), (60, undef), (61, undef)]) [ab 54 e54 p0] [] []) 12 (QJ.dn ⟨rfl, SJ.la⟩)))
       exact hK
     rcases Bool.eq_false_or_eq_true (decide (v14 > 0)) with hc51 | hc51
     · replace hm62 := of_pos hm62 hc51
       obtain ⟨hg52, hm62⟩ := of_guard hm62
       obtain ⟨o53, h54, hm62⟩ := of_do hm62
       replace h54 := sj h54
       have hm62 := sj hm62
       subst hm62
       refine TS.dp [] (fun e he => by cases he) mixed 14 [0, 3, 47] [0] (st 64 [(0, sl 0 p0), (3, iv v14), (47, .bool (o43.1 == o53.1))]) [ab 54 e54 p0] ?_ ?_
       · refine QJ.rn (qs (st 64 [(0, sl 0 p0), (3, iv v14), (31, .bool false), (32, iv v14)]) [ab 54 e54 p0] [] []) 1 (QJ.o { val := .bool true } (q_conv (e := decide (v14 > 0)) (b := true) (by kernel_rfl) hc51) (QJ.rn (qs (st 64 [(0, sl 0 p0), (3, iv v14), (31, .bool false), (32, iv v14), (33, .bool true), (34, .bool true), (35, sl 0 p0), (36, iv v14)]) [ab 54 e54 p0] [] []) 3 (QJ.o { val := pt 0 (0 + v14.toNat * 2) } (q_ixS 0 0 (v14.toNat * 2) (by kernel_rfl) hg42) (QJ.rn (qs (st 64 [(0, sl 0 p0), (3, iv v14), (31, .bool false), (32, iv v14), (33, .bool true), (34, .bool true), (35, sl 0 p0), (36, iv v14), (37, pt 0 (0 + v14.toNat * 2)), (38, pt 0 (0 + v14.toNat * 2))]) [ab 54 e54 p0] [] []) 1 (QJ.o { val := iv o43.1 } (q_n1a Pg [ab 54 e54 p0] 3 0 (0 + v14.toNat * 2) p0 e54 2 54 v14.toNat 0 (0, 0) h44) (QJ.rn (qs (st 64 [(0, sl 0 p0), (3, iv v14), (31, .bool false), (32, iv v14), (33, .bool true), (34, .bool true), (35, sl 0 p0), (36, iv v14), (37, pt 0 (0 + v14.toNat * 2)), (38, pt 0 (0 + v14.toNat * 2)), (39, iv o43.1), (40, sl 0 p0), (41, iv v14), (42, iv (w64 (v14 - 1)))]) [ab 54 e54 p0] [] []) 3 (QJ.o { val := pt 0 (0 + (w64 (v14 - 1)).toNat * 2) } (q_ixS 0 0 ((w64 (v14 - 1)).toNat * 2) (by kernel_rfl) hg52) (QJ.rn (qs (st 64 [(0, sl 0 p0), (3, iv v14), (31, .bool false), (32, iv v14), (33, .bool true), (34, .bool true), (35, sl 0 p0), (36, iv v14), (37, pt 0 (0 + v14.toNat * 2)), (38, pt 0 (0 + v14.toNat * 2)), (39, iv o43.1), (40, sl 0 p0), (41, iv v14), (42, iv (w64 (v14 - 1))), (43, pt 0 (0 + (w64 (v14 - 1)).toNat * 2)), (44, pt 0 (0 + (w64 (v14 - 1)).toNat * 2))]) [ab 54 e54 p0] [] []) 1 ?_))))))))
         exact QJ.o { val := iv o53.1 } (q_n1a Pg [ab 54 e54 p0] 3 0 (0 + (w64 (v14 - 1)).toNat * 2) p0 e54 2 54 (w64 (v14 - 1)).toNat 0 (0, 0) h54) (QJ.dn ⟨rfl, SJ.la⟩)
       exact hK
     replace hm62 := of_neg hm62 hc51
     have hm62 := sj hm62
     subst hm62
     refine TS.dp [] (fun e he => by cases he) mixed 14 [0, 3, 47] [0] (st 64 [(0, sl 0 p0), (3, iv v14), (47, .bool false)]) [ab 54 e54 p0] ?_ ?_
     · exact QJ.rn (qs (st 64 [(0, sl 0 p0), (3, iv v14), (31, .bool false), (32, iv v14)]) [ab 54 e54 p0] [] []) 1 (QJ.o { val := .bool false } (q_conv (e := decide (v14 > 0)) (b := false) (by kernel_rfl) hc51) (QJ.rn (qs (st 64 [(0, sl 0 p0), (3, iv v14), (31, .bool false), (32, iv v14), (33, .bool false), (34, .bool false), (35, undef), (36, undef), (37, undef), (38, undef), (39, undef), (40, undef), (41, undef), (42, undef), (43, undef), (44, undef), (45, undef)]) [ab 54 e54 p0] [] []) 12 (QJ.dn ⟨rfl, SJ.la⟩)))
     exact hK
   rcases Bool.eq_false_or_eq_true (!r45) with hc47 | hc47
   · replace hm63 := of_pos hm63 hc47
     have hm63 := sj hm63
     subst hm63
     refine TS.rg (TI.ra 2 [0, 3, 16, 17] (S23_0 p0 v14) (TI.o { val := pt 0 (0 + v14.toNat * 2) } (q_ixS 0 0 (v14.toNat * 2) (by kernel_rfl) hg42) [0, 3, 18] [0] (S23_1 p0 v14) [ab 54 e54 p0] (TI.ra 1 [0, 3, 19] (S23_2 p0 v14) (TI.o { val := iv o43.1 } (q_n1a Pg [ab 54 e54 p0] 3 0 (0 + v14.toNat * 2) p0 e54 2 54 v14.toNat 0 (0, 0) h44) [0, 3, 20] [0] (st 64 [(0, sl 0 p0), (3, iv v14), (20, iv o43.1)]) [ab 54 e54 p0] (TI.cm (PureSim.ak (C57 _ _ h46)) [0, 3, 21] [0] (st 64 [(0, sl 0 p0), (3, iv v14), (21, .bool r45)]) [ab 54 e54 p0] (TI.o { val := .bool true } (q_conv (e := !r45) (b := true) (by kernel_rfl) hc47) [0, 3, 22] [0] (st 64 [(0, sl 0 p0), (3, iv v14), (22, .bool true)]) [ab 54 e54 p0] (TI.ra 9 [0, 3, 31] (st 64 [(0, sl 0 p0), (3, iv v14), (31, .bool true)]) (TI.dn ?_))))))))
     exact hK
   replace hm63 := of_neg hm63 hc47
   obtain ⟨r48, h49, hm63⟩ := of_do hm63
   have hm63 := sj hm63
   subst hm63
   refine TS.rg (TI.ra 2 [0, 3, 16, 17] (S23_0 p0 v14) (TI.o { val := pt 0 (0 + v14.toNat * 2) } (q_ixS 0 0 (v14.toNat * 2) (by kernel_rfl) hg42) [0, 3, 18] [0] (S23_1 p0 v14) [ab 54 e54 p0] (TI.ra 1 [0, 3, 19] (S23_2 p0 v14) (TI.o { val := iv o43.1 } (q_n1a Pg [ab 54 e54 p0] 3 0 (0 + v14.toNat * 2) p0 e54 2 54 v14.toNat 0 (0, 0) h44) [0, 3, 20] [0] (st 64 [(0, sl 0 p0), (3, iv v14), (20, iv o43.1)]) [ab 54 e54 p0] (TI.cm (PureSim.ak (C57 _ _ h46)) [0, 3, 21] [0] (st 64 [(0, sl 0 p0), (3, iv v14), (21, .bool r45)]) [ab 54 e54 p0] (TI.o { val := .bool false } (q_conv (e := !r45) (b := false) (by kernel_rfl) hc47) [0, 3, 22] [0] (st 64 [(0, sl 0 p0), (3, iv v14), (22, .bool false)]) [ab 54 e54 p0] (TI.ra 3 [0, 3, 23, 24, 25] (st 64 [(0, sl 0 p0), (3, iv v14), (23, .bool false), (24, sl 0 p0), (25, iv v14)]) (TI.o { val := pt 0 (0 + v14.toNat * 2) } (q_ixS 0 0 (v14.toNat * 2) (by kernel_rfl) hg42) [0, 3, 23, 26] [0] (st 64 [(0, sl 0 p0), (3, iv v14), (23, .bool false), (26, pt 0 (0 + v14.toNat * 2))]) [ab 54 e54 p0] ?_))))))))
   exact TI.ra 1 [0, 3, 23, 27] (st 64 [(0, sl 0 p0), (3, iv v14), (23, .bool false), (27, pt 0 (0 + v14.toNat * 2 + 1))]) (TI.o { val := iv o43.2 } (q_n1a Pg [ab 54 e54 p0] 3 0 (0 + v14.toNat * 2 + 1) p0 e54 2 54 v14.toNat 1 (0, 0) h44) [0, 3, 23, 28] [0] (st 64 [(0, sl 0 p0), (3, iv v14), (23, .bool false), (28, iv o43.2)]) [ab 54 e54 p0] (TI.cf (C64 _ _ _ _ h49) (TI.ra 2 [0, 3, 31] (st 64 [(0, sl 0 p0), (3, iv v14), (31, .bool (!r48))]) (TI.dn hK))))
 replace hF := of_neg hF hc41
 refine TS.ex 0 (NX.sqX ?_)
 have hF := sj hF
 subst hF
 exact Rd.out (e := .exit 0) (by intro h; cases h) (And.intro rfl (Wk.an [] (.ac (.nil _)) [] .nil))
theorem B23 (p0 : List I2) (r : Int) (hF : F23 p0 = some r) : TS Pg 1 1 c23 (st 64 [(0, sl 0 p0)]) [ab 54 e54 p0] (NX Pg 1 1 [] (FinP Pg Try.f23 1 (V23 1 r) (N23 1 r))) := by
 unfold F23 at hF
 refine TS.sq (TS.rg (TI.ra 1 [0] (st 64 [(0, sl 0 p0)]) (TI.dq (TS.sq (TS.sq (TS.rg (TI.ra 3 [0, 6] (st 64 [(0, sl 0 p0), (6, .bool ((p0.length : Int) == 0))]) ?_)))))))
 refine TI.dn (NX.sq ?_)
 refine TS.cd (.tmp 6) ((p0.length : Int) == 0) (fun hc1 => ?_) (fun hc1 => ?_)
 · replace hF := of_pos hF hc1
   refine TS.sq (TS.rg (TI.ra 1 [2] (st 64 [(2, iv 2)]) (TI.dq (TS.rt (NX.sqR ?_)))))
   have hF := sj hF
   subst hF
   exact ⟨.inr rfl, rfl, iv 2, by kernel_rfl, WkV.flat0 (by kernel_rfl) (nl rfl)⟩
 replace hF := of_neg hF hc1
 refine TS.sk (NX.sq (TS.sq (TS.sq (TS.rg (TI.ra 3 [0, 9] (st 64 [(0, sl 0 p0), (9, .bool (decide ((p0.length : Int) > 36)))]) (TI.dq ?_))))))
 refine TS.cd (.tmp 9) (decide ((p0.length : Int) > 36)) (fun hc2 => ?_) (fun hc2 => ?_)
 · replace hF := of_pos hF hc2
   refine TS.sq (TS.rg (TI.ra 1 [2] (st 64 [(2, iv 3)]) (TI.dq (TS.rt (NX.sqR ?_)))))
   have hF := sj hF
   subst hF
   exact ⟨.inr rfl, rfl, iv 3, by kernel_rfl, WkV.flat0 (by kernel_rfl) (nl rfl)⟩
 replace hF := of_neg hF hc2
 refine TS.sk (NX.sq (TS.sq (TS.sq (TS.rg (TI.ra 1 [0, 3] (st 64 [(0, sl 0 p0), (3, iv 0)]) (TI.dq (TS.bk 0 ?_)))))))
 obtain ⟨r64, h65, hF⟩ := of_do hF
 refine TS.lp (TL.weak (a2 := (st 64 [(0, sl 0 p0), (3, iv 0)])) (h2 := [ab 54 e54 p0]) (Wk.an [] (.ac (.nil _)) [sl 0 p0, iv 0] (.sl (.fl .nil))) (TL.post (L23l0 p0 0 r64 h65) ?_))
 rintro e a1 h1 hp
 rcases r64 with o66 | o67
 · skip
   obtain ⟨rfl, hw⟩ := hp
   refine ⟨(st 64 [(2, iv o66)]), [ab 54 e54 p0], (NX.bkR (NX.sqR ?_)), hw⟩
   have hF := sj hF
   subst hF
   exact ⟨.inr rfl, rfl, iv o66, by kernel_rfl, WkV.flat0 (by kernel_rfl) (nl rfl)⟩
 skip
 obtain ⟨rfl, hw⟩ := hp
 refine ⟨(st 64 []), [ab 54 e54 p0], (NX.bkX (NX.sq (TS.sq (TS.rg (TI.ra 1 [2] (st 64 [(2, iv 0)]) (TI.dq (TS.rt ?_))))))), hw⟩
 have hF := sj hF
 subst hF
 exact ⟨.inr rfl, rfl, iv 0, by kernel_rfl, WkV.flat0 (by kernel_rfl) (nl rfl)⟩
theorem C23 (p0 : List I2) (r : Int) (hF : F23 p0 = some r) : PureSim Pg 23 [sl 0 p0] [ab 54 e54 p0] (V23 1 r) (N23 1 r) :=
 PureSim.of_Fin Try.func23 (c := c23) (by kernel_rfl) (by kernel_rfl) 1 rfl [0] [0] (by kernel_rfl) (B23 p0 r hF)
noncomputable def c66 : Code := Try.f66.code
def S66_17 (p0 : List I2) (p1 : Int) : CAct := (st 34 [(0, sl 0 p0), (1, iv p1), (4, pt 1 0), (5, pt 2 0), (10, .bool (decide ((w64 (p1 + 1)) < (p0.length : Int)))), (20, sl 0 p0), (21, iv p1)])
def S66_15 (p0 : List I2) (p1 : Int) : CAct := sx (S66_17 p0 p1) [(22, pt 0 (0 + p1.toNat * 2))]
def S66_13 (p0 : List I2) (p1 : Int) (o9 : I2) : CAct := sx (S66_15 p0 p1) [(23, ag [iv o9.1, iv o9.2])]
def S66_11 (p0 : List I2) (p1 : Int) (o9 : I2) : CAct := sx (S66_13 p0 p1 o9) [(24, sl 0 p0)]
def S66_9 (p0 : List I2) (p1 : Int) (o9 : I2) : CAct := sx (S66_11 p0 p1 o9) [(25, pt 0 (0 + (Int.toNat 0) * 2))]
def S66_7 (p0 : List I2) (p1 : Int) (o9 : I2) : CAct := sx (S66_9 p0 p1 o9) [(26, pt 0 (0 + (Int.toNat 0) * 2))]
def S66_6 (p0 : List I2) (p1 : Int) (o9 o12 : I2) : CAct := sx (S66_7 p0 p1 o9) [(27, iv o12.1)]
def S66_4 (p0 : List I2) (p1 : Int) (o9 o12 : I2) : CAct := sx (S66_6 p0 p1 o9 o12) [(28, iv (w64 (o12.1 + 3600))), (29, sl 0 p0)]
def S66_3 (p0 : List I2) (p1 : Int) (o9 o12 : I2) : CAct := sx (S66_4 p0 p1 o9 o12) [(30, pt 0 (0 + (Int.toNat 0) * 2))]
def S66_2 (p0 : List I2) (p1 : Int) (o9 o12 : I2) : CAct := sx (S66_3 p0 p1 o9 o12) [(31, pt 0 (0 + (Int.toNat 0) * 2 + 1))]
def S66_1 (p0 : List I2) (p1 : Int) (o9 o12 : I2) : CAct := sx (S66_2 p0 p1 o9 o12) [(32, iv o12.2)]
def S66_0 (p0 : List I2) (p1 : Int) (o9 o12 : I2) : CAct := sx (S66_1 p0 p1 o9 o12) [(33, ag [iv (w64 (o12.1 + 3600)), iv o12.2])]
def S66_16 (p0 : List I2) (p1 : Int) : CAct := (st 34 [(0, sl 0 p0), (1, iv p1), (4, pt 1 0), (5, pt 2 0), (10, .bool (decide ((w64 (p1 + 1)) < (p0.length : Int)))), (11, sl 0 p0), (12, iv p1)])
def S66_14 (p0 : List I2) (p1 : Int) : CAct := sx (S66_16 p0 p1) [(13, pt 0 (0 + p1.toNat * 2))]
def S66_12 (p0 : List I2) (p1 : Int) (o3 : I2) : CAct := sx (S66_14 p0 p1) [(14, ag [iv o3.1, iv o3.2])]
def S66_10 (p0 : List I2) (p1 : Int) (o3 : I2) : CAct := sx (S66_12 p0 p1 o3) [(15, sl 0 p0), (16, iv p1), (17, iv (w64 (p1 + 1)))]
def S66_8 (p0 : List I2) (p1 : Int) (o3 : I2) : CAct := sx (S66_10 p0 p1 o3) [(18, pt 0 (0 + (w64 (p1 + 1)).toNat * 2))]
def S66_5 (p0 : List I2) (p1 : Int) (o3 o6 : I2) : CAct := sx (S66_8 p0 p1 o3) [(19, ag [iv o6.1, iv o6.2])]
def H66_18 (p0 : List I2) (o9 o12 : I2) : List Blk := [ab 54 e54 p0, cl 54 [iv o9.1, iv o9.2], cl 54 [iv (w64 (o12.1 + 3600)), iv o12.2]]
def H66_19 (p0 : List I2) (o3 o6 : I2) : List Blk := [ab 54 e54 p0, cl 54 [iv o3.1, iv o3.2], cl 54 [iv o6.1, iv o6.2]]
def H66_20 (p0 : List I2) (o3 : I2) : List Blk := [ab 54 e54 p0, cl 54 [iv o3.1, iv o3.2], cl 54 [iv 0, iv 0]]
def H66_21 (p0 : List I2) (o9 : I2) : List Blk := [ab 54 e54 p0, cl 54 [iv o9.1, iv o9.2], cl 54 [iv 0, iv 0]]
def H66_22 (p0 : List I2) : List Blk := [ab 54 e54 p0, cl 54 [iv 0, iv 0], cl 54 [iv 0, iv 0]]
def H66_23 (p0 : List I2) : List Blk := [ab 54 e54 p0, .dead, cl 54 [iv 0, iv 0]]
def F66 (p0 : List I2) (p1 : Int) : Option (I2 × I2) :=
 if decide ((w64 (p1 + 1)) < (p0.length : Int)) then
  if (0 : Int) ≤ p1 ∧ p1 < (p0.length : Int) then
   some (List.getD p0 p1.toNat (0, 0)) >>= fun o3 =>
   if (0 : Int) ≤ w64 (p1 + 1) ∧ w64 (p1 + 1) < (p0.length : Int) then
    some (List.getD p0 (w64 (p1 + 1)).toNat (0, 0)) >>= fun o6 =>
    some ((o3.1, o3.2), (o6.1, o6.2))
   else none
  else none
 else
  if (0 : Int) ≤ p1 ∧ p1 < (p0.length : Int) then
   some (List.getD p0 p1.toNat (0, 0)) >>= fun o9 =>
   if (0 : Int) ≤ 0 ∧ 0 < (p0.length : Int) then
    some (List.getD p0 (Int.toNat 0) (0, 0)) >>= fun o12 =>
    some ((o9.1, o9.2), (w64 (o12.1 + 3600), o12.2))
   else none
  else none
def V66 (b : Nat) (r : I2 × I2) : Value := .tuple ⟨[ag [iv r.1.1, iv r.1.2], ag [iv r.2.1, iv r.2.2]]⟩
def N66 (b : Nat) (r : I2 × I2) : List Blk := []
theorem B66 (p0 : List I2) (p1 : Int) (r : I2 × I2) (hF : F66 p0 p1 = some r) : TS Pg 1 1 c66 (st 34 [(0, sl 0 p0), (1, iv p1)]) [ab 54 e54 p0] (NX Pg 1 1 [] (FinP Pg Try.f66 1 (V66 1 r) (N66 1 r))) := by
 unfold F66 at hF
 refine TS.sq (TS.rg (TI.rn 2 [0, 1, 4, 5] [0, 1, 2] (st 34 [(0, sl 0 p0), (1, iv p1), (4, pt 1 0), (5, pt 2 0)]) (H66_22 p0) (TI.dq (TS.sq (TS.sq (TS.rg (TI.ra 5 [0, 1, 4, 5, 10] (st 34 [(0, sl 0 p0), (1, iv p1), (4, pt 1 0), (5, pt 2 0), (10, .bool (decide ((w64 (p1 + 1)) < (p0.length : Int))))]) ?_)))))))
 refine TI.dn (NX.sq ?_)
 refine TS.cd (.tmp 10) (decide ((w64 (p1 + 1)) < (p0.length : Int))) (fun hc1 => ?_) (fun hc1 => ?_)
 · replace hF := of_pos hF hc1
   refine TS.sq ?_
   obtain ⟨hg2, hF⟩ := of_guard hF
   obtain ⟨o3, h4, hF⟩ := of_do hF
   replace h4 := sj h4
   obtain ⟨hg5, hF⟩ := of_guard hF
   obtain ⟨o6, h7, hF⟩ := of_do hF
   replace h7 := sj h7
   refine TS.draw' (id := 2) (b := true) (ops := c66.s2.s1.s2.th.s1.rops) (fin := (qs (S66_5 p0 p1 o3 o6) (H66_20 p0 o3) [] [(9, 1)])) (fin2 := (qs (S66_5 p0 p1 o3 o6) (H66_20 p0 o3) [] [(9, 1)])) (a1 := (S66_5 p0 p1 o3 o6)) (h1 := (H66_19 p0 o3 o6)) (a2 := (st 34 [(4, pt 1 0), (5, pt 2 0)])) (h2 := (H66_19 p0 o3 o6)) [] (fun e he => by cases he) mixed (by kernel_rfl) rfl 10 (by kernel_rfl) [(9, 1)] ?_ rfl (.inr ⟨?_, (by kernel_rfl)⟩) ?_ [4, 5] [0, 1, 2] (by kernel_rfl) ?_
   · exact QI.r (qs (S66_16 p0 p1) (H66_22 p0) [] []) 2 (QI.o { val := pt 0 (0 + p1.toNat * 2) } (qs (S66_14 p0 p1) (H66_22 p0) [] []) (q_ixS 0 0 (p1.toNat * 2) (by kernel_rfl) hg2) (QI.o { val := ag [iv o3.1, iv o3.2] } (qs (S66_12 p0 p1 o3) (H66_22 p0) [] []) (q_nAa Pg (H66_22 p0) 54 0 (0 + p1.toNat * 2) p0 e54 2 54 p1.toNat (0, 0) h4) (QI.r (qs (S66_10 p0 p1 o3) (H66_22 p0) [] []) 3 (QI.o { val := pt 0 (0 + (w64 (p1 + 1)).toNat * 2) } (qs (S66_8 p0 p1 o3) (H66_22 p0) [] []) (q_ixS 0 0 ((w64 (p1 + 1)).toNat * 2) (by kernel_rfl) hg5) (QI.o { val := ag [iv o6.1, iv o6.2] } (qs (S66_5 p0 p1 o3 o6) (H66_22 p0) [] []) (q_nAa Pg (H66_22 p0) 54 0 (0 + (w64 (p1 + 1)).toNat * 2) p0 e54 2 54 (w64 (p1 + 1)).toNat (0, 0) h7) (QI.r (qs (S66_5 p0 p1 o3 o6) (H66_20 p0 o3) [] [(9, 1)]) 1 (QI.done (by kernel_rfl))))))))
   · exact QI.r (qs (S66_16 p0 p1) (H66_22 p0) [] []) 2 (QI.o { val := pt 0 (0 + p1.toNat * 2) } (qs (S66_14 p0 p1) (H66_22 p0) [] []) (q_ixS 0 0 (p1.toNat * 2) (by kernel_rfl) hg2) (QI.o { val := ag [iv o3.1, iv o3.2] } (qs (S66_12 p0 p1 o3) (H66_22 p0) [] []) (q_nAa Pg (H66_22 p0) 54 0 (0 + p1.toNat * 2) p0 e54 2 54 p1.toNat (0, 0) h4) (QI.r (qs (S66_10 p0 p1 o3) (H66_22 p0) [] []) 3 (QI.o { val := pt 0 (0 + (w64 (p1 + 1)).toNat * 2) } (qs (S66_8 p0 p1 o3) (H66_22 p0) [] []) (q_ixS 0 0 ((w64 (p1 + 1)).toNat * 2) (by kernel_rfl) hg5) (QI.o { val := ag [iv o6.1, iv o6.2] } (qs (S66_5 p0 p1 o3 o6) (H66_22 p0) [] []) (q_nAa Pg (H66_23 p0) 54 0 (0 + (w64 (p1 + 1)).toNat * 2) p0 e54 2 54 (w64 (p1 + 1)).toNat (0, 0) h7) (QI.r (qs (S66_5 p0 p1 o3 o6) (H66_20 p0 o3) [] [(9, 1)]) 1 (QI.done (by kernel_rfl))))))))
   · exact SI.run (a2 := (S66_5 p0 p1 o3 o6)) (h2 := (H66_19 p0 o3 o6)) 1 (by kernel_rfl) (SI.done (by kernel_rfl))
   refine TS.rt (NX.sqR ?_)
   have hF := sj hF
   subst hF
   exact ⟨.inr rfl, rfl, .tuple ⟨[ag [iv o3.1, iv o3.2], ag [iv o6.1, iv o6.2]]⟩, by kernel_rfl, WkV.flat0 (by kernel_rfl) (nl rfl)⟩
 replace hF := of_neg hF hc1
 refine TS.sk (NX.sq (TS.sq ?_))
 obtain ⟨hg8, hF⟩ := of_guard hF
 obtain ⟨o9, h10, hF⟩ := of_do hF
 replace h10 := sj h10
 obtain ⟨hg11, hF⟩ := of_guard hF
 obtain ⟨o12, h13, hF⟩ := of_do hF
 replace h13 := sj h13
 refine TS.draw' (id := 3) (b := true) (ops := c66.s2.s2.s1.rops) (fin := (qs (S66_0 p0 p1 o9 o12) (H66_21 p0 o9) [] [(14, 1)])) (fin2 := (qs (S66_0 p0 p1 o9 o12) (H66_21 p0 o9) [] [(14, 1)])) (a1 := (S66_0 p0 p1 o9 o12)) (h1 := (H66_18 p0 o9 o12)) (a2 := (st 34 [(4, pt 1 0), (5, pt 2 0)])) (h2 := (H66_18 p0 o9 o12)) [] (fun e he => by cases he) mixed (by kernel_rfl) rfl 15 (by kernel_rfl) [(14, 1)] ?_ rfl (.inr ⟨?_, (by kernel_rfl)⟩) ?_ [4, 5] [0, 1, 2] (by kernel_rfl) ?_
 · refine QI.r (qs (S66_17 p0 p1) (H66_22 p0) [] []) 2 (QI.o { val := pt 0 (0 + p1.toNat * 2) } (qs (S66_15 p0 p1) (H66_22 p0) [] []) (q_ixS 0 0 (p1.toNat * 2) (by kernel_rfl) hg8) (QI.o { val := ag [iv o9.1, iv o9.2] } (qs (S66_13 p0 p1 o9) (H66_22 p0) [] []) (q_nAa Pg (H66_22 p0) 54 0 (0 + p1.toNat * 2) p0 e54 2 54 p1.toNat (0, 0) h10) (QI.r (qs (S66_11 p0 p1 o9) (H66_22 p0) [] []) 1 (QI.o { val := pt 0 (0 + (Int.toNat 0) * 2) } (qs (S66_9 p0 p1 o9) (H66_22 p0) [] []) (q_ixS 0 0 ((Int.toNat 0) * 2) (by kernel_rfl) hg11) (QI.r (qs (S66_7 p0 p1 o9) (H66_22 p0) [] []) 1 (QI.o { val := iv o12.1 } (qs (S66_6 p0 p1 o9 o12) (H66_22 p0) [] []) (q_n1a Pg (H66_22 p0) 3 0 (0 + (Int.toNat 0) * 2) p0 e54 2 54 (Int.toNat 0) 0 (0, 0) h13) (QI.r (qs (S66_4 p0 p1 o9 o12) (H66_22 p0) [] []) 2 (QI.o { val := pt 0 (0 + (Int.toNat 0) * 2) } (qs (S66_3 p0 p1 o9 o12) (H66_22 p0) [] []) (q_ixS 0 0 ((Int.toNat 0) * 2) (by kernel_rfl) hg11) ?_))))))))
   exact QI.r (qs (S66_2 p0 p1 o9 o12) (H66_22 p0) [] []) 1 (QI.o { val := iv o12.2 } (qs (S66_1 p0 p1 o9 o12) (H66_22 p0) [] []) (q_n1a Pg (H66_22 p0) 3 0 (0 + (Int.toNat 0) * 2 + 1) p0 e54 2 54 (Int.toNat 0) 1 (0, 0) h13) (QI.r (qs (S66_0 p0 p1 o9 o12) (H66_21 p0 o9) [] [(14, 1)]) 2 (QI.done (by kernel_rfl))))
 · refine QI.r (qs (S66_17 p0 p1) (H66_22 p0) [] []) 2 (QI.o { val := pt 0 (0 + p1.toNat * 2) } (qs (S66_15 p0 p1) (H66_22 p0) [] []) (q_ixS 0 0 (p1.toNat * 2) (by kernel_rfl) hg8) (QI.o { val := ag [iv o9.1, iv o9.2] } (qs (S66_13 p0 p1 o9) (H66_22 p0) [] []) (q_nAa Pg (H66_22 p0) 54 0 (0 + p1.toNat * 2) p0 e54 2 54 p1.toNat (0, 0) h10) (QI.r (qs (S66_11 p0 p1 o9) (H66_22 p0) [] []) 1 (QI.o { val := pt 0 (0 + (Int.toNat 0) * 2) } (qs (S66_9 p0 p1 o9) (H66_22 p0) [] []) (q_ixS 0 0 ((Int.toNat 0) * 2) (by kernel_rfl) hg11) (QI.r (qs (S66_7 p0 p1 o9) (H66_22 p0) [] []) 1 (QI.o { val := iv o12.1 } (qs (S66_6 p0 p1 o9 o12) (H66_22 p0) [] []) (q_n1a Pg (H66_23 p0) 3 0 (0 + (Int.toNat 0) * 2) p0 e54 2 54 (Int.toNat 0) 0 (0, 0) h13) (QI.r (qs (S66_4 p0 p1 o9 o12) (H66_22 p0) [] []) 2 (QI.o { val := pt 0 (0 + (Int.toNat 0) * 2) } (qs (S66_3 p0 p1 o9 o12) (H66_22 p0) [] []) (q_ixS 0 0 ((Int.toNat 0) * 2) (by kernel_rfl) hg11) ?_))))))))
   exact QI.r (qs (S66_2 p0 p1 o9 o12) (H66_22 p0) [] []) 1 (QI.o { val := iv o12.2 } (qs (S66_1 p0 p1 o9 o12) (H66_22 p0) [] []) (q_n1a Pg (H66_23 p0) 3 0 (0 + (Int.toNat 0) * 2 + 1) p0 e54 2 54 (Int.toNat 0) 1 (0, 0) h13) (QI.r (qs (S66_0 p0 p1 o9 o12) (H66_21 p0 o9) [] [(14, 1)]) 2 (QI.done (by kernel_rfl))))
 · exact SI.run (a2 := (S66_0 p0 p1 o9 o12)) (h2 := (H66_18 p0 o9 o12)) 1 (by kernel_rfl) (SI.done (by kernel_rfl))
 refine TS.rt ?_
 have hF := sj hF
 subst hF
 exact ⟨.inr rfl, rfl, .tuple ⟨[ag [iv o9.1, iv o9.2], ag [iv (w64 (o12.1 + 3600)), iv o12.2]]⟩, by kernel_rfl, WkV.flat0 (by kernel_rfl) (nl rfl)⟩
theorem C66 (p0 : List I2) (p1 : Int) (r : I2 × I2) (hF : F66 p0 p1 = some r) : PureSim Pg 66 [sl 0 p0, iv p1] [ab 54 e54 p0] (V66 1 r) (N66 1 r) :=
 PureSim.of_Fin Try.func66 (c := c66) (by kernel_rfl) (by kernel_rfl) 1 rfl [0, 1] [0] (by kernel_rfl) (B66 p0 p1 r hF)
noncomputable def c61 : Code := Try.f61.code
def F61 (p0 : List I2) (p1 : Int) : Option Int :=
 F66 p0 p1 >>= fun r1 =>
 some (w64 ((w64 ((w64 (r1.2.1 - r1.1.1)) + r1.2.2)) - r1.1.2))
def V61 (b : Nat) (r : Int) : Value := iv r
def N61 (b : Nat) (r : Int) : List Blk := []
theorem B61 (p0 : List I2) (p1 r : Int) (hF : F61 p0 p1 = some r) : TS Pg 1 1 c61 (st 24 [(0, sl 0 p0), (1, iv p1)]) [ab 54 e54 p0] (NX Pg 1 1 [] (FinP Pg Try.f61 1 (V61 1 r) (N61 1 r))) := by
 unfold F61 at hF
 refine TS.sq (TS.rg (TI.ra 1 [0, 1] (st 24 [(0, sl 0 p0), (1, iv p1)]) (TI.dq (TS.sq ?_))))
 obtain ⟨r1, h2, hF⟩ := of_do hF
 refine TS.rg (TI.ra 2 [8, 9] (st 24 [(8, sl 0 p0), (9, iv p1)]) (TI.cp 66 [sl 0 p0, iv p1] (.tuple ⟨[ag [iv r1.1.1, iv r1.1.2], ag [iv r1.2.1, iv r1.2.2]]⟩) [] (PureSim.ren (hc := [ab 54 e54 p0]) (fun i => List.getD [(0, 0)] i (0, 0)) (C66 _ _ _ h2) (.ac (.nil _)) (.cons (Rn.any _ _ _ _ _ _ (nl rfl) rfl rfl (by decide)) (.fl .nil)) (.flat (by kernel_rfl)) newflat_nil) (TI.rn 7 [5, 6] [0, 1, 2] (st 24 [(5, pt 1 0), (6, pt 2 0)]) [ab 54 e54 p0, cl 54 [iv r1.1.1, iv r1.1.2], cl 54 [iv r1.2.1, iv r1.2.2]] (TI.dq (TS.sq (TS.rg (TI.rn 12 [4] [0] (st 24 [(4, iv (w64 ((w64 ((w64 (r1.2.1 - r1.1.1)) + r1.2.2)) - r1.1.2)))]) [ab 54 e54 p0, .dead, .dead] ?_)))))))
 refine TI.dn (NX.sq (TS.rt ?_))
 have hF := sj hF
 subst hF
 exact ⟨.inr rfl, rfl, iv (w64 ((w64 ((w64 (r1.2.1 - r1.1.1)) + r1.2.2)) - r1.1.2)), by kernel_rfl, WkV.flat0 (by kernel_rfl) (nl rfl)⟩
theorem C61 (p0 : List I2) (p1 r : Int) (hF : F61 p0 p1 = some r) : PureSim Pg 61 [sl 0 p0, iv p1] [ab 54 e54 p0] (V61 1 r) (N61 1 r) :=
 PureSim.of_Fin Try.func61 (c := c61) (by kernel_rfl) (by kernel_rfl) 1 rfl [0, 1] [0] (by kernel_rfl) (B61 p0 p1 r hF)
noncomputable def c93 : Code := Try.f93.code
def S93_0 (v4 v3 : Int) : CAct := (st 20 [(0, iv v4), (1, iv (Int.tmod v3 v4)), (14, .bool (decide (v4 > 0))), (15, iv v4), (16, iv v3), (17, iv v4), (18, iv (Int.tmod v3 v4))])
def S93_1 (v4 v3 : Int) : CAct := (st 20 [(0, iv v4), (1, iv v4), (14, .bool (decide (v4 > 0))), (15, iv v4), (16, iv v3), (17, iv v4), (18, iv (Int.tmod v3 v4))])
def F93l0  (v3 : Int) (v4 : Int) : Option Int :=
 if decide (v4 > 0) then
  if v4 = 0 then none else
  F93l0  v4 (Int.tmod v3 v4)
 else
  some v3
 partial_fixpoint
def F93 (p0 p1 : Int) : Option Int :=
 F93l0  (mx p0 (w64 (0 - p0))) (mx p1 (w64 (0 - p1))) >>= fun r11 =>
 some r11
def V93 (b : Nat) (r : Int) : Value := iv r
def N93 (b : Nat) (r : Int) : List Blk := []
def P93l0  (r : Int) : Post := fun e a h => e = .exit 0 ∧ Wk Pg 0 0 a h (st 20 [(0, iv r)]) []
theorem L93l0  (v3 : Int) (v4 : Int) (r : Int) (hF : F93l0  v3 v4 = some r) : TL Pg 0 0 c93.s2.s2.s1.bd.bd (st 20 [(0, iv v3), (1, iv v4)]) [] (P93l0  r) := by
 refine F93l0.partial_correctness  (motive := fun v3 v4 r => TL Pg 0 0 c93.s2.s2.s1.bd.bd (st 20 [(0, iv v3), (1, iv v4)]) [] (P93l0  r)) ?_ v3 v4 r hF
 clear hF r v3 v4
 intro again ih v3 v4 r hF
 refine TL.round (TS.sq (TS.sq (TS.rg (TI.ra 2 [0, 1, 14] (st 20 [(0, iv v3), (1, iv v4), (14, .bool (decide (v4 > 0)))]) (TI.dq ?_)))))
 refine TS.cd (.tmp 14) (decide (v4 > 0)) (fun hc9 => ?_) (fun hc9 => ?_)
 · replace hF := of_pos hF hc9
   refine TS.sk (NX.sq (TS.bk 1 ?_))
   obtain ⟨hg10, hF⟩ := of_guardn hF
   refine TS.drawE (id := 3) (b := true) (ops := c93.s2.s2.s1.bd.bd.s2.bd.rops) (fin := (qs (S93_1 v4 v3) [] [] [])) (fin2 := (qs (S93_1 v4 v3) [] [] [])) (a1 := (S93_0 v4 v3)) (h1 := []) [] (fun e he => by cases he) mixed (by kernel_rfl) rfl 5 (by kernel_rfl) [] ?_ rfl (.inl ⟨rfl, rfl⟩) ?_ ?_
   · exact QI.r (qs (st 20 [(0, iv v3), (1, iv v4), (14, .bool (decide (v4 > 0))), (15, iv v4), (16, iv v3), (17, iv v4)]) [] [] []) 3 (QI.o { val := iv (Int.tmod v3 v4) } (qs (st 20 [(0, iv v3), (1, iv v4), (14, .bool (decide (v4 > 0))), (15, iv v4), (16, iv v3), (17, iv v4), (18, iv (Int.tmod v3 v4))]) [] [] []) (q_int (P := Pg) (op := .rem) (ty := 3) (ox := (.tmp 16)) (oy := (.tmp 17)) (k := .i64) (k' := .i64) (y := v3) (z := v4) (by kernel_rfl) (rem_ok hg10)) (QI.r (qs (S93_1 v4 v3) [] [] []) 1 (QI.done (by kernel_rfl))))
   · exact SI.run (a2 := (S93_0 v4 v3)) (h2 := []) 1 (by kernel_rfl) (SI.done (by kernel_rfl))
   refine NX.bk ?_
   exact Rd.again (a2 := (st 20 [(0, iv v4), (1, iv (Int.tmod v3 v4))])) (h2 := []) (Wk.an [] (.nil _) [iv v4, iv (Int.tmod v3 v4)] (.fl (.fl .nil))) (ih v4 (Int.tmod v3 v4) _ hF)
 replace hF := of_neg hF hc9
 refine TS.ex 0 (NX.sqX ?_)
 have hF := sj hF
 subst hF
 exact Rd.out (e := .exit 0) (by intro h; cases h) (And.intro rfl (Wk.an [] (.nil _) [iv v3] (.fl .nil)))
theorem B93 (p0 p1 r : Int) (hF : F93 p0 p1 = some r) : TS Pg 0 0 c93 (st 20 [(0, iv p0), (1, iv p1)]) [] (NX Pg 0 0 [] (FinP Pg Try.f93 0 (V93 0 r) (N93 0 r))) := by
 unfold F93 at hF
 refine TS.sq (TS.rg (TI.ra 1 [0, 1] (st 20 [(0, iv p0), (1, iv p1)]) (TI.dq (TS.sq (TS.rg (TI.ra 10 [0, 1] (st 20 [(0, iv (mx p0 (w64 (0 - p0)))), (1, iv (mx p1 (w64 (0 - p1))))]) (TI.dn ?_)))))))
 refine NX.sq (TS.sq (TS.bk 0 ?_))
 obtain ⟨r11, h12, hF⟩ := of_do hF
 refine TS.lp (TL.weak (a2 := (st 20 [(0, iv (mx p0 (w64 (0 - p0)))), (1, iv (mx p1 (w64 (0 - p1))))])) (h2 := []) (Wk.an [] (.nil _) [iv (mx p0 (w64 (0 - p0))), iv (mx p1 (w64 (0 - p1)))] (.fl (.fl .nil))) (TL.post (L93l0  (mx p0 (w64 (0 - p0))) (mx p1 (w64 (0 - p1))) r11 h12) ?_))
 rintro e a1 h1 hp
 obtain ⟨rfl, hw⟩ := hp
 refine ⟨(st 20 [(0, iv r11)]), [], (NX.bkX (NX.sq (TS.sq (TS.rg (TI.ra 2 [4] (st 20 [(4, iv r11)]) (TI.dq (TS.rt ?_))))))), hw⟩
 have hF := sj hF
 subst hF
 exact ⟨.inr rfl, rfl, iv r11, by kernel_rfl, WkV.flat0 (by kernel_rfl) (nl rfl)⟩
theorem C93 (p0 p1 r : Int) (hF : F93 p0 p1 = some r) : PureSim Pg 93 [iv p0, iv p1] [] (V93 0 r) (N93 0 r) :=
 PureSim.of_Fin Try.func93 (c := c93) (by kernel_rfl) (by kernel_rfl) 0 rfl [0, 1] [] (by kernel_rfl) (B93 p0 p1 r hF)
noncomputable def c67 : Code := Try.f67.code
def F67 (p0 p1 : Int) : Option I2 :=
 (
  if decide (p1 < 0) then
   some (w64 (0 - p0), w64 (0 - p1))
  else
   some (p0, p1)
 : Option I2) >>= fun m6 =>
 F93 m6.1 m6.2 >>= fun r8 =>
 if r8 = 0 then none else
 some (w64 (Int.tdiv m6.1 r8), w64 (Int.tdiv m6.2 r8))
def V67 (b : Nat) (r : I2) : Value := ag [iv r.1, iv r.2]
def N67 (b : Nat) (r : I2) : List Blk := []
theorem B67 (p0 p1 : Int) (r : I2) (hF : F67 p0 p1 = some r) : TS Pg 0 0 c67 (st 22 [(0, iv p0), (1, iv p1)]) [] (NX Pg 0 0 [] (FinP Pg Try.f67 0 (V67 0 r) (N67 0 r))) := by
 unfold F67 at hF
 refine TS.sq (TS.rg (TI.rn 1 [0, 1, 4] [0] (st 22 [(0, iv p0), (1, iv p1), (4, pt 0 0)]) [cl 29 [iv 0, iv 0]] (TI.dq (TS.sq (TS.sq (TS.rg (TI.ra 2 [0, 1, 4, 7] (st 22 [(0, iv p0), (1, iv p1), (4, pt 0 0), (7, .bool (decide (p1 < 0)))]) ?_)))))))
 refine TI.dn (NX.sq ?_)
 obtain ⟨m6, hm7, hF⟩ := of_do hF
 have hK : NX Pg 0 0 [.sq c67.s2.s2] (FinP Pg Try.f67 0 (V67 0 r) (N67 0 r)) .normal (st 22 [(0, iv m6.1), (1, iv m6.2), (4, pt 0 0)]) [cl 29 [iv 0, iv 0]] := by
  refine NX.sq (TS.sq ?_)
  obtain ⟨r8, h9, hF⟩ := of_do hF
  refine TS.rg (TI.ra 2 [0, 1, 4, 12, 13] (st 22 [(0, iv m6.1), (1, iv m6.2), (4, pt 0 0), (12, iv m6.1), (13, iv m6.2)]) (TI.cf (C93 _ _ _ h9) (TI.ra 1 [0, 1, 4, 5] (st 22 [(0, iv m6.1), (1, iv m6.2), (4, pt 0 0), (5, iv r8)]) (TI.dq (TS.sq ?_)))))
  obtain ⟨hg10, hF⟩ := of_guardn hF
  refine TS.dp [] (fun e he => by cases he) mixed 6 [4] [0] (st 22 [(4, pt 0 0)]) [cl 29 [iv (w64 (Int.tdiv m6.1 r8)), iv (w64 (Int.tdiv m6.2 r8))]] ?_ ?_
  · exact QJ.rn (qs (st 22 [(0, iv m6.1), (1, iv m6.2), (4, pt 0 0), (5, iv r8), (15, iv m6.1), (16, iv r8)]) [cl 29 [iv 0, iv 0]] [] []) 2 (QJ.o { val := iv (w64 (Int.tdiv m6.1 r8)) } (q_int (P := Pg) (op := .quo) (ty := 3) (ox := (.tmp 15)) (oy := (.tmp 16)) (k := .i64) (k' := .i64) (y := m6.1) (z := r8) (by kernel_rfl) (quo_ok hg10)) (QJ.rn (qs (st 22 [(0, iv m6.1), (1, iv m6.2), (4, pt 0 0), (5, iv r8), (15, iv m6.1), (16, iv r8), (17, iv (w64 (Int.tdiv m6.1 r8))), (18, iv m6.2), (19, iv r8)]) [cl 29 [iv 0, iv 0]] [] []) 2 (QJ.o { val := iv (w64 (Int.tdiv m6.2 r8)) } (q_int (P := Pg) (op := .quo) (ty := 3) (ox := (.tmp 18)) (oy := (.tmp 19)) (k := .i64) (k' := .i64) (y := m6.2) (z := r8) (by kernel_rfl) (quo_ok hg10)) (QJ.dn ⟨rfl, SJ.la⟩))))
  refine TS.rt ?_
  have hF := sj hF
  subst hF
  exact ⟨.inr rfl, rfl, ag [iv (w64 (Int.tdiv m6.1 r8)), iv (w64 (Int.tdiv m6.2 r8))], by kernel_rfl, WkV.flat0 (by kernel_rfl) (nl rfl)⟩
 clear hF
 have hF := hm7
 clear hm7
 refine TS.start ?_
 refine TS.cd (.tmp 7) (decide (p1 < 0)) (fun hc11 => ?_) (fun hc11 => ?_)
 · replace hF := of_pos hF hc11
   refine TS.rg (TI.ra 6 [0, 1, 4] (st 22 [(0, iv (w64 (0 - p0))), (1, iv (w64 (0 - p1))), (4, pt 0 0)]) (TI.dn ?_))
   have hF := sj hF
   subst hF
   exact TS.weak (by exact (Wk.an [0] (.lt (.fl (.fl .nil)) (.nil _)) [iv (w64 (0 - p0)), iv (w64 (0 - p1)), pt 0 0] (.fl (.fl (.pp .nil))))) hK
 replace hF := of_neg hF hc11
 refine TS.sk ?_
 have hF := sj hF
 subst hF
 exact TS.weak (by exact (Wk.an [0] (.lt (.fl (.fl .nil)) (.nil _)) [iv p0, iv p1, pt 0 0] (.fl (.fl (.pp .nil))))) hK
theorem C67 (p0 p1 : Int) (r : I2) (hF : F67 p0 p1 = some r) : PureSim Pg 67 [iv p0, iv p1] [] (V67 0 r) (N67 0 r) :=
 PureSim.of_Fin Try.func67 (c := c67) (by kernel_rfl) (by kernel_rfl) 0 rfl [0, 1] [] (by kernel_rfl) (B67 p0 p1 r hF)
noncomputable def c59 : Code := Try.f59.code
def F59 (p0 : Int) : Option I2 :=
 some (p0, 1)
def V59 (b : Nat) (r : I2) : Value := ag [iv r.1, iv r.2]
def N59 (b : Nat) (r : I2) : List Blk := []
theorem B59 (p0 : Int) (r : I2) (hF : F59 p0 = some r) : TS Pg 0 0 c59 (st 5 [(0, iv p0)]) [] (NX Pg 0 0 [] (FinP Pg Try.f59 0 (V59 0 r) (N59 0 r))) := by
 unfold F59 at hF
 refine TS.sq (TS.rg (TI.rn 1 [0, 2] [0] (st 5 [(0, iv p0), (2, pt 0 0)]) [cl 29 [iv 0, iv 0]] (TI.dq (TS.sq (TS.rg (TI.rn 3 [2] [0] (st 5 [(2, pt 0 0)]) [cl 29 [iv p0, iv 1]] (TI.dn ?_)))))))
 refine NX.sq (TS.rt ?_)
 have hF := sj hF
 subst hF
 exact ⟨.inr rfl, rfl, ag [iv p0, iv 1], by kernel_rfl, WkV.flat0 (by kernel_rfl) (nl rfl)⟩
theorem C59 (p0 : Int) (r : I2) (hF : F59 p0 = some r) : PureSim Pg 59 [iv p0] [] (V59 0 r) (N59 0 r) :=
 PureSim.of_Fin Try.func59 (c := c59) (by kernel_rfl) (by kernel_rfl) 0 rfl [0] [] (by kernel_rfl) (B59 p0 r hF)
noncomputable def c68 : Code := Try.f68.code
def F68 (p0 p1 p2 p3 : Int) : Option Bool :=
 some (decide ((w64 (p0 * p3)) < (w64 (p2 * p1))))
def V68 (b : Nat) (r : Bool) : Value := .bool r
def N68 (b : Nat) (r : Bool) : List Blk := []
theorem B68 (p0 p1 p2 p3 : Int) (r : Bool) (hF : F68 p0 p1 p2 p3 = some r) : TS Pg 0 0 c68 (st 16 [(0, ag [iv p0, iv p1]), (1, ag [iv p2, iv p3])]) [] (NX Pg 0 0 [] (FinP Pg Try.f68 0 (V68 0 r) (N68 0 r))) := by
 unfold F68 at hF
 refine TS.sq (TS.rg (TI.rn 3 [2, 3] [0, 1] (st 16 [(2, pt 0 0), (3, pt 1 0)]) [cl 29 [iv p0, iv p1], cl 29 [iv p2, iv p3]] (TI.dq (TS.sq (TS.rg (TI.rn 12 [4] [] (st 16 [(4, .bool (decide ((w64 (p0 * p3)) < (w64 (p2 * p1)))))]) [.dead, .dead] (TI.dn ?_)))))))
 refine NX.sq (TS.rt ?_)
 have hF := sj hF
 subst hF
 exact ⟨.inr rfl, rfl, .bool (decide ((w64 (p0 * p3)) < (w64 (p2 * p1)))), by kernel_rfl, WkV.flat0 (by kernel_rfl) (nl rfl)⟩
theorem C68 (p0 p1 p2 p3 : Int) (r : Bool) (hF : F68 p0 p1 p2 p3 = some r) : PureSim Pg 68 [ag [iv p0, iv p1], ag [iv p2, iv p3]] [] (V68 0 r) (N68 0 r) :=
 PureSim.of_Fin Try.func68 (c := c68) (by kernel_rfl) (by kernel_rfl) 0 rfl [0, 1] [] (by kernel_rfl) (B68 p0 p1 p2 p3 r hF)
noncomputable def c70 : Code := Try.f70.code
def H70_0 (p0 p1 p2 p3 : Int) : List Blk := [cl 29 [iv p0, iv p1], cl 29 [iv p2, iv p3], cl 29 [iv 0, iv 0]]
def F70 (p0 p1 p2 p3 : Int) : Option I2 :=
 F93 p1 p3 >>= fun r1 =>
 if r1 = 0 then none else
 some (w64 ((w64 (p0 * (w64 (Int.tdiv p3 r1)))) + (w64 (p2 * (w64 (Int.tdiv p1 r1)))))) >>= fun o4 =>
 F67 o4 (w64 ((w64 (Int.tdiv p1 r1)) * p3)) >>= fun r6 =>
 some (r6.1, r6.2)
def V70 (b : Nat) (r : I2) : Value := ag [iv r.1, iv r.2]
def N70 (b : Nat) (r : I2) : List Blk := []
theorem B70 (p0 p1 p2 p3 : Int) (r : I2) (hF : F70 p0 p1 p2 p3 = some r) : TS Pg 0 0 c70 (st 34 [(0, ag [iv p0, iv p1]), (1, ag [iv p2, iv p3])]) [] (NX Pg 0 0 [] (FinP Pg Try.f70 0 (V70 0 r) (N70 0 r))) := by
 unfold F70 at hF
 refine TS.sq (TS.rg (TI.rn 3 [2, 3, 4] [0, 1, 2] (st 34 [(2, pt 0 0), (3, pt 1 0), (4, pt 2 0)]) (H70_0 p0 p1 p2 p3) (TI.dq (TS.sq ?_))))
 obtain ⟨r1, h2, hF⟩ := of_do hF
 refine TS.rg (TI.ra 4 [2, 3, 4, 7, 9] (st 34 [(2, pt 0 0), (3, pt 1 0), (4, pt 2 0), (7, iv p1), (9, iv p3)]) (TI.cf (C93 _ _ _ h2) (TI.ra 1 [2, 3, 4, 5] (st 34 [(2, pt 0 0), (3, pt 1 0), (4, pt 2 0), (5, iv r1)]) (TI.dq (TS.sq ?_)))))
 obtain ⟨hg3, hF⟩ := of_guardn hF
 obtain ⟨o4, h5, hF⟩ := of_do hF
 replace h5 := sj h5
 obtain ⟨r6, h7, hF⟩ := of_do hF
 have hT : ∀ e ∈ ([⟨67, [iv o4, iv (w64 ((w64 (Int.tdiv p1 r1)) * p3))], (H70_0 p0 p1 p2 p3), ag [iv r6.1, iv r6.2], []⟩] : List Entry), PureSim Pg e.g e.args e.h e.v e.new := by
  intro e he
  simp only [List.mem_cons, List.not_mem_nil, or_false] at he
  rcases he with rfl
  exact PureSim.ak (C67 _ _ _ h7)
 refine TS.dp [⟨67, [iv o4, iv (w64 ((w64 (Int.tdiv p1 r1)) * p3))], (H70_0 p0 p1 p2 p3), ag [iv r6.1, iv r6.2], []⟩] hT mixed 22 [4] [2] (st 34 [(4, pt 2 0)]) [.dead, .dead, cl 29 [iv r6.1, iv r6.2]] ?_ ?_
 · refine QJ.rn (qs (st 34 [(2, pt 0 0), (3, pt 1 0), (4, pt 2 0), (5, iv r1), (11, pt 0 0), (12, iv p0), (13, pt 1 1), (14, iv p3), (15, iv r1)]) (H70_0 p0 p1 p2 p3) [] []) 5 (QJ.o { val := iv (w64 (Int.tdiv p3 r1)) } (q_int (P := Pg) (op := .quo) (ty := 3) (ox := (.tmp 14)) (oy := (.tmp 15)) (k := .i64) (k' := .i64) (y := p3) (z := r1) (by kernel_rfl) (quo_ok hg3)) (QJ.rn (qs (st 34 [(2, pt 0 0), (3, pt 1 0), (4, pt 2 0), (5, iv r1), (11, pt 0 0), (12, iv p0), (13, pt 1 1), (14, iv p3), (15, iv r1), (16, iv (w64 (Int.tdiv p3 r1))), (17, iv (w64 (p0 * (w64 (Int.tdiv p3 r1))))), (18, pt 1 0), (19, iv p2), (20, pt 0 1), (21, iv p1), (22, iv r1)]) (H70_0 p0 p1 p2 p3) [] []) 6 (QJ.o { val := iv (w64 (Int.tdiv p1 r1)) } (q_int (P := Pg) (op := .quo) (ty := 3) (ox := (.tmp 21)) (oy := (.tmp 22)) (k := .i64) (k' := .i64) (y := p1) (z := r1) (by kernel_rfl) (quo_ok hg3)) (QJ.rn (qs (st 34 [(2, pt 0 0), (3, pt 1 0), (4, pt 2 0), (5, iv r1), (11, pt 0 0), (12, iv p0), (13, pt 1 1), (14, iv p3), (15, iv r1), (16, iv (w64 (Int.tdiv p3 r1))), (17, iv (w64 (p0 * (w64 (Int.tdiv p3 r1))))), (18, pt 1 0), (19, iv p2), (20, pt 0 1), (21, iv p1), (22, iv r1), (23, iv (w64 (Int.tdiv p1 r1))), (24, iv (w64 (p2 * (w64 (Int.tdiv p1 r1)))))]) (H70_0 p0 p1 p2 p3) [] []) 1 (QJ.o { val := iv o4 } (q_convI (e := w64 ((w64 (p0 * (w64 (Int.tdiv p3 r1)))) + (w64 (p2 * (w64 (Int.tdiv p1 r1)))))) (y := o4) (by kernel_rfl) h5) (QJ.rn (qs (st 34 [(2, pt 0 0), (3, pt 1 0), (4, pt 2 0), (5, iv r1), (11, pt 0 0), (12, iv p0), (13, pt 1 1), (14, iv p3), (15, iv r1), (16, iv (w64 (Int.tdiv p3 r1))), (17, iv (w64 (p0 * (w64 (Int.tdiv p3 r1))))), (18, pt 1 0), (19, iv p2), (20, pt 0 1), (21, iv p1), (22, iv r1), (23, iv (w64 (Int.tdiv p1 r1))), (24, iv (w64 (p2 * (w64 (Int.tdiv p1 r1))))), (25, iv o4), (26, pt 0 1), (27, iv p1), (28, iv r1)]) (H70_0 p0 p1 p2 p3) [] []) 3 (QJ.o { val := iv (w64 (Int.tdiv p1 r1)) } (q_int (P := Pg) (op := .quo) (ty := 3) (ox := (.tmp 27)) (oy := (.tmp 28)) (k := .i64) (k' := .i64) (y := p1) (z := r1) (by kernel_rfl) (quo_ok hg3)) (QJ.rn (qs (st 34 [(2, pt 0 0), (3, pt 1 0), (4, pt 2 0), (5, iv r1), (11, pt 0 0), (12, iv p0), (13, pt 1 1), (14, iv p3), (15, iv r1), (16, iv (w64 (Int.tdiv p3 r1))), (17, iv (w64 (p0 * (w64 (Int.tdiv p3 r1))))), (18, pt 1 0), (19, iv p2), (20, pt 0 1), (21, iv p1), (22, iv r1), (23, iv (w64 (Int.tdiv p1 r1))), (24, iv (w64 (p2 * (w64 (Int.tdiv p1 r1))))), (25, iv o4), (26, pt 0 1), (27, iv p1), (28, iv r1), (29, iv (w64 (Int.tdiv p1 r1))), (30, pt 1 1), (31, iv p3), (32, iv (w64 ((w64 (Int.tdiv p1 r1)) * p3)))]) (H70_0 p0 p1 p2 p3) [] []) 3 ?_))))))))
   exact QJ.dn ⟨rfl, (SJ.o { val := ag [iv r6.1, iv r6.2], new := [] } (qOf_call (g := 67) (args := [iv o4, iv (w64 ((w64 (Int.tdiv p1 r1)) * p3))]) (by kernel_rfl) lookC_hit) SJ.la)⟩
 refine TS.rt ?_
 have hF := sj hF
 subst hF
 exact ⟨.inr rfl, rfl, ag [iv r6.1, iv r6.2], by kernel_rfl, WkV.flat0 (by kernel_rfl) (nl rfl)⟩
theorem C70 (p0 p1 p2 p3 : Int) (r : I2) (hF : F70 p0 p1 p2 p3 = some r) : PureSim Pg 70 [ag [iv p0, iv p1], ag [iv p2, iv p3]] [] (V70 0 r) (N70 0 r) :=
 PureSim.of_Fin Try.func70 (c := c70) (by kernel_rfl) (by kernel_rfl) 0 rfl [0, 1] [] (by kernel_rfl) (B70 p0 p1 p2 p3 r hF)
noncomputable def c69 : Code := Try.f69.code
def F69l0 (p1 v2 : Int) : Option Int :=
 if decide (v2 < 0) then
  F69l0 p1 (w64 (v2 + (w64 (3600 * p1))))
 else
  some v2
 partial_fixpoint
def F69l1 (p1 v10 : Int) : Option Int :=
 if decide (v10 ≥ (w64 (3600 * p1))) then
  F69l1 p1 (w64 (v10 - (w64 (3600 * p1))))
 else
  some v10
 partial_fixpoint
def F69 (p0 p1 : Int) : Option I2 :=
 F69l0 p1 p0 >>= fun r7 =>
 F69l1 p1 r7 >>= fun r15 =>
 some (r15, p1)
def V69 (b : Nat) (r : I2) : Value := ag [iv r.1, iv r.2]
def N69 (b : Nat) (r : I2) : List Blk := []
def P69l0 (p1 r : Int) : Post := fun e a h => e = .exit 0 ∧ Wk Pg 0 0 a h (st 27 [(1, pt 0 0), (2, pt 1 0)]) [cl 29 [iv r, iv p1], cl 29 [iv 0, iv 0]]
theorem L69l0 (p1 v2 r : Int) (hF : F69l0 p1 v2 = some r) : TL Pg 0 0 c69.s2.s1.bd.bd (st 27 [(1, pt 0 0), (2, pt 1 0)]) [cl 29 [iv v2, iv p1], cl 29 [iv 0, iv 0]] (P69l0 p1 r) := by
 refine F69l0.partial_correctness p1 (motive := fun v2 r => TL Pg 0 0 c69.s2.s1.bd.bd (st 27 [(1, pt 0 0), (2, pt 1 0)]) [cl 29 [iv v2, iv p1], cl 29 [iv 0, iv 0]] (P69l0 p1 r)) ?_ v2 r hF
 clear hF r v2
 intro again ih v2 r hF
 refine TL.round (TS.sq (TS.sq (TS.rg (TI.ra 3 [1, 2, 5] (st 27 [(1, pt 0 0), (2, pt 1 0), (5, .bool (decide (v2 < 0)))]) (TI.dq ?_)))))
 refine TS.cd (.tmp 5) (decide (v2 < 0)) (fun hc6 => ?_) (fun hc6 => ?_)
 · replace hF := of_pos hF hc6
   refine TS.sk (NX.sq (TS.bk 1 (TS.rg (TI.rn 8 [1, 2] [0, 1] (st 27 [(1, pt 0 0), (2, pt 1 0)]) [cl 29 [iv (w64 (v2 + (w64 (3600 * p1)))), iv p1], cl 29 [iv 0, iv 0]] (TI.dn (NX.bk ?_))))))
   exact Rd.again (a2 := (st 27 [(1, pt 0 0), (2, pt 1 0)])) (h2 := [cl 29 [iv (w64 (v2 + (w64 (3600 * p1)))), iv p1], cl 29 [iv 0, iv 0]]) (Wk.an [0, 1] (.lt (.fl (.fl .nil)) (.lt (.fl (.fl .nil)) (.nil _))) [pt 0 0, pt 1 0] (.pp (.pp .nil))) (ih (w64 (v2 + (w64 (3600 * p1)))) _ hF)
 replace hF := of_neg hF hc6
 refine TS.ex 0 (NX.sqX ?_)
 have hF := sj hF
 subst hF
 exact Rd.out (e := .exit 0) (by intro h; cases h) (And.intro rfl (Wk.an [0, 1] (.lt (.fl (.fl .nil)) (.lt (.fl (.fl .nil)) (.nil _))) [pt 0 0, pt 1 0] (.pp (.pp .nil))))
def P69l1 (p1 r : Int) : Post := fun e a h => e = .exit 2 ∧ Wk Pg 0 0 a h (st 27 [(1, pt 0 0), (2, pt 1 0)]) [cl 29 [iv r, iv p1], cl 29 [iv 0, iv 0]]
theorem L69l1 (p1 v10 r : Int) (hF : F69l1 p1 v10 = some r) : TL Pg 0 0 c69.s2.s2.s1.bd.bd (st 27 [(1, pt 0 0), (2, pt 1 0)]) [cl 29 [iv v10, iv p1], cl 29 [iv 0, iv 0]] (P69l1 p1 r) := by
 refine F69l1.partial_correctness p1 (motive := fun v10 r => TL Pg 0 0 c69.s2.s2.s1.bd.bd (st 27 [(1, pt 0 0), (2, pt 1 0)]) [cl 29 [iv v10, iv p1], cl 29 [iv 0, iv 0]] (P69l1 p1 r)) ?_ v10 r hF
 clear hF r v10
 intro again ih v10 r hF
 refine TL.round (TS.sq (TS.sq (TS.rg (TI.ra 6 [1, 2, 18] (st 27 [(1, pt 0 0), (2, pt 1 0), (18, .bool (decide (v10 ≥ (w64 (3600 * p1)))))]) (TI.dq ?_)))))
 refine TS.cd (.tmp 18) (decide (v10 ≥ (w64 (3600 * p1)))) (fun hc14 => ?_) (fun hc14 => ?_)
 · replace hF := of_pos hF hc14
   refine TS.sk (NX.sq (TS.bk 3 (TS.rg (TI.rn 8 [1, 2] [0, 1] (st 27 [(1, pt 0 0), (2, pt 1 0)]) [cl 29 [iv (w64 (v10 - (w64 (3600 * p1)))), iv p1], cl 29 [iv 0, iv 0]] (TI.dn (NX.bk ?_))))))
   exact Rd.again (a2 := (st 27 [(1, pt 0 0), (2, pt 1 0)])) (h2 := [cl 29 [iv (w64 (v10 - (w64 (3600 * p1)))), iv p1], cl 29 [iv 0, iv 0]]) (Wk.an [0, 1] (.lt (.fl (.fl .nil)) (.lt (.fl (.fl .nil)) (.nil _))) [pt 0 0, pt 1 0] (.pp (.pp .nil))) (ih (w64 (v10 - (w64 (3600 * p1)))) _ hF)
 replace hF := of_neg hF hc14
 refine TS.ex 2 (NX.sqX ?_)
 have hF := sj hF
 subst hF
 exact Rd.out (e := .exit 2) (by intro h; cases h) (And.intro rfl (Wk.an [0, 1] (.lt (.fl (.fl .nil)) (.lt (.fl (.fl .nil)) (.nil _))) [pt 0 0, pt 1 0] (.pp (.pp .nil))))
theorem B69 (p0 p1 : Int) (r : I2) (hF : F69 p0 p1 = some r) : TS Pg 0 0 c69 (st 27 [(0, ag [iv p0, iv p1])]) [] (NX Pg 0 0 [] (FinP Pg Try.f69 0 (V69 0 r) (N69 0 r))) := by
 unfold F69 at hF
 refine TS.sq (TS.rg (TI.rn 2 [1, 2] [0, 1] (st 27 [(1, pt 0 0), (2, pt 1 0)]) [cl 29 [iv p0, iv p1], cl 29 [iv 0, iv 0]] (TI.dq (TS.sq (TS.bk 0 ?_)))))
 obtain ⟨r7, h8, hF⟩ := of_do hF
 refine TS.lp (TL.weak (a2 := (st 27 [(1, pt 0 0), (2, pt 1 0)])) (h2 := [cl 29 [iv p0, iv p1], cl 29 [iv 0, iv 0]]) (Wk.an [0, 1] (.lt (.fl (.fl .nil)) (.lt (.fl (.fl .nil)) (.nil _))) [pt 0 0, pt 1 0] (.pp (.pp .nil))) (TL.post (L69l0 p1 p0 r7 h8) ?_))
 rintro e a1 h1 hp
 obtain ⟨rfl, hw⟩ := hp
 refine ⟨(st 27 [(1, pt 0 0), (2, pt 1 0)]), [cl 29 [iv r7, iv p1], cl 29 [iv 0, iv 0]], (NX.bkX (NX.sq (TS.sq (TS.bk 2 ?_)))), hw⟩
 obtain ⟨r15, h16, hF⟩ := of_do hF
 refine TS.lp (TL.weak (a2 := (st 27 [(1, pt 0 0), (2, pt 1 0)])) (h2 := [cl 29 [iv r7, iv p1], cl 29 [iv 0, iv 0]]) (Wk.an [0, 1] (.lt (.fl (.fl .nil)) (.lt (.fl (.fl .nil)) (.nil _))) [pt 0 0, pt 1 0] (.pp (.pp .nil))) (TL.post (L69l1 p1 r7 r15 h16) ?_))
 rintro e a1 h1 hp
 obtain ⟨rfl, hw⟩ := hp
 refine ⟨(st 27 [(1, pt 0 0), (2, pt 1 0)]), [cl 29 [iv r15, iv p1], cl 29 [iv 0, iv 0]], (NX.bkX (NX.sq (TS.sq (TS.rg (TI.rn 2 [2] [1] (st 27 [(2, pt 1 0)]) [.dead, cl 29 [iv r15, iv p1]] (TI.dq (TS.rt ?_))))))), hw⟩
 have hF := sj hF
 subst hF
 exact ⟨.inr rfl, rfl, ag [iv r15, iv p1], by kernel_rfl, WkV.flat0 (by kernel_rfl) (nl rfl)⟩
theorem C69 (p0 p1 : Int) (r : I2) (hF : F69 p0 p1 = some r) : PureSim Pg 69 [ag [iv p0, iv p1]] [] (V69 0 r) (N69 0 r) :=
 PureSim.of_Fin Try.func69 (c := c69) (by kernel_rfl) (by kernel_rfl) 0 rfl [0] [] (by kernel_rfl) (B69 p0 p1 r hF)
noncomputable def c25 : Code := Try.f25.code
def S25_8 (p0 : List I2) (p1 : Int) (v745 : List I2) (v266 v614 v744 : Int) : CAct := (st 129 [(0, sl 0 p0), (1, iv p1), (7, accV 1 v745.length), (8, iv v266), (9, pt 2 0), (10, pt 3 0), (11, iv v614), (15, iv v744), (109, .bool true), (112, accV 1 v745.length), (113, iv v744), (114, accV 1 v745.length), (115, iv v744), (116, iv (w64 (v744 - 1))), (117, accV 1 v745.length), (118, iv v744), (119, iv (w64 (v744 - 1)))])
def S25_6 (p0 : List I2) (p1 : Int) (v745 : List I2) (v266 v614 v744 : Int) : CAct := sx (S25_8 p0 p1 v745 v266 v614 v744) [(120, pt 1 (0 + (w64 (v744 - 1)).toNat * 2))]
def S25_5 (p0 : List I2) (p1 : Int) (v745 : List I2) (v266 v614 v744 : Int) (o775 : I2) : CAct := sx (S25_6 p0 p1 v745 v266 v614 v744) [(121, ag [iv o775.1, iv o775.2])]
def S25_4 (p0 : List I2) (p1 : Int) (v745 : List I2) (v266 v614 v744 : Int) (o775 : I2) : CAct := sx (S25_5 p0 p1 v745 v266 v614 v744 o775) [(122, accV 1 v745.length), (123, iv v744)]
def S25_3 (p0 : List I2) (p1 : Int) (v745 : List I2) (v266 v614 v744 : Int) (o775 : I2) : CAct := sx (S25_4 p0 p1 v745 v266 v614 v744 o775) [(124, pt 1 (0 + v744.toNat * 2))]
def S25_2 (p0 : List I2) (p1 : Int) (v745 : List I2) (v266 v614 v744 : Int) (o775 o778 : I2) : CAct := sx (S25_3 p0 p1 v745 v266 v614 v744 o775) [(125, ag [iv o778.1, iv o778.2])]
def S25_1 (p0 : List I2) (p1 : Int) (v745 : List I2) (v266 v614 v744 : Int) (o775 o778 : I2) : CAct := sx (S25_2 p0 p1 v745 v266 v614 v744 o775 o778) [(126, pt 1 (0 + v744.toNat * 2))]
def S25_0 (p0 : List I2) (p1 : Int) (v745 : List I2) (v266 v614 v744 : Int) (o775 o778 : I2) : CAct := sx (S25_1 p0 p1 v745 v266 v614 v744 o775 o778) [(127, pt 1 (0 + (w64 (v744 - 1)).toNat * 2))]
def S25_7 (p0 : List I2) (p1 : Int) (v615 : List I2) (v266 v614 : Int) (r530 : I2 × I2) (r716 r708 r718 r720 : I2) : CAct := (st 129 [(0, sl 0 p0), (1, iv p1), (7, accV 1 v615.length), (8, iv v266), (9, pt 2 0), (10, pt 3 0), (11, iv v614), (14, pt 4 0), (83, .bool false), (84, accV 1 v615.length), (85, pt 2 0), (86, iv r530.1.1), (87, ag [iv r716.1, iv r716.2]), (88, ag [iv r708.1, iv r708.2]), (89, ag [iv r718.1, iv r718.2]), (90, ag [iv r720.1, iv r720.2]), (91, sv 5 1 1)])
def S25_11 (p0 : List I2) (p1 : Int) (v615 : List I2) (v266 v614 : Int) : CAct := (st 129 [(0, sl 0 p0), (1, iv p1), (7, accV 1 v615.length), (8, iv v266), (9, pt 2 0), (10, pt 3 0), (11, iv (w64 (v614 + 1)))])
def H25_9 (p0 v615 : List I2) (r530 : I2 × I2) (r708 : I2) : List Blk := [ab 54 e54 p0, ab 29 e29 v615, cl 54 [iv r530.1.1, iv r530.1.2], cl 54 [iv r530.2.1, iv r530.2.2], cl 29 [iv r708.1, iv r708.2]]
def H25_10 (p0 v745 : List I2) (v744 : Int) (o775 : I2) (r530 : I2 × I2) : List Blk := [ab 54 e54 p0, lb29 (List.set v745 v744.toNat (o775.1, o775.2)), cl 54 [iv r530.1.1, iv r530.1.2], cl 54 [iv r530.2.1, iv r530.2.2]]
def H25_12 (p0 v745 : List I2) (r530 : I2 × I2) : List Blk := [ab 54 e54 p0, ab 29 e29 v745, cl 54 [iv r530.1.1, iv r530.1.2], cl 54 [iv r530.2.1, iv r530.2.2]]
def H25_13 (p0 v615 : List I2) (r530 : I2 × I2) : List Blk := [ab 54 e54 p0, ab 29 e29 v615, cl 54 [iv r530.1.1, iv r530.1.2], cl 54 [iv r530.2.1, iv r530.2.2]]
def F25l2 (p0 : List I2) (p1 : Int) (r530 : I2 × I2) (v266 v614 v744 : Int) (v745 : List I2) : Option (List I2) :=
 (
  if decide (v744 > 0) then
   if (0 : Int) ≤ v744 ∧ v744 < (v745.length : Int) then
    some (List.getD v745 v744.toNat (0, 0)) >>= fun o766 =>
    if (0 : Int) ≤ w64 (v744 - 1) ∧ w64 (v744 - 1) < (v745.length : Int) then
     some (List.getD v745 (w64 (v744 - 1)).toNat (0, 0)) >>= fun o769 =>
     F68 o766.1 o766.2 o769.1 o769.2 >>= fun r771 =>
     some (r771)
    else none
   else none
  else
   some (false)
 : Option Bool) >>= fun m773 =>
 if m773 then
  if (0 : Int) ≤ w64 (v744 - 1) ∧ w64 (v744 - 1) < (v745.length : Int) then
   some (List.getD v745 (w64 (v744 - 1)).toNat (0, 0)) >>= fun o775 =>
   if (0 : Int) ≤ v744 ∧ v744 < (v745.length : Int) then
    some (List.getD v745 v744.toNat (0, 0)) >>= fun o778 =>
    F25l2 p0 p1 r530 v266 v614 (w64 (v744 - 1)) (List.set (List.set v745 v744.toNat (o775.1, o775.2)) (w64 (v744 - 1)).toNat (o778.1, o778.2))
   else none
  else none
 else
  some v745
 partial_fixpoint
def F25l1 (p0 : List I2) (p1 : Int) (r530 : I2 × I2) (v266 v614 : Int) (v615 : List I2) : Option (Unit ⊕ (List I2)) :=
 if decide (v614 ≤ 2) then
  some (w64 ((w64 ((w64 (p1 + (w64 (v614 * 3600)))) - r530.1.1)) - r530.1.2)) >>= fun o702 =>
  F61 p0 v266 >>= fun r704 =>
  if r704 == 0 then
   if o702 == 0 then
    some (.inl ())
   else
    F25l1 p0 p1 r530 v266 (w64 (v614 + 1)) v615
  else
   F67 (w64 (o702 * (w64 (r530.2.1 - r530.1.1)))) r704 >>= fun r708 =>
   (
    if decide (r708.1 < 0) then
     some (true)
    else
     F59 (w64 (r530.2.1 - r530.1.1)) >>= fun r711 =>
     F68 r708.1 r708.2 r711.1 r711.2 >>= fun r713 =>
     some (!r713)
   : Option Bool) >>= fun m715 =>
   if m715 then
    F25l1 p0 p1 r530 v266 (w64 (v614 + 1)) v615
   else
    F59 r530.1.1 >>= fun r716 =>
    F70 r716.1 r716.2 r708.1 r708.2 >>= fun r718 =>
    F69 r718.1 r718.2 >>= fun r720 =>
    if List.length v615 ≤ 1000000000 then
     F25l2 p0 p1 r530 v266 v614 (w64 ((List.length (v615 ++ [(r720.1, r720.2)]) : Int) - 1)) (v615 ++ [(r720.1, r720.2)]) >>= fun r781 =>
     F25l1 p0 p1 r530 v266 (w64 (v614 + 1)) r781
    else none
 else
  some (.inr v615)
 partial_fixpoint
def F25l0 (p0 : List I2) (p1 : Int) (v267 : List I2) (v266 : Int) : Option (Unit ⊕ (List I2)) :=
 if decide (v266 < (p0.length : Int)) then
  F66 p0 v266 >>= fun r530 =>
  F25l1 p0 p1 r530 v266 (-2) v267 >>= fun r784 =>
  match r784 with
  | .inl o786 =>
   some (.inl ())
  | .inr o787 =>
   F25l0 p0 p1 o787 (w64 (v266 + 1))
 else
  some (.inr v267)
 partial_fixpoint
def F25 (p0 : List I2) (p1 : Int) : Option ((List I2) × Int) :=
 F23 p0 >>= fun r1 =>
 (
  if r1 == 0 then
   F57 p1 >>= fun r4 =>
   some (!r4)
  else
   some (false)
 : Option Bool) >>= fun m6 =>
 (
  if m6 then
   some 1
  else
   some r1
 : Option Int) >>= fun m9 =>
 if m9 != 0 then
  some ([], m9)
 else
  F25l0 p0 p1 ([]) 0 >>= fun r788 =>
  match r788 with
  | .inl o790 =>
   some ([], 16)
  | .inr o791 =>
   some (o791, 0)
def V25 (b : Nat) (r : (List I2) × Int) : Value := .tuple ⟨[accV (b + 0) r.1.length, iv r.2]⟩
def N25 (b : Nat) (r : (List I2) × Int) : List Blk := [ab 29 e29 r.1]
def P25l2 (p0 : List I2) (p1 : Int) (r530 : I2 × I2) (v266 v614 : Int) (r : List I2) : Post := fun e a h => e = .exit 4 ∧ Wk Pg 1 1 a h (st 129 [(0, sl 0 p0), (1, iv p1), (7, accV 1 r.length), (8, iv v266), (9, pt 2 0), (10, pt 3 0), (11, iv v614)]) [ab 54 e54 p0, ab 29 e29 r, cl 54 [iv r530.1.1, iv r530.1.2], cl 54 [iv r530.2.1, iv r530.2.2]]
theorem L25l2 (p0 : List I2) (p1 : Int) (r530 : I2 × I2) (v266 v614 v744 : Int) (v745 r : List I2) (hF : F25l2 p0 p1 r530 v266 v614 v744 v745 = some r) : TL Pg 1 1 c25.s2.s2.s2.s2.s2.s1.s2.bd.bd.s2.s1.bd.s2.s2.bd.bd.s2.s1.bd.s2.s2.s2.s2.s2.s2.s2.bd.bd (st 129 [(0, sl 0 p0), (1, iv p1), (7, accV 1 v745.length), (8, iv v266), (9, pt 2 0), (10, pt 3 0), (11, iv v614), (15, iv v744)]) (H25_12 p0 v745 r530) (P25l2 p0 p1 r530 v266 v614 r) := by
 refine F25l2.partial_correctness p0 p1 r530 v266 v614 (motive := fun v744 v745 r => TL Pg 1 1 c25.s2.s2.s2.s2.s2.s1.s2.bd.bd.s2.s1.bd.s2.s2.bd.bd.s2.s1.bd.s2.s2.s2.s2.s2.s2.s2.bd.bd (st 129 [(0, sl 0 p0), (1, iv p1), (7, accV 1 v745.length), (8, iv v266), (9, pt 2 0), (10, pt 3 0), (11, iv v614), (15, iv v744)]) (H25_12 p0 v745 r530) (P25l2 p0 p1 r530 v266 v614 r)) ?_ v744 v745 r hF
 clear hF r v744 v745
 intro again ih v744 v745 r hF
 refine TL.round (TS.sq (TS.sq ?_))
 obtain ⟨m773, hm780, hF⟩ := of_do hF
 have hK : NX Pg 1 1 [.sq c25.s2.s2.s2.s2.s2.s1.s2.bd.bd.s2.s1.bd.s2.s2.bd.bd.s2.s1.bd.s2.s2.s2.s2.s2.s2.s2.bd.bd.s1.s2, .sq c25.s2.s2.s2.s2.s2.s1.s2.bd.bd.s2.s1.bd.s2.s2.bd.bd.s2.s1.bd.s2.s2.s2.s2.s2.s2.s2.bd.bd.s2] (Rd Pg 1 1 c25.s2.s2.s2.s2.s2.s1.s2.bd.bd.s2.s1.bd.s2.s2.bd.bd.s2.s1.bd.s2.s2.s2.s2.s2.s2.s2.bd.bd (P25l2 p0 p1 r530 v266 v614 r)) .normal (st 129 [(0, sl 0 p0), (1, iv p1), (7, accV 1 v745.length), (8, iv v266), (9, pt 2 0), (10, pt 3 0), (11, iv v614), (15, iv v744), (109, .bool m773)]) (H25_12 p0 v745 r530) := by
  refine NX.sq ?_
  cases m773 with
  | true =>
   replace hF := of_pos hF rfl
   refine TS.cdT (.tmp 109) (TS.sk (NX.sq (TS.sq (TS.bk 5 ?_))))
   obtain ⟨hg774, hF⟩ := of_guard hF
   obtain ⟨o775, h776, hF⟩ := of_do hF
   replace h776 := sj h776
   obtain ⟨hg777, hF⟩ := of_guard hF
   obtain ⟨o778, h779, hF⟩ := of_do hF
   replace h779 := sj h779
   refine TS.drawE (id := 25) (b := true) (ops := c25.s2.s2.s2.s2.s2.s1.s2.bd.bd.s2.s1.bd.s2.s2.bd.bd.s2.s1.bd.s2.s2.s2.s2.s2.s2.s2.bd.bd.s2.s1.bd.rops) (fin := (qs (S25_1 p0 p1 v745 v266 v614 v744 o775 o778) (H25_10 p0 v745 v744 o775 r530) [] [(15, 1)])) (fin2 := (qs (S25_1 p0 p1 v745 v266 v614 v744 o775 o778) (H25_10 p0 v745 v744 o775 r530) [] [(15, 1)])) (a1 := (S25_0 p0 p1 v745 v266 v614 v744 o775 o778)) (h1 := [ab 54 e54 p0, lb29 (List.set (List.set v745 v744.toNat (o775.1, o775.2)) (w64 (v744 - 1)).toNat (o778.1, o778.2)), cl 54 [iv r530.1.1, iv r530.1.2], cl 54 [iv r530.2.1, iv r530.2.2]]) [] (fun e he => by cases he) mixed (by kernel_rfl) rfl 16 (by kernel_rfl) [(15, 1)] ?_ rfl (.inr ⟨?_, (by kernel_rfl)⟩) ?_ ?_
   iterate 2
    · refine QI.r (qs (S25_8 p0 p1 v745 v266 v614 v744) (H25_12 p0 v745 r530) [] []) 8 (QI.o { val := pt 1 (0 + (w64 (v744 - 1)).toNat * 2) } (qs (S25_6 p0 p1 v745 v266 v614 v744) (H25_12 p0 v745 r530) [] []) (q_ixAcc (P := Pg) (t := 42) (s := 2) (e := 29) 1 v745.length (by kernel_rfl) hg774 (by kernel_rfl) (by kernel_rfl)) (QI.o { val := ag [iv o775.1, iv o775.2] } (qs (S25_5 p0 p1 v745 v266 v614 v744 o775) (H25_12 p0 v745 r530) [] []) (q_nAa Pg (H25_12 p0 v745 r530) 29 1 (0 + (w64 (v744 - 1)).toNat * 2) v745 e29 2 29 (w64 (v744 - 1)).toNat (0, 0) h776) (QI.r (qs (S25_4 p0 p1 v745 v266 v614 v744 o775) (H25_12 p0 v745 r530) [] []) 2 (QI.o { val := pt 1 (0 + v744.toNat * 2) } (qs (S25_3 p0 p1 v745 v266 v614 v744 o775) (H25_12 p0 v745 r530) [] []) (q_ixAcc (P := Pg) (t := 42) (s := 2) (e := 29) 1 v745.length (by kernel_rfl) hg777 (by kernel_rfl) (by kernel_rfl)) (QI.o { val := ag [iv o778.1, iv o778.2] } (qs (S25_2 p0 p1 v745 v266 v614 v744 o775 o778) (H25_12 p0 v745 r530) [] []) (q_nAa Pg (H25_12 p0 v745 r530) 29 1 (0 + v744.toNat * 2) v745 e29 2 29 v744.toNat (0, 0) h779) (QI.o { val := pt 1 (0 + v744.toNat * 2) } (qs (S25_1 p0 p1 v745 v266 v614 v744 o775 o778) (H25_12 p0 v745 r530) [] []) (q_ixAcc (P := Pg) (t := 42) (s := 2) (e := 29) 1 v745.length (by kernel_rfl) hg777 (by kernel_rfl) (by kernel_rfl)) ?_))))))
      exact QI.o { val := undef, upd := some (1, lb29 (List.set v745 v744.toNat (o775.1, o775.2))) } (qs (S25_1 p0 p1 v745 v266 v614 v744 o775 o778) (H25_10 p0 v745 v744 o775 r530) [] [(15, 1)]) (q_st (P := Pg) (base := 1) (hp := (H25_12 p0 v745 r530)) (t := 29) (b := 1) (off := 0 + v744.toNat * 2) (l := v745) (enc := e29) (s := 2) (T := 29) (i := Int.toNat v744) (k := 0) (n := 2) (y := ag [iv o775.1, iv o775.2]) (xs := [iv o775.1, iv o775.2]) (0, 0) (o775.1, o775.2) (by kernel_rfl) (accB_at (h := (H25_12 p0 v745 r530)) (n := List.length v745) (i := Int.toNat v744) (by kernel_rfl) (by first | omega | (simp <;> omega))) (by decide) (by kernel_rfl) (by kernel_rfl) rfl (by kernel_rfl) (fun _ => rfl) (by omega) (nl rfl) (by first | omega | (simp <;> omega)) rfl) (QI.done (by kernel_rfl))
   · refine SI.o { val := pt 1 (0 + (w64 (v744 - 1)).toNat * 2) } (S25_0 p0 p1 v745 v266 v614 v744 o775 o778) (H25_10 p0 v745 v744 o775 r530) (q_ixAcc (P := Pg) (t := 42) (s := 2) (e := 29) 1 v745.length (by kernel_rfl) hg774 (by kernel_rfl) (by kernel_rfl)) ?_
     exact SI.o { val := undef, upd := some (1, lb29 (List.set (List.set v745 v744.toNat (o775.1, o775.2)) (w64 (v744 - 1)).toNat (o778.1, o778.2))) } (S25_0 p0 p1 v745 v266 v614 v744 o775 o778) [ab 54 e54 p0, lb29 (List.set (List.set v745 v744.toNat (o775.1, o775.2)) (w64 (v744 - 1)).toNat (o778.1, o778.2)), cl 54 [iv r530.1.1, iv r530.1.2], cl 54 [iv r530.2.1, iv r530.2.2]] (q_stP Pg 1 (H25_10 p0 v745 v744 o775 r530) 29 1 (0 + (w64 (v744 - 1)).toNat * 2) (List.set v745 v744.toNat (o775.1, o775.2)) e29 2 29 (w64 (v744 - 1)).toNat 0 2 (ag [iv o778.1, iv o778.2]) [iv o778.1, iv o778.2] (0, 0) (o778.1, o778.2) (by first | omega | (simp <;> omega))) (SI.done (by kernel_rfl))
   refine NX.bk (NX.sq (TS.rg (TI.ra 3 [0, 1, 7, 8, 9, 10, 11, 15] (st 129 [(0, sl 0 p0), (1, iv p1), (7, accV 1 v745.length), (8, iv v266), (9, pt 2 0), (10, pt 3 0), (11, iv v614), (15, iv (w64 (v744 - 1)))]) (TI.dn ?_))))
   exact Rd.again (a2 := (st 129 [(0, sl 0 p0), (1, iv p1), (7, accV 1 (List.length (List.set (List.set v745 v744.toNat (o775.1, o775.2)) (w64 (v744 - 1)).toNat (o778.1, o778.2)))), (8, iv v266), (9, pt 2 0), (10, pt 3 0), (11, iv v614), (15, iv (w64 (v744 - 1)))])) (h2 := [ab 54 e54 p0, accB 29 (List.length (List.set (List.set v745 v744.toNat (o775.1, o775.2)) (w64 (v744 - 1)).toNat (o778.1, o778.2))) (List.flatMap e29 (List.set (List.set v745 v744.toNat (o775.1, o775.2)) (w64 (v744 - 1)).toNat (o778.1, o778.2))), cl 54 [iv r530.1.1, iv r530.1.2], cl 54 [iv r530.2.1, iv r530.2.2]]) (Wk.an [1, 2, 3] (.ac (.cons (At.accU (by kernel_rfl) rfl (fun _ => rfl)) (.lt (.fl (.fl .nil)) (.lt (.fl (.fl .nil)) (.nil _))))) [sl 0 p0, iv p1, accV 1 v745.length, iv v266, pt 2 0, pt 3 0, iv v614, iv (w64 (v744 - 1))] (.sl (.fl (.cons (accE (c := List.length (List.set (List.set v745 v744.toNat (o775.1, o775.2)) (w64 (v744 - 1)).toNat (o778.1, o778.2))) (c' := List.length v745) (nl rfl) rfl (by simp only [List.length_set])) (.fl (.pp (.pp (.fl (.fl .nil))))))))) (ih (w64 (v744 - 1)) (List.set (List.set v745 v744.toNat (o775.1, o775.2)) (w64 (v744 - 1)).toNat (o778.1, o778.2)) _ hF)
  | false =>
   replace hF := of_neg hF rfl
   refine TS.cdF (.tmp 109) (TS.ex 4 (NX.sqX ?_))
   have hF := sj hF
   subst hF
   exact Rd.out (e := .exit 4) (by intro h; cases h) (And.intro rfl (Wk.an [1, 2, 3] (.ac (.ac (.lt (.fl (.fl .nil)) (.lt (.fl (.fl .nil)) (.nil _))))) [sl 0 p0, iv p1, accV 1 v745.length, iv v266, pt 2 0, pt 3 0, iv v614] (.sl (.fl (.cons (Rn.acc (nl rfl) rfl) (.fl (.pp (.pp (.fl .nil)))))))))
 rcases Bool.eq_false_or_eq_true (decide (v744 > 0)) with hc764 | hc764
 · replace hm780 := of_pos hm780 hc764
   obtain ⟨hg765, hm780⟩ := of_guard hm780
   obtain ⟨o766, h767, hm780⟩ := of_do hm780
   replace h767 := sj h767
   obtain ⟨hg768, hm780⟩ := of_guard hm780
   obtain ⟨o769, h770, hm780⟩ := of_do hm780
   replace h770 := sj h770
   obtain ⟨r771, h772, hm780⟩ := of_do hm780
   have hm780 := sj hm780
   subst hm780
   have hT : ∀ e ∈ ([⟨68, [ag [iv o766.1, iv o766.2], ag [iv o769.1, iv o769.2]], (H25_12 p0 v745 r530), .bool r771, []⟩] : List Entry), PureSim Pg e.g e.args e.h e.v e.new := by
    intro e he
    simp only [List.mem_cons, List.not_mem_nil, or_false] at he
    rcases he with rfl
    exact PureSim.ak (C68 _ _ _ _ _ h772)
   refine TS.dp [⟨68, [ag [iv o766.1, iv o766.2], ag [iv o769.1, iv o769.2]], (H25_12 p0 v745 r530), .bool r771, []⟩] hT mixed 12 [0, 1, 7, 8, 9, 10, 11, 15, 109] [0, 1, 2, 3] (st 129 [(0, sl 0 p0), (1, iv p1), (7, accV 1 v745.length), (8, iv v266), (9, pt 2 0), (10, pt 3 0), (11, iv v614), (15, iv v744), (109, .bool r771)]) (H25_12 p0 v745 r530) ?_ ?_
   · refine QJ.rn (qs (st 129 [(0, sl 0 p0), (1, iv p1), (7, accV 1 v745.length), (8, iv v266), (9, pt 2 0), (10, pt 3 0), (11, iv v614), (15, iv v744), (96, iv v744)]) (H25_12 p0 v745 r530) [] []) 1 (QJ.o { val := .bool true } (q_conv (e := decide (v744 > 0)) (b := true) (by kernel_rfl) hc764) (QJ.rn (qs (st 129 [(0, sl 0 p0), (1, iv p1), (7, accV 1 v745.length), (8, iv v266), (9, pt 2 0), (10, pt 3 0), (11, iv v614), (15, iv v744), (96, iv v744), (97, .bool true), (98, .bool true), (99, accV 1 v745.length), (100, iv v744)]) (H25_12 p0 v745 r530) [] []) 3 (QJ.o { val := pt 1 (0 + v744.toNat * 2) } (q_ixAcc (P := Pg) (t := 42) (s := 2) (e := 29) 1 v745.length (by kernel_rfl) hg765 (by kernel_rfl) (by kernel_rfl)) (QJ.o { val := ag [iv o766.1, iv o766.2] } (q_nAa Pg (H25_12 p0 v745 r530) 29 1 (0 + v744.toNat * 2) v745 e29 2 29 v744.toNat (0, 0) h767) (QJ.rn (qs (st 129 [(0, sl 0 p0), (1, iv p1), (7, accV 1 v745.length), (8, iv v266), (9, pt 2 0), (10, pt 3 0), (11, iv v614), (15, iv v744), (96, iv v744), (97, .bool true), (98, .bool true), (99, accV 1 v745.length), (100, iv v744), (101, pt 1 (0 + v744.toNat * 2)), (102, ag [iv o766.1, iv o766.2]), (103, accV 1 v745.length), (104, iv v744), (105, iv (w64 (v744 - 1)))]) (H25_12 p0 v745 r530) [] []) 3 (QJ.o { val := pt 1 (0 + (w64 (v744 - 1)).toNat * 2) } (q_ixAcc (P := Pg) (t := 42) (s := 2) (e := 29) 1 v745.length (by kernel_rfl) hg768 (by kernel_rfl) (by kernel_rfl)) (QJ.o { val := ag [iv o769.1, iv o769.2] } (q_nAa Pg (H25_12 p0 v745 r530) 29 1 (0 + (w64 (v744 - 1)).toNat * 2) v745 e29 2 29 (w64 (v744 - 1)).toNat (0, 0) h770) (QJ.dn ⟨rfl, ?_⟩))))))))
     exact SJ.o { val := .bool r771, new := [] } (qOf_call (g := 68) (args := [ag [iv o766.1, iv o766.2], ag [iv o769.1, iv o769.2]]) (by kernel_rfl) lookC_hit) SJ.la
   exact hK
 replace hm780 := of_neg hm780 hc764
 have hm780 := sj hm780
 subst hm780
 refine TS.dp [] (fun e he => by cases he) mixed 12 [0, 1, 7, 8, 9, 10, 11, 15, 109] [0, 1, 2, 3] (st 129 [(0, sl 0 p0), (1, iv p1), (7, accV 1 v745.length), (8, iv v266), (9, pt 2 0), (10, pt 3 0), (11, iv v614), (15, iv v744), (109, .bool false)]) (H25_12 p0 v745 r530) ?_ ?_
 · exact QJ.rn (qs (st 129 [(0, sl 0 p0), (1, iv p1), (7, accV 1 v745.length), (8, iv v266), (9, pt 2 0), (10, pt 3 0), (11, iv v614), (15, iv v744), (96, iv v744)]) (H25_12 p0 v745 r530) [] []) 1 (QJ.o { val := .bool false } (q_conv (e := decide (v744 > 0)) (b := false) (by kernel_rfl) hc764) (QJ.rn (qs (st 129 [(0, sl 0 p0), (1, iv p1), (7, accV 1 v745.length), (8, iv v266), (9, pt 2 0), (10, pt 3 0), (11, iv v614), (15, iv v744), (96, iv v744), (97, .bool false), (98, .bool false), (99, undef), (100, undef), (101, undef), (102, undef), (103, undef), (104, undef), (105, undef), (106, undef), (107, undef)]) (H25_12 p0 v745 r530) [] []) 10 (QJ.dn ⟨rfl, SJ.la⟩)))
 exact hK
def P25l1 (p0 : List I2) (p1 : Int) (r530 : I2 × I2) (v266 : Int) (r : Unit ⊕ (List I2)) : Post := fun e a h => (match r with | .inl q0 => e = .ret ∧ Wk Pg 1 1 a h (st 129 [(4, .slice none 0 0), (5, iv 16)]) [ab 54 e54 p0] | .inr q0 => e = .exit 2 ∧ Wk Pg 1 1 a h (st 129 [(0, sl 0 p0), (1, iv p1), (7, accV 1 q0.length), (8, iv v266)]) [ab 54 e54 p0, ab 29 e29 q0])
theorem L25l1 (p0 : List I2) (p1 : Int) (r530 : I2 × I2) (v266 v614 : Int) (v615 : List I2) (r : Unit ⊕ (List I2)) (hF : F25l1 p0 p1 r530 v266 v614 v615 = some r) : TL Pg 1 1 c25.s2.s2.s2.s2.s2.s1.s2.bd.bd.s2.s1.bd.s2.s2.bd.bd (st 129 [(0, sl 0 p0), (1, iv p1), (7, accV 1 v615.length), (8, iv v266), (9, pt 2 0), (10, pt 3 0), (11, iv v614)]) (H25_13 p0 v615 r530) (P25l1 p0 p1 r530 v266 r) := by
 refine F25l1.partial_correctness p0 p1 r530 v266 (motive := fun v614 v615 r => TL Pg 1 1 c25.s2.s2.s2.s2.s2.s1.s2.bd.bd.s2.s1.bd.s2.s2.bd.bd (st 129 [(0, sl 0 p0), (1, iv p1), (7, accV 1 v615.length), (8, iv v266), (9, pt 2 0), (10, pt 3 0), (11, iv v614)]) (H25_13 p0 v615 r530) (P25l1 p0 p1 r530 v266 r)) ?_ v614 v615 r hF
 clear hF r v614 v615
 intro again ih v614 v615 r hF
 refine TL.round (TS.sq (TS.sq (TS.rg (TI.ra 2 [0, 1, 7, 8, 9, 10, 11, 41] (st 129 [(0, sl 0 p0), (1, iv p1), (7, accV 1 v615.length), (8, iv v266), (9, pt 2 0), (10, pt 3 0), (11, iv v614), (41, .bool (decide (v614 ≤ 2)))]) (TI.dq ?_)))))
 refine TS.cd (.tmp 41) (decide (v614 ≤ 2)) (fun hc701 => ?_) (fun hc701 => ?_)
 · replace hF := of_pos hF hc701
   refine TS.sk (NX.sq (TS.sq (TS.bk 3 (TS.sq ?_))))
   obtain ⟨o702, h703, hF⟩ := of_do hF
   replace h703 := sj h703
   refine TS.rg (TI.ra 9 [0, 1, 7, 8, 9, 10, 11, 50, 52] (st 129 [(0, sl 0 p0), (1, iv p1), (7, accV 1 v615.length), (8, iv v266), (9, pt 2 0), (10, pt 3 0), (11, iv v614), (50, iv (w64 ((w64 (p1 + (w64 (v614 * 3600)))) - r530.1.1))), (52, iv r530.1.2)]) (TI.o { val := iv o702 } (q_convI (e := w64 ((w64 ((w64 (p1 + (w64 (v614 * 3600)))) - r530.1.1)) - r530.1.2)) (y := o702) (by kernel_rfl) h703) [0, 1, 7, 8, 9, 10, 11, 53] [0, 1, 2, 3] (st 129 [(0, sl 0 p0), (1, iv p1), (7, accV 1 v615.length), (8, iv v266), (9, pt 2 0), (10, pt 3 0), (11, iv v614), (53, iv o702)]) (H25_13 p0 v615 r530) (TI.ra 1 [0, 1, 7, 8, 9, 10, 11, 12] (st 129 [(0, sl 0 p0), (1, iv p1), (7, accV 1 v615.length), (8, iv v266), (9, pt 2 0), (10, pt 3 0), (11, iv v614), (12, iv o702)]) (TI.dq (TS.sq ?_)))))
   obtain ⟨r704, h705, hF⟩ := of_do hF
   refine TS.rg (TI.ra 2 [0, 1, 7, 8, 9, 10, 11, 12, 54, 55] (st 129 [(0, sl 0 p0), (1, iv p1), (7, accV 1 v615.length), (8, iv v266), (9, pt 2 0), (10, pt 3 0), (11, iv v614), (12, iv o702), (54, sl 0 p0), (55, iv v266)]) (TI.cp 61 [sl 0 p0, iv v266] (iv r704) [] (PureSim.ren (hc := [ab 54 e54 p0]) (fun i => List.getD [(0, 0)] i (0, 0)) (C61 _ _ _ h705) (.ac (.nil _)) (.cons (Rn.any _ _ _ _ _ _ (nl rfl) rfl rfl (by decide)) (.fl .nil)) (.flat (by kernel_rfl)) newflat_nil) (TI.ra 1 [0, 1, 7, 8, 9, 10, 11, 12, 13] (st 129 [(0, sl 0 p0), (1, iv p1), (7, accV 1 v615.length), (8, iv v266), (9, pt 2 0), (10, pt 3 0), (11, iv v614), (12, iv o702), (13, iv r704)]) (TI.dq (TS.sq (TS.sq (TS.rg ?_)))))))
   refine TI.ra 2 [0, 1, 7, 8, 9, 10, 11, 12, 13, 58] (st 129 [(0, sl 0 p0), (1, iv p1), (7, accV 1 v615.length), (8, iv v266), (9, pt 2 0), (10, pt 3 0), (11, iv v614), (12, iv o702), (13, iv r704), (58, .bool (r704 == 0))]) (TI.dq ?_)
   refine TS.cd (.tmp 58) (r704 == 0) (fun hc706 => ?_) (fun hc706 => ?_)
   · replace hF := of_pos hF hc706
     refine TS.sq (TS.sq (TS.rg (TI.ra 2 [0, 1, 7, 8, 9, 10, 11, 60] (st 129 [(0, sl 0 p0), (1, iv p1), (7, accV 1 v615.length), (8, iv v266), (9, pt 2 0), (10, pt 3 0), (11, iv v614), (60, .bool (o702 == 0))]) (TI.dq ?_))))
     refine TS.cd (.tmp 60) (o702 == 0) (fun hc707 => ?_) (fun hc707 => ?_)
     · replace hF := of_pos hF hc707
       refine TS.sq (TS.rg (TI.rn 2 [4, 5] [0] (st 129 [(4, .slice none 0 0), (5, iv 16)]) [ab 54 e54 p0, .dead, .dead, .dead] (TI.dq (TS.rt (NX.sqR (NX.sqR (NX.bkR ?_)))))))
       refine NX.sqR ?_
       have hF := sj hF
       subst hF
       exact Rd.out (e := .ret) (by intro h; cases h) (And.intro rfl (Wk.an [] (.ac (.nil _)) [.slice none 0 0, iv 16] (.fl (.fl .nil))))
     replace hF := of_neg hF hc707
     refine TS.sk (NX.sq (TS.ex 3 (NX.sqX (NX.bkX (NX.sq (TS.rg (TI.ra 3 [0, 1, 7, 8, 9, 10, 11] (S25_11 p0 p1 v615 v266 v614) (TI.dn ?_))))))))
     exact Rd.again (a2 := (S25_11 p0 p1 v615 v266 v614)) (h2 := (H25_13 p0 v615 r530)) (Wk.an [1, 2, 3] (.ac (.ac (.lt (.fl (.fl .nil)) (.lt (.fl (.fl .nil)) (.nil _))))) [sl 0 p0, iv p1, accV 1 v615.length, iv v266, pt 2 0, pt 3 0, iv (w64 (v614 + 1))] (.sl (.fl (.cons (Rn.acc (nl rfl) rfl) (.fl (.pp (.pp (.fl .nil)))))))) (ih (w64 (v614 + 1)) v615 _ hF)
   replace hF := of_neg hF hc706
   refine TS.sk (NX.sq (TS.sq ?_))
   obtain ⟨r708, h709, hF⟩ := of_do hF
   refine TS.rg (TI.ra 8 [0, 1, 7, 8, 9, 10, 11, 67, 68] (st 129 [(0, sl 0 p0), (1, iv p1), (7, accV 1 v615.length), (8, iv v266), (9, pt 2 0), (10, pt 3 0), (11, iv v614), (67, iv (w64 (o702 * (w64 (r530.2.1 - r530.1.1))))), (68, iv r704)]) (TI.cf (C67 _ _ _ h709) (TI.rn 2 [0, 1, 7, 8, 9, 10, 11, 14] [0, 1, 2, 3, 4] (st 129 [(0, sl 0 p0), (1, iv p1), (7, accV 1 v615.length), (8, iv v266), (9, pt 2 0), (10, pt 3 0), (11, iv v614), (14, pt 4 0)]) (H25_9 p0 v615 r530 r708) (TI.dq (TS.sq (TS.sq ?_))))))
   obtain ⟨m715, hm783, hF⟩ := of_do hF
   have hK : NX Pg 1 1 [.sq c25.s2.s2.s2.s2.s2.s1.s2.bd.bd.s2.s1.bd.s2.s2.bd.bd.s2.s1.bd.s2.s2.s2.s2.s1.s2, .sq c25.s2.s2.s2.s2.s2.s1.s2.bd.bd.s2.s1.bd.s2.s2.bd.bd.s2.s1.bd.s2.s2.s2.s2.s2, .bk 3, .sq c25.s2.s2.s2.s2.s2.s1.s2.bd.bd.s2.s1.bd.s2.s2.bd.bd.s2.s2] (Rd Pg 1 1 c25.s2.s2.s2.s2.s2.s1.s2.bd.bd.s2.s1.bd.s2.s2.bd.bd (P25l1 p0 p1 r530 v266 r)) .normal (st 129 [(0, sl 0 p0), (1, iv p1), (7, accV 1 v615.length), (8, iv v266), (9, pt 2 0), (10, pt 3 0), (11, iv v614), (14, pt 4 0), (83, .bool m715)]) (H25_9 p0 v615 r530 r708) := by
    refine NX.sq ?_
    cases m715 with
    | true =>
     replace hF := of_pos hF rfl
     refine TS.cdT (.tmp 83) (TS.ex 3 (NX.sqX (NX.bkX (NX.sq (TS.rg (TI.rn 3 [0, 1, 7, 8, 9, 10, 11] [0, 1, 2, 3] (S25_11 p0 p1 v615 v266 v614) [ab 54 e54 p0, ab 29 e29 v615, cl 54 [iv r530.1.1, iv r530.1.2], cl 54 [iv r530.2.1, iv r530.2.2], .dead] (TI.dn ?_)))))))
     exact Rd.again (a2 := (S25_11 p0 p1 v615 v266 v614)) (h2 := (H25_13 p0 v615 r530)) (Wk.an [1, 2, 3] (.ac (.ac (.lt (.fl (.fl .nil)) (.lt (.fl (.fl .nil)) (.nil _))))) [sl 0 p0, iv p1, accV 1 v615.length, iv v266, pt 2 0, pt 3 0, iv (w64 (v614 + 1))] (.sl (.fl (.cons (Rn.acc (nl rfl) rfl) (.fl (.pp (.pp (.fl .nil)))))))) (ih (w64 (v614 + 1)) v615 _ hF)
    | false =>
     replace hF := of_neg hF rfl
     refine TS.cdF (.tmp 83) (TS.sk (NX.sq (TS.sq ?_)))
     obtain ⟨r716, h717, hF⟩ := of_do hF
     obtain ⟨r718, h719, hF⟩ := of_do hF
     obtain ⟨r720, h721, hF⟩ := of_do hF
     obtain ⟨hg722, hF⟩ := of_guard hF
     have hT : ∀ e ∈ ([⟨59, [iv r530.1.1], (H25_9 p0 v615 r530 r708), ag [iv r716.1, iv r716.2], []⟩, ⟨70, [ag [iv r716.1, iv r716.2], ag [iv r708.1, iv r708.2]], (H25_9 p0 v615 r530 r708), ag [iv r718.1, iv r718.2], []⟩, ⟨69, [ag [iv r718.1, iv r718.2]], (H25_9 p0 v615 r530 r708), ag [iv r720.1, iv r720.2], []⟩] : List Entry), PureSim Pg e.g e.args e.h e.v e.new := by
      intro e he
      simp only [List.mem_cons, List.not_mem_nil, or_false] at he
      rcases he with rfl | rfl | rfl
      · exact PureSim.ak (C59 _ _ h717)
      · exact PureSim.ak (C70 _ _ _ _ _ h719)
      exact PureSim.ak (C69 _ _ _ h721)
     refine TS.drawT [⟨59, [iv r530.1.1], (H25_9 p0 v615 r530 r708), ag [iv r716.1, iv r716.2], []⟩, ⟨70, [ag [iv r716.1, iv r716.2], ag [iv r708.1, iv r708.2]], (H25_9 p0 v615 r530 r708), ag [iv r718.1, iv r718.2], []⟩, ⟨69, [ag [iv r718.1, iv r718.2]], (H25_9 p0 v615 r530 r708), ag [iv r720.1, iv r720.2], []⟩] hT mixed 8 [] (S25_7 p0 p1 v615 v266 v614 r530 r716 r708 r718 r720) [ab 54 e54 p0, ab 29 e29 v615, cl 54 [iv r530.1.1, iv r530.1.2], cl 54 [iv r530.2.1, iv r530.2.2], cl 29 [iv r708.1, iv r708.2], cl 29 [iv r720.1, iv r720.2]] ?_ ?_
     · exact QJ.rn (qs (st 129 [(0, sl 0 p0), (1, iv p1), (7, accV 1 v615.length), (8, iv v266), (9, pt 2 0), (10, pt 3 0), (11, iv v614), (14, pt 4 0), (83, .bool false), (84, accV 1 v615.length), (85, pt 2 0), (86, iv r530.1.1)]) (H25_9 p0 v615 r530 r708) [] []) 3 (QJ.o { val := ag [iv r716.1, iv r716.2], new := [] } (qOf_call (g := 59) (args := [iv r530.1.1]) (by kernel_rfl) lookC_hit) (QJ.rn (qs (st 129 [(0, sl 0 p0), (1, iv p1), (7, accV 1 v615.length), (8, iv v266), (9, pt 2 0), (10, pt 3 0), (11, iv v614), (14, pt 4 0), (83, .bool false), (84, accV 1 v615.length), (85, pt 2 0), (86, iv r530.1.1), (87, ag [iv r716.1, iv r716.2]), (88, ag [iv r708.1, iv r708.2])]) (H25_9 p0 v615 r530 r708) [] []) 1 (QJ.o { val := ag [iv r718.1, iv r718.2], new := [] } (qOf_call (g := 70) (args := [ag [iv r716.1, iv r716.2], ag [iv r708.1, iv r708.2]]) (by kernel_rfl) (lookC_skip (fun hg => absurd (show (59 : Nat) = 70 from hg) (by decide)) lookC_hit)) (QJ.o { val := ag [iv r720.1, iv r720.2], new := [] } (qOf_call (g := 69) (args := [ag [iv r718.1, iv r718.2]]) (by kernel_rfl) (lookC_skip (fun hg => absurd (show (59 : Nat) = 69 from hg) (by decide)) (lookC_skip (fun hg => absurd (show (70 : Nat) = 69 from hg) (by decide)) lookC_hit))) (QJ.rn (qs (S25_7 p0 p1 v615 v266 v614 r530 r716 r708 r718 r720) [ab 54 e54 p0, ab 29 e29 v615, cl 54 [iv r530.1.1, iv r530.1.2], cl 54 [iv r530.2.1, iv r530.2.2], cl 29 [iv r708.1, iv r708.2], cl 29 [iv r720.1, iv r720.2]] [(7, 5, 6)] []) 1 (QJ.dn ⟨by kernel_rfl, by kernel_rfl, by kernel_rfl⟩))))))
     refine TI.rn 0 [0, 1, 8, 9, 10, 11, 84, 91] [0, 1, 2, 3, 5] (st 129 [(0, sl 0 p0), (1, iv p1), (8, iv v266), (9, pt 2 0), (10, pt 3 0), (11, iv v614), (84, accV 1 v615.length), (91, sv 5 1 1)]) [ab 54 e54 p0, ab 29 e29 v615, cl 54 [iv r530.1.1, iv r530.1.2], cl 54 [iv r530.2.1, iv r530.2.2], .dead, cl 29 [iv r720.1, iv r720.2]] (TI.acc (l := v615) (b := 1) (ts := #[42, 42]) (e := 29) (bytes := 16) (z := ag [iv 0, iv 0]) (y := sv 5 1 1) (ys := [(r720.1, r720.2)]) (xs := List.flatMap e29 ([(r720.1, r720.2)])) (m := 1) (s := 2) (enc := e29) (by kernel_rfl) (by kernel_rfl) (by decide) (by kernel_rfl) (by kernel_rfl) (by kernel_rfl) (by kernel_rfl) (by kernel_rfl) (by kernel_rfl) (by kernel_rfl) (by kernel_rfl) (fun _ => rfl) rfl rfl (by omega) [0, 1, 8, 9, 10, 11, 92] [0, 2, 3, 6] (a2 := (st 129 [(0, sl 0 p0), (1, iv p1), (8, iv v266), (9, pt 2 0), (10, pt 3 0), (11, iv v614), (92, sv 6 (List.length (v615 ++ [(r720.1, r720.2)])) UNK)])) (h2 := [ab 54 e54 p0, .dead, cl 54 [iv r530.1.1, iv r530.1.2], cl 54 [iv r530.2.1, iv r530.2.2], .dead, .dead, lb29 (v615 ++ [(r720.1, r720.2)])]) (by kernel_rfl) (TI.ra 1 [0, 1, 7, 8, 9, 10, 11] (st 129 [(0, sl 0 p0), (1, iv p1), (7, sv 6 (List.length (v615 ++ [(r720.1, r720.2)])) UNK), (8, iv v266), (9, pt 2 0), (10, pt 3 0), (11, iv v614)]) (TI.dq (TS.sq (TS.rg (TI.ra 4 [0, 1, 7, 8, 9, 10, 11, 15] (st 129 [(0, sl 0 p0), (1, iv p1), (7, sv 6 (List.length (v615 ++ [(r720.1, r720.2)])) UNK), (8, iv v266), (9, pt 2 0), (10, pt 3 0), (11, iv v614), (15, iv (w64 ((List.length (v615 ++ [(r720.1, r720.2)]) : Int) - 1)))]) (TI.dn ?_)))))))
     refine NX.sq (TS.bk 4 ?_)
     obtain ⟨r781, h782, hF⟩ := of_do hF
     refine TS.lp (TL.weak (a2 := (st 129 [(0, sl 0 p0), (1, iv p1), (7, accV 1 (List.length (v615 ++ [(r720.1, r720.2)]))), (8, iv v266), (9, pt 2 0), (10, pt 3 0), (11, iv v614), (15, iv (w64 ((List.length (v615 ++ [(r720.1, r720.2)]) : Int) - 1)))])) (h2 := [ab 54 e54 p0, accB 29 (List.length (v615 ++ [(r720.1, r720.2)])) (List.flatMap e29 (v615 ++ [(r720.1, r720.2)])), cl 54 [iv r530.1.1, iv r530.1.2], cl 54 [iv r530.2.1, iv r530.2.2]]) (Wk.an [6, 2, 3] (.ac (.cons (At.accU (by kernel_rfl) rfl (fun _ => rfl)) (.lt (.fl (.fl .nil)) (.lt (.fl (.fl .nil)) (.nil _))))) [sl 0 p0, iv p1, sv 6 (List.length (v615 ++ [(r720.1, r720.2)])) UNK, iv v266, pt 2 0, pt 3 0, iv v614, iv (w64 ((List.length (v615 ++ [(r720.1, r720.2)]) : Int) - 1))] (.sl (.fl (.cons (Rn.accU (nl rfl) rfl (by simp)) (.fl (.pp (.pp (.fl (.fl .nil))))))))) (TL.post (L25l2 p0 p1 r530 v266 v614 (w64 ((List.length (v615 ++ [(r720.1, r720.2)]) : Int) - 1)) (v615 ++ [(r720.1, r720.2)]) r781 h782) ?_))
     rintro e a1 h1 hp
     obtain ⟨rfl, hw⟩ := hp
     refine ⟨(st 129 [(0, sl 0 p0), (1, iv p1), (7, accV 1 r781.length), (8, iv v266), (9, pt 2 0), (10, pt 3 0), (11, iv v614)]), [ab 54 e54 p0, ab 29 e29 r781, cl 54 [iv r530.1.1, iv r530.1.2], cl 54 [iv r530.2.1, iv r530.2.2]], (NX.bkX (NX.bk (NX.sq (TS.rg (TI.ra 3 [0, 1, 7, 8, 9, 10, 11] (st 129 [(0, sl 0 p0), (1, iv p1), (7, accV 1 r781.length), (8, iv v266), (9, pt 2 0), (10, pt 3 0), (11, iv (w64 (v614 + 1)))]) (TI.dn ?_)))))), hw⟩
     exact Rd.again (a2 := (st 129 [(0, sl 0 p0), (1, iv p1), (7, accV 1 r781.length), (8, iv v266), (9, pt 2 0), (10, pt 3 0), (11, iv (w64 (v614 + 1)))])) (h2 := [ab 54 e54 p0, ab 29 e29 r781, cl 54 [iv r530.1.1, iv r530.1.2], cl 54 [iv r530.2.1, iv r530.2.2]]) (Wk.an [1, 2, 3] (.ac (.ac (.lt (.fl (.fl .nil)) (.lt (.fl (.fl .nil)) (.nil _))))) [sl 0 p0, iv p1, accV 1 r781.length, iv v266, pt 2 0, pt 3 0, iv (w64 (v614 + 1))] (.sl (.fl (.cons (Rn.acc (nl rfl) rfl) (.fl (.pp (.pp (.fl .nil)))))))) (ih (w64 (v614 + 1)) r781 _ hF)
   rcases Bool.eq_false_or_eq_true (decide (r708.1 < 0)) with hc710 | hc710
   · replace hm783 := of_pos hm783 hc710
     have hm783 := sj hm783
     subst hm783
     refine TS.dp [] (fun e he => by cases he) mixed 11 [0, 1, 7, 8, 9, 10, 11, 14, 83] [0, 1, 2, 3, 4] (st 129 [(0, sl 0 p0), (1, iv p1), (7, accV 1 v615.length), (8, iv v266), (9, pt 2 0), (10, pt 3 0), (11, iv v614), (14, pt 4 0), (83, .bool true)]) (H25_9 p0 v615 r530 r708) ?_ ?_
     · exact QJ.rn (qs (st 129 [(0, sl 0 p0), (1, iv p1), (7, accV 1 v615.length), (8, iv v266), (9, pt 2 0), (10, pt 3 0), (11, iv v614), (14, pt 4 0), (70, pt 4 0), (71, iv r708.1)]) (H25_9 p0 v615 r530 r708) [] []) 2 (QJ.o { val := .bool true } (q_conv (e := decide (r708.1 < 0)) (b := true) (by kernel_rfl) hc710) (QJ.rn (qs (st 129 [(0, sl 0 p0), (1, iv p1), (7, accV 1 v615.length), (8, iv v266), (9, pt 2 0), (10, pt 3 0), (11, iv v614), (14, pt 4 0), (70, pt 4 0), (71, iv r708.1), (72, .bool true), (73, .bool true), (74, undef), (75, undef), (76, undef), (77, undef), (78, undef), (79, undef), (80, undef)]) (H25_9 p0 v615 r530 r708) [] []) 8 (QJ.dn ⟨rfl, SJ.la⟩)))
     exact hK
   replace hm783 := of_neg hm783 hc710
   obtain ⟨r711, h712, hm783⟩ := of_do hm783
   obtain ⟨r713, h714, hm783⟩ := of_do hm783
   have hm783 := sj hm783
   subst hm783
   have hT : ∀ e ∈ ([⟨59, [iv (w64 (r530.2.1 - r530.1.1))], (H25_9 p0 v615 r530 r708), ag [iv r711.1, iv r711.2], []⟩, ⟨68, [ag [iv r708.1, iv r708.2], ag [iv r711.1, iv r711.2]], (H25_9 p0 v615 r530 r708), .bool r713, []⟩] : List Entry), PureSim Pg e.g e.args e.h e.v e.new := by
    intro e he
    simp only [List.mem_cons, List.not_mem_nil, or_false] at he
    rcases he with rfl | rfl
    · exact PureSim.ak (C59 _ _ h712)
    exact PureSim.ak (C68 _ _ _ _ _ h714)
   refine TS.dp [⟨59, [iv (w64 (r530.2.1 - r530.1.1))], (H25_9 p0 v615 r530 r708), ag [iv r711.1, iv r711.2], []⟩, ⟨68, [ag [iv r708.1, iv r708.2], ag [iv r711.1, iv r711.2]], (H25_9 p0 v615 r530 r708), .bool r713, []⟩] hT mixed 11 [0, 1, 7, 8, 9, 10, 11, 14, 83] [0, 1, 2, 3, 4] (st 129 [(0, sl 0 p0), (1, iv p1), (7, accV 1 v615.length), (8, iv v266), (9, pt 2 0), (10, pt 3 0), (11, iv v614), (14, pt 4 0), (83, .bool (!r713))]) (H25_9 p0 v615 r530 r708) ?_ ?_
   · exact QJ.rn (qs (st 129 [(0, sl 0 p0), (1, iv p1), (7, accV 1 v615.length), (8, iv v266), (9, pt 2 0), (10, pt 3 0), (11, iv v614), (14, pt 4 0), (70, pt 4 0), (71, iv r708.1)]) (H25_9 p0 v615 r530 r708) [] []) 2 (QJ.o { val := .bool false } (q_conv (e := decide (r708.1 < 0)) (b := false) (by kernel_rfl) hc710) (QJ.rn (qs (st 129 [(0, sl 0 p0), (1, iv p1), (7, accV 1 v615.length), (8, iv v266), (9, pt 2 0), (10, pt 3 0), (11, iv v614), (14, pt 4 0), (70, pt 4 0), (71, iv r708.1), (72, .bool false), (73, .bool false), (74, ag [iv r708.1, iv r708.2]), (75, pt 3 0), (76, iv r530.2.1), (77, pt 2 0), (78, iv r530.1.1), (79, iv (w64 (r530.2.1 - r530.1.1)))]) (H25_9 p0 v615 r530 r708) [] []) 7 (QJ.o { val := ag [iv r711.1, iv r711.2], new := [] } (qOf_call (g := 59) (args := [iv (w64 (r530.2.1 - r530.1.1))]) (by kernel_rfl) lookC_hit) (QJ.dn ⟨rfl, (SJ.o { val := .bool r713, new := [] } (qOf_call (g := 68) (args := [ag [iv r708.1, iv r708.2], ag [iv r711.1, iv r711.2]]) (by kernel_rfl) (lookC_skip (fun hg => absurd (show (59 : Nat) = 68 from hg) (by decide)) lookC_hit)) SJ.la)⟩))))
   exact hK
 replace hF := of_neg hF hc701
 refine TS.ex 2 (NX.sqX ?_)
 have hF := sj hF
 subst hF
 exact Rd.out (e := .exit 2) (by intro h; cases h) (And.intro rfl (Wk.an [1] (.ac (.ac (.nil _))) [sl 0 p0, iv p1, accV 1 v615.length, iv v266] (.sl (.fl (.cons (Rn.acc (nl rfl) rfl) (.fl .nil))))))
def P25l0 (p0 : List I2) (p1 : Int) (r : Unit ⊕ (List I2)) : Post := fun e a h => (match r with | .inl q0 => e = .ret ∧ Wk Pg 1 1 a h (st 129 [(4, .slice none 0 0), (5, iv 16)]) [ab 54 e54 p0] | .inr q0 => e = .exit 0 ∧ Wk Pg 1 1 a h (st 129 [(7, accV 1 q0.length)]) [ab 54 e54 p0, ab 29 e29 q0])
theorem L25l0 (p0 : List I2) (p1 : Int) (v267 : List I2) (v266 : Int) (r : Unit ⊕ (List I2)) (hF : F25l0 p0 p1 v267 v266 = some r) : TL Pg 1 1 c25.s2.s2.s2.s2.s2.s1.s2.bd.bd (st 129 [(0, sl 0 p0), (1, iv p1), (7, accV 1 v267.length), (8, iv v266)]) [ab 54 e54 p0, ab 29 e29 v267] (P25l0 p0 p1 r) := by
 refine F25l0.partial_correctness p0 p1 (motive := fun v267 v266 r => TL Pg 1 1 c25.s2.s2.s2.s2.s2.s1.s2.bd.bd (st 129 [(0, sl 0 p0), (1, iv p1), (7, accV 1 v267.length), (8, iv v266)]) [ab 54 e54 p0, ab 29 e29 v267] (P25l0 p0 p1 r)) ?_ v267 v266 r hF
 clear hF r v267 v266
 intro again ih v267 v266 r hF
 refine TL.round (TS.sq (TS.sq (TS.rg (TI.ra 4 [0, 1, 7, 8, 31] (st 129 [(0, sl 0 p0), (1, iv p1), (7, accV 1 v267.length), (8, iv v266), (31, .bool (decide (v266 < (p0.length : Int))))]) (TI.dq ?_)))))
 refine TS.cd (.tmp 31) (decide (v266 < (p0.length : Int))) (fun hc529 => ?_) (fun hc529 => ?_)
 · replace hF := of_pos hF hc529
   refine TS.sk (NX.sq (TS.sq (TS.bk 1 (TS.sq ?_))))
   obtain ⟨r530, h531, hF⟩ := of_do hF
   refine TS.rg (TI.ra 2 [0, 1, 7, 8, 35, 36] (st 129 [(0, sl 0 p0), (1, iv p1), (7, accV 1 v267.length), (8, iv v266), (35, sl 0 p0), (36, iv v266)]) (TI.cp 66 [sl 0 p0, iv v266] (.tuple ⟨[ag [iv r530.1.1, iv r530.1.2], ag [iv r530.2.1, iv r530.2.2]]⟩) [] (PureSim.ren (hc := [ab 54 e54 p0]) (fun i => List.getD [(0, 0)] i (0, 0)) (C66 _ _ _ h531) (.ac (.nil _)) (.cons (Rn.any _ _ _ _ _ _ (nl rfl) rfl rfl (by decide)) (.fl .nil)) (.flat (by kernel_rfl)) newflat_nil) (TI.rn 7 [0, 1, 7, 8, 9, 10] [0, 1, 2, 3] (st 129 [(0, sl 0 p0), (1, iv p1), (7, accV 1 v267.length), (8, iv v266), (9, pt 2 0), (10, pt 3 0)]) [ab 54 e54 p0, ab 29 e29 v267, cl 54 [iv r530.1.1, iv r530.1.2], cl 54 [iv r530.2.1, iv r530.2.2]] (TI.dq (TS.sq (TS.rg (TI.ra 1 [0, 1, 7, 8, 9, 10, 11] (st 129 [(0, sl 0 p0), (1, iv p1), (7, accV 1 v267.length), (8, iv v266), (9, pt 2 0), (10, pt 3 0), (11, iv (-2))]) ?_)))))))
   refine TI.dn (NX.sq (TS.bk 2 ?_))
   obtain ⟨r784, h785, hF⟩ := of_do hF
   refine TS.lp (TL.weak (a2 := (st 129 [(0, sl 0 p0), (1, iv p1), (7, accV 1 v267.length), (8, iv v266), (9, pt 2 0), (10, pt 3 0), (11, iv (-2))])) (h2 := [ab 54 e54 p0, ab 29 e29 v267, cl 54 [iv r530.1.1, iv r530.1.2], cl 54 [iv r530.2.1, iv r530.2.2]]) (Wk.an [1, 2, 3] (.ac (.ac (.lt (.fl (.fl .nil)) (.lt (.fl (.fl .nil)) (.nil _))))) [sl 0 p0, iv p1, accV 1 v267.length, iv v266, pt 2 0, pt 3 0, iv (-2)] (.sl (.fl (.cons (Rn.acc (nl rfl) rfl) (.fl (.pp (.pp (.fl .nil)))))))) (TL.post (L25l1 p0 p1 r530 v266 (-2) v267 r784 h785) ?_))
   rintro e a1 h1 hp
   rcases r784 with o786 | o787
   · skip
     obtain ⟨rfl, hw⟩ := hp
     refine ⟨(st 129 [(4, .slice none 0 0), (5, iv 16)]), [ab 54 e54 p0], (NX.bkR (NX.bkR (NX.sqR ?_))), hw⟩
     have hF := sj hF
     subst hF
     exact Rd.out (e := .ret) (by intro h; cases h) (And.intro rfl (Wk.an [] (.ac (.nil _)) [.slice none 0 0, iv 16] (.fl (.fl .nil))))
   skip
   obtain ⟨rfl, hw⟩ := hp
   refine ⟨(st 129 [(0, sl 0 p0), (1, iv p1), (7, accV 1 o787.length), (8, iv v266)]), [ab 54 e54 p0, ab 29 e29 o787], (NX.bkX (NX.bk (NX.sq (TS.rg (TI.ra 3 [0, 1, 7, 8] (st 129 [(0, sl 0 p0), (1, iv p1), (7, accV 1 o787.length), (8, iv (w64 (v266 + 1)))]) (TI.dn ?_)))))), hw⟩
   exact Rd.again (a2 := (st 129 [(0, sl 0 p0), (1, iv p1), (7, accV 1 o787.length), (8, iv (w64 (v266 + 1)))])) (h2 := [ab 54 e54 p0, ab 29 e29 o787]) (Wk.an [1] (.ac (.ac (.nil _))) [sl 0 p0, iv p1, accV 1 o787.length, iv (w64 (v266 + 1))] (.sl (.fl (.cons (Rn.acc (nl rfl) rfl) (.fl .nil))))) (ih o787 (w64 (v266 + 1)) _ hF)
 replace hF := of_neg hF hc529
 refine TS.ex 0 (NX.sqX ?_)
 have hF := sj hF
 subst hF
 exact Rd.out (e := .exit 0) (by intro h; cases h) (And.intro rfl (Wk.an [1] (.ac (.ac (.nil _))) [accV 1 v267.length] (.cons (Rn.acc (nl rfl) rfl) .nil)))
theorem B25 (p0 : List I2) (p1 : Int) (r : (List I2) × Int) (hF : F25 p0 p1 = some r) : TS Pg 1 1 c25 (st 129 [(0, sl 0 p0), (1, iv p1)]) [ab 54 e54 p0] (NX Pg 1 1 [] (FinP Pg Try.f25 1 (V25 1 r) (N25 1 r))) := by
 unfold F25 at hF
 refine TS.sq (TS.rg (TI.ra 2 [0, 1] (st 129 [(0, sl 0 p0), (1, iv p1)]) (TI.dq (TS.sq ?_))))
 obtain ⟨r1, h2, hF⟩ := of_do hF
 refine TS.rg (TI.ra 1 [0, 1, 16] (st 129 [(0, sl 0 p0), (1, iv p1), (16, sl 0 p0)]) (TI.cp 23 [sl 0 p0] (iv r1) [] (PureSim.ren (hc := [ab 54 e54 p0]) (fun i => List.getD [(0, 0)] i (0, 0)) (C23 _ _ h2) (.ac (.nil _)) (.cons (Rn.any _ _ _ _ _ _ (nl rfl) rfl rfl (by decide)) .nil) (.flat (by kernel_rfl)) newflat_nil) (TI.ra 1 [0, 1, 6] (st 129 [(0, sl 0 p0), (1, iv p1), (6, iv r1)]) (TI.dq (TS.sq (TS.sq ?_))))))
 obtain ⟨m6, hm792, hF⟩ := of_do hF
 have hK : NX Pg 1 1 [.sq c25.s2.s2.s1.s2, .sq c25.s2.s2.s2] (FinP Pg Try.f25 1 (V25 1 r) (N25 1 r)) .normal (st 129 [(0, sl 0 p0), (1, iv p1), (6, iv r1), (24, .bool m6)]) [ab 54 e54 p0] := by
  refine NX.sq ?_
  obtain ⟨m9, hm10, hF⟩ := of_do hF
  have hK : NX Pg 1 1 [.sq c25.s2.s2.s2] (FinP Pg Try.f25 1 (V25 1 r) (N25 1 r)) .normal (st 129 [(0, sl 0 p0), (1, iv p1), (6, iv m9)]) [ab 54 e54 p0] := by
   refine NX.sq (TS.sq (TS.sq (TS.rg (TI.ra 2 [0, 1, 6, 26] (st 129 [(0, sl 0 p0), (1, iv p1), (6, iv m9), (26, .bool (m9 != 0))]) (TI.dq ?_)))))
   refine TS.cd (.tmp 26) (m9 != 0) (fun hc11 => ?_) (fun hc11 => ?_)
   · replace hF := of_pos hF hc11
     refine TS.sq (TS.rg (TI.ra 3 [4, 5] (st 129 [(4, .slice none 0 0), (5, iv m9)]) (TI.dq (TS.rt (NX.sqR ?_)))))
     have hF := sj hF
     subst hF
     exact ⟨.inr rfl, rfl, .tuple ⟨[.slice none 0 0, iv m9]⟩, by kernel_rfl, WkV.made (L := 1) (f := [1]) (by decide) (by decide) rfl (.cons At.accN (.nil _)) (Rn.tuple' (.cons Rn.accN (.fl .nil)))⟩
   replace hF := of_neg hF hc11
   refine TS.sk (NX.sq (TS.sq (TS.rg (TI.ra 1 [0, 1, 7] (st 129 [(0, sl 0 p0), (1, iv p1), (7, .slice none 0 0)]) (TI.dq (TS.sq (TS.sq ?_)))))))
   refine TS.rg (TI.ra 1 [0, 1, 7, 8] (st 129 [(0, sl 0 p0), (1, iv p1), (7, .slice none 0 0), (8, iv 0)]) (TI.dq (TS.bk 0 ?_)))
   obtain ⟨r788, h789, hF⟩ := of_do hF
   refine TS.lp (TL.weak (a2 := (st 129 [(0, sl 0 p0), (1, iv p1), (7, accV 1 (List.length ([]))), (8, iv 0)])) (h2 := [ab 54 e54 p0, accB 29 (List.length ([])) (List.flatMap e29 ([]))]) (Wk.an [1] (.ac (.cons At.accN (.nil _))) [sl 0 p0, iv p1, .slice none 0 0, iv 0] (.sl (.fl (.cons (Rn.accN) (.fl .nil))))) (TL.post (L25l0 p0 p1 ([]) 0 r788 h789) ?_))
   rintro e a1 h1 hp
   rcases r788 with o790 | o791
   · skip
     obtain ⟨rfl, hw⟩ := hp
     refine ⟨(st 129 [(4, .slice none 0 0), (5, iv 16)]), [ab 54 e54 p0], (NX.bkR (NX.sqR ?_)), hw⟩
     have hF := sj hF
     subst hF
     exact ⟨.inr rfl, rfl, .tuple ⟨[.slice none 0 0, iv 16]⟩, by kernel_rfl, WkV.made (L := 1) (f := [1]) (by decide) (by decide) rfl (.cons At.accN (.nil _)) (Rn.tuple' (.cons Rn.accN (.fl .nil)))⟩
   skip
   obtain ⟨rfl, hw⟩ := hp
   refine ⟨(st 129 [(7, accV 1 o791.length)]), [ab 54 e54 p0, ab 29 e29 o791], (NX.bkX (NX.sq (TS.sq (TS.rg (TI.ra 3 [4, 5] (st 129 [(4, accV 1 o791.length), (5, iv 0)]) (TI.dq (TS.rt ?_))))))), hw⟩
   have hF := sj hF
   subst hF
   exact ⟨.inr rfl, rfl, .tuple ⟨[accV 1 o791.length, iv 0]⟩, by kernel_rfl, WkV.made (L := 1) (f := [1]) (by decide) (by decide) rfl (.ac (.nil _)) (Rn.tuple' (.cons (Rn.acc (nl rfl) rfl) (.fl .nil)))⟩
  clear hF
  have hF := hm10
  clear hm10
  refine TS.start ?_
  cases m6 with
  | true =>
   replace hF := of_pos hF rfl
   refine TS.cdT (.tmp 24) (TS.rg (TI.ra 1 [0, 1, 6] (st 129 [(0, sl 0 p0), (1, iv p1), (6, iv 1)]) (TI.dn ?_)))
   have hF := sj hF
   subst hF
   exact TS.weak (by exact (Wk.an [] (.ac (.nil _)) [sl 0 p0, iv p1, iv 1] (.sl (.fl (.fl .nil))))) hK
  | false =>
   replace hF := of_neg hF rfl
   refine TS.cdF (.tmp 24) (TS.sk ?_)
   have hF := sj hF
   subst hF
   exact TS.weak (by exact (Wk.an [] (.ac (.nil _)) [sl 0 p0, iv p1, iv r1] (.sl (.fl (.fl .nil))))) hK
 rcases Bool.eq_false_or_eq_true (r1 == 0) with hc3 | hc3
 · replace hm792 := of_pos hm792 hc3
   obtain ⟨r4, h5, hm792⟩ := of_do hm792
   have hm792 := sj hm792
   subst hm792
   exact TS.rg (TI.ra 1 [0, 1, 6, 18] (st 129 [(0, sl 0 p0), (1, iv p1), (6, iv r1), (18, iv r1)]) (TI.o { val := .bool true } (q_conv (e := r1 == 0) (b := true) (by kernel_rfl) hc3) [0, 1, 6, 19] [0] (st 129 [(0, sl 0 p0), (1, iv p1), (6, iv r1), (19, .bool true)]) [ab 54 e54 p0] (TI.ra 2 [0, 1, 6, 20, 21] (st 129 [(0, sl 0 p0), (1, iv p1), (6, iv r1), (20, .bool true), (21, iv p1)]) (TI.cf (C57 _ _ h5) (TI.ra 2 [0, 1, 6, 24] (st 129 [(0, sl 0 p0), (1, iv p1), (6, iv r1), (24, .bool (!r4))]) (TI.dn hK))))))
 replace hm792 := of_neg hm792 hc3
 have hm792 := sj hm792
 subst hm792
 exact TS.rg (TI.ra 1 [0, 1, 6, 18] (st 129 [(0, sl 0 p0), (1, iv p1), (6, iv r1), (18, iv r1)]) (TI.o { val := .bool false } (q_conv (e := r1 == 0) (b := false) (by kernel_rfl) hc3) [0, 1, 6, 19] [0] (st 129 [(0, sl 0 p0), (1, iv p1), (6, iv r1), (19, .bool false)]) [ab 54 e54 p0] (TI.ra 5 [0, 1, 6, 24] (st 129 [(0, sl 0 p0), (1, iv p1), (6, iv r1), (24, .bool false)]) (TI.dn hK))))
theorem C25 (p0 : List I2) (p1 : Int) (r : (List I2) × Int) (hF : F25 p0 p1 = some r) : PureSim Pg 25 [sl 0 p0, iv p1] [ab 54 e54 p0] (V25 1 r) (N25 1 r) :=
 PureSim.of_Fin Try.func25 (c := c25) (by kernel_rfl) (by kernel_rfl) 1 rfl [0, 1] [0] (by kernel_rfl) (B25 p0 p1 r hF)
noncomputable def c20 : Code := Try.f20.code
def F20l0 (p0 : List I2) (v9 : List Int) (v8 : Int) : Option (List Int) :=
 if decide (v8 < (p0.length : Int)) then
  F61 p0 v8 >>= fun r18 =>
  (
   if decide (r18 ≤ 0) then
    if List.length v9 ≤ 1000000000 then
     some (v9 ++ [v8])
    else none
   else
    some v9
  : Option (List Int)) >>= fun m23 =>
  F20l0 p0 m23 (w64 (v8 + 1))
 else
  some v9
 partial_fixpoint
def F20 (p0 : List I2) : Option ((List Int) × Int) :=
 F23 p0 >>= fun r1 =>
 if r1 != 0 then
  some ([], r1)
 else
  F20l0 p0 ([]) 0 >>= fun r27 =>
  some (r27, 0)
def V20 (b : Nat) (r : (List Int) × Int) : Value := .tuple ⟨[accV (b + 0) r.1.length, iv r.2]⟩
def N20 (b : Nat) (r : (List Int) × Int) : List Blk := [ab 3 e3 r.1]
def P20l0 (p0 : List I2) (r : List Int) : Post := fun e a h => e = .exit 0 ∧ Wk Pg 1 1 a h (st 27 [(5, accV 1 r.length)]) [ab 54 e54 p0, ab 3 e3 r]
theorem L20l0 (p0 : List I2) (v9 : List Int) (v8 : Int) (r : List Int) (hF : F20l0 p0 v9 v8 = some r) : TL Pg 1 1 c20.s2.s2.s2.s2.s1.s2.bd.bd (st 27 [(0, sl 0 p0), (5, accV 1 v9.length), (6, iv v8)]) [ab 54 e54 p0, ab 3 e3 v9] (P20l0 p0 r) := by
 refine F20l0.partial_correctness p0 (motive := fun v9 v8 r => TL Pg 1 1 c20.s2.s2.s2.s2.s1.s2.bd.bd (st 27 [(0, sl 0 p0), (5, accV 1 v9.length), (6, iv v8)]) [ab 54 e54 p0, ab 3 e3 v9] (P20l0 p0 r)) ?_ v9 v8 r hF
 clear hF r v9 v8
 intro again ih v9 v8 r hF
 refine TL.round (TS.sq (TS.sq (TS.rg (TI.ra 4 [0, 5, 6, 15] (st 27 [(0, sl 0 p0), (5, accV 1 v9.length), (6, iv v8), (15, .bool (decide (v8 < (p0.length : Int))))]) (TI.dq ?_)))))
 refine TS.cd (.tmp 15) (decide (v8 < (p0.length : Int))) (fun hc17 => ?_) (fun hc17 => ?_)
 · replace hF := of_pos hF hc17
   refine TS.sk (NX.sq (TS.sq (TS.bk 1 (TS.sq ?_))))
   obtain ⟨r18, h19, hF⟩ := of_do hF
   refine TS.rg (TI.ra 2 [0, 5, 6, 18, 19] (st 27 [(0, sl 0 p0), (5, accV 1 v9.length), (6, iv v8), (18, sl 0 p0), (19, iv v8)]) (TI.cp 61 [sl 0 p0, iv v8] (iv r18) [] (PureSim.ren (hc := [ab 54 e54 p0]) (fun i => List.getD [(0, 0)] i (0, 0)) (C61 _ _ _ h19) (.ac (.nil _)) (.cons (Rn.any _ _ _ _ _ _ (nl rfl) rfl rfl (by decide)) (.fl .nil)) (.flat (by kernel_rfl)) newflat_nil) (TI.ra 1 [0, 5, 6, 21] (st 27 [(0, sl 0 p0), (5, accV 1 v9.length), (6, iv v8), (21, .bool (decide (r18 ≤ 0)))]) (TI.dq ?_))))
   obtain ⟨m23, hm24, hF⟩ := of_do hF
   have hK : NX Pg 1 1 [.bk 1, .sq c20.s2.s2.s2.s2.s1.s2.bd.bd.s2.s2] (Rd Pg 1 1 c20.s2.s2.s2.s2.s1.s2.bd.bd (P20l0 p0 r)) .normal (st 27 [(0, sl 0 p0), (5, accV 1 m23.length), (6, iv v8)]) [ab 54 e54 p0, ab 3 e3 m23] := by
    refine NX.bk (NX.sq (TS.rg (TI.ra 3 [0, 5, 6] (st 27 [(0, sl 0 p0), (5, accV 1 m23.length), (6, iv (w64 (v8 + 1)))]) (TI.dn ?_))))
    exact Rd.again (a2 := (st 27 [(0, sl 0 p0), (5, accV 1 m23.length), (6, iv (w64 (v8 + 1)))])) (h2 := [ab 54 e54 p0, ab 3 e3 m23]) (Wk.an [1] (.ac (.ac (.nil _))) [sl 0 p0, accV 1 m23.length, iv (w64 (v8 + 1))] (.sl (.cons (Rn.acc (nl rfl) rfl) (.fl .nil)))) (ih m23 (w64 (v8 + 1)) _ hF)
   clear hF
   have hF := hm24
   clear hm24
   refine TS.start ?_
   refine TS.cd (.tmp 21) (decide (r18 ≤ 0)) (fun hc25 => ?_) (fun hc25 => ?_)
   · replace hF := of_pos hF hc25
     obtain ⟨hg26, hF⟩ := of_guard hF
     refine TS.rg (TI.rn 3 [0, 6, 22, 24] [0, 1, 2] (st 27 [(0, sl 0 p0), (6, iv v8), (22, accV 1 v9.length), (24, sv 2 1 1)]) [ab 54 e54 p0, ab 3 e3 v9, cl 3 [iv v8]] (TI.acc (l := v9) (b := 1) (ts := #[34, 34]) (e := 3) (bytes := 8) (z := iv 0) (y := sv 2 1 1) (ys := [v8]) (xs := List.flatMap e3 ([v8])) (m := 1) (s := 1) (enc := e3) (by kernel_rfl) (by kernel_rfl) (by decide) (by kernel_rfl) (by kernel_rfl) (by kernel_rfl) (by kernel_rfl) (by kernel_rfl) (by kernel_rfl) (by kernel_rfl) (by kernel_rfl) (fun _ => rfl) rfl rfl (by omega) [0, 6, 25] [0, 3] (a2 := (st 27 [(0, sl 0 p0), (6, iv v8), (25, sv 3 (List.length (v9 ++ [v8])) UNK)])) (h2 := [ab 54 e54 p0, .dead, .dead, lb3 (v9 ++ [v8])]) (by kernel_rfl) (TI.ra 1 [0, 5, 6] (st 27 [(0, sl 0 p0), (5, sv 3 (List.length (v9 ++ [v8])) UNK), (6, iv v8)]) (TI.dn ?_))))
     have hF := sj hF
     subst hF
     exact TS.weak (by exact (Wk.an [3] (.ac (.cons (At.accU (by kernel_rfl) rfl (fun _ => rfl)) (.nil _))) [sl 0 p0, sv 3 (List.length (v9 ++ [v8])) UNK, iv v8] (.sl (.cons (Rn.accU (nl rfl) rfl (by simp)) (.fl .nil))))) hK
   replace hF := of_neg hF hc25
   refine TS.sk ?_
   have hF := sj hF
   subst hF
   exact TS.weak (by exact (Wk.an [1] (.ac (.ac (.nil _))) [sl 0 p0, accV 1 v9.length, iv v8] (.sl (.cons (Rn.acc (nl rfl) rfl) (.fl .nil))))) hK
 replace hF := of_neg hF hc17
 refine TS.ex 0 (NX.sqX ?_)
 have hF := sj hF
 subst hF
 exact Rd.out (e := .exit 0) (by intro h; cases h) (And.intro rfl (Wk.an [1] (.ac (.ac (.nil _))) [accV 1 v9.length] (.cons (Rn.acc (nl rfl) rfl) .nil)))
theorem B20 (p0 : List I2) (r : (List Int) × Int) (hF : F20 p0 = some r) : TS Pg 1 1 c20 (st 27 [(0, sl 0 p0)]) [ab 54 e54 p0] (NX Pg 1 1 [] (FinP Pg Try.f20 1 (V20 1 r) (N20 1 r))) := by
 unfold F20 at hF
 refine TS.sq (TS.rg (TI.ra 2 [0] (st 27 [(0, sl 0 p0)]) (TI.dq (TS.sq ?_))))
 obtain ⟨r1, h2, hF⟩ := of_do hF
 refine TS.rg (TI.ra 1 [0, 7] (st 27 [(0, sl 0 p0), (7, sl 0 p0)]) (TI.cp 23 [sl 0 p0] (iv r1) [] (PureSim.ren (hc := [ab 54 e54 p0]) (fun i => List.getD [(0, 0)] i (0, 0)) (C23 _ _ h2) (.ac (.nil _)) (.cons (Rn.any _ _ _ _ _ _ (nl rfl) rfl rfl (by decide)) .nil) (.flat (by kernel_rfl)) newflat_nil) (TI.ra 1 [0, 4] (st 27 [(0, sl 0 p0), (4, iv r1)]) (TI.dq (TS.sq (TS.sq (TS.rg ?_)))))))
 refine TI.ra 2 [0, 4, 10] (st 27 [(0, sl 0 p0), (4, iv r1), (10, .bool (r1 != 0))]) (TI.dq ?_)
 refine TS.cd (.tmp 10) (r1 != 0) (fun hc3 => ?_) (fun hc3 => ?_)
 · replace hF := of_pos hF hc3
   refine TS.sq (TS.rg (TI.ra 3 [2, 3] (st 27 [(2, .slice none 0 0), (3, iv r1)]) (TI.dq (TS.rt (NX.sqR ?_)))))
   have hF := sj hF
   subst hF
   exact ⟨.inr rfl, rfl, .tuple ⟨[.slice none 0 0, iv r1]⟩, by kernel_rfl, WkV.made (L := 1) (f := [1]) (by decide) (by decide) rfl (.cons At.accN (.nil _)) (Rn.tuple' (.cons Rn.accN (.fl .nil)))⟩
 replace hF := of_neg hF hc3
 refine TS.sk (NX.sq (TS.sq (TS.rg (TI.ra 1 [0, 5] (st 27 [(0, sl 0 p0), (5, .slice none 0 0)]) (TI.dq (TS.sq (TS.sq ?_)))))))
 refine TS.rg (TI.ra 1 [0, 5, 6] (st 27 [(0, sl 0 p0), (5, .slice none 0 0), (6, iv 0)]) (TI.dq (TS.bk 0 ?_)))
 obtain ⟨r27, h28, hF⟩ := of_do hF
 refine TS.lp (TL.weak (a2 := (st 27 [(0, sl 0 p0), (5, accV 1 (List.length ([]))), (6, iv 0)])) (h2 := [ab 54 e54 p0, accB 3 (List.length ([])) (List.flatMap e3 ([]))]) (Wk.an [1] (.ac (.cons At.accN (.nil _))) [sl 0 p0, .slice none 0 0, iv 0] (.sl (.cons (Rn.accN) (.fl .nil)))) (TL.post (L20l0 p0 ([]) 0 r27 h28) ?_))
 rintro e a1 h1 hp
 obtain ⟨rfl, hw⟩ := hp
 refine ⟨(st 27 [(5, accV 1 r27.length)]), [ab 54 e54 p0, ab 3 e3 r27], (NX.bkX (NX.sq (TS.sq (TS.rg (TI.ra 3 [2, 3] (st 27 [(2, accV 1 r27.length), (3, iv 0)]) (TI.dq (TS.rt ?_))))))), hw⟩
 have hF := sj hF
 subst hF
 exact ⟨.inr rfl, rfl, .tuple ⟨[accV 1 r27.length, iv 0]⟩, by kernel_rfl, WkV.made (L := 1) (f := [1]) (by decide) (by decide) rfl (.ac (.nil _)) (Rn.tuple' (.cons (Rn.acc (nl rfl) rfl) (.fl .nil)))⟩
theorem C20 (p0 : List I2) (r : (List Int) × Int) (hF : F20 p0 = some r) : PureSim Pg 20 [sl 0 p0] [ab 54 e54 p0] (V20 1 r) (N20 1 r) :=
 PureSim.of_Fin Try.func20 (c := c20) (by kernel_rfl) (by kernel_rfl) 1 rfl [0] [0] (by kernel_rfl) (B20 p0 r hF)
noncomputable def c58 : Code := Try.f58.code
def H58_0 (p0 : List I2) (m10 p2 : Int) (r59 : I2 × I2) : List Blk := [ab 54 e54 p0, cl 29 [iv m10, iv p2], cl 29 [iv 0, iv 0], cl 54 [iv r59.1.1, iv r59.1.2], cl 54 [iv r59.2.1, iv r59.2.2]]
def H58_1 (p0 : List I2) (r59 : I2 × I2) (r72 : I2) : List Blk := [ab 54 e54 p0, .dead, cl 29 [iv 0, iv 0], cl 54 [iv r59.1.1, iv r59.1.2], .dead, cl 29 [iv r72.1, iv r72.2]]
def H58_2 (p0 : List I2) (m10 p2 : Int) : List Blk := [ab 54 e54 p0, cl 29 [iv m10, iv p2], cl 29 [iv 0, iv 0]]
def H58_3 (p0 : List I2) (p1 p2 : Int) : List Blk := [ab 54 e54 p0, cl 29 [iv p1, iv p2], cl 29 [iv 0, iv 0]]
def S58_4 (p0 : List I2) : CAct := (st 77 [(0, sl 0 p0), (3, pt 1 0), (4, pt 2 0)])
def F58l0 (p0 : List I2) (p2 m10 v33 : Int) : Option (I2 ⊕ Unit) :=
 if decide (v33 < (p0.length : Int)) then
  F66 p0 v33 >>= fun r59 =>
  F59 r59.1.1 >>= fun r61 =>
  F68 m10 p2 r61.1 r61.2 >>= fun r63 =>
  (
   if r63 then
    some (true)
   else
    F59 r59.2.1 >>= fun r65 =>
    F68 m10 p2 r65.1 r65.2 >>= fun r67 =>
    some (!r67)
  : Option Bool) >>= fun m69 =>
  if m69 then
   F58l0 p0 p2 m10 (w64 (v33 + 1))
  else
   some (w64 ((w64 (r59.2.2 - r59.1.2)) * (w64 (m10 - (w64 (r59.1.1 * p2)))))) >>= fun o70 =>
   F67 o70 (w64 ((w64 (r59.2.1 - r59.1.1)) * p2)) >>= fun r72 =>
   F59 r59.1.2 >>= fun r74 =>
   F70 r74.1 r74.2 r72.1 r72.2 >>= fun r76 =>
   some (.inl (r76.1, r76.2))
 else
  some (.inr ())
 partial_fixpoint
def F58 (p0 : List I2) (p1 p2 : Int) : Option I2 :=
 if (0 : Int) ≤ 0 ∧ 0 < (p0.length : Int) then
  some (List.getD p0 (Int.toNat 0) (0, 0)) >>= fun o2 =>
  F59 o2.1 >>= fun r4 =>
  F68 p1 p2 r4.1 r4.2 >>= fun r6 =>
  (
   if r6 then
    some (w64 (p1 + (w64 (3600 * p2))))
   else
    some p1
  : Option Int) >>= fun m10 =>
  F58l0 p0 p2 m10 0 >>= fun r79 =>
  match r79 with
  | .inl o81 =>
   some (o81.1, o81.2)
  | .inr o82 =>
   F59 0 >>= fun r83 =>
   some (r83.1, r83.2)
 else none
def V58 (b : Nat) (r : I2) : Value := ag [iv r.1, iv r.2]
def N58 (b : Nat) (r : I2) : List Blk := []
def P58l0 (p0 : List I2) (p2 m10 : Int) (r : I2 ⊕ Unit) : Post := fun e a h => (match r with | .inl q0 => e = .ret ∧ Wk Pg 1 1 a h (st 77 [(4, pt 1 0)]) [ab 54 e54 p0, cl 29 [iv q0.1, iv q0.2]] | .inr q0 => e = .exit 0 ∧ Wk Pg 1 1 a h (st 77 [(4, pt 1 0)]) [ab 54 e54 p0, cl 29 [iv 0, iv 0]])
theorem L58l0 (p0 : List I2) (p2 m10 v33 : Int) (r : I2 ⊕ Unit) (hF : F58l0 p0 p2 m10 v33 = some r) : TL Pg 1 1 c58.s2.s2.s1.s2.bd.bd (st 77 [(0, sl 0 p0), (3, pt 1 0), (4, pt 2 0), (5, iv v33)]) (H58_2 p0 m10 p2) (P58l0 p0 p2 m10 r) := by
 refine F58l0.partial_correctness p0 p2 m10 (motive := fun v33 r => TL Pg 1 1 c58.s2.s2.s1.s2.bd.bd (st 77 [(0, sl 0 p0), (3, pt 1 0), (4, pt 2 0), (5, iv v33)]) (H58_2 p0 m10 p2) (P58l0 p0 p2 m10 r)) ?_ v33 r hF
 clear hF r v33
 intro again ih v33 r hF
 refine TL.round (TS.sq (TS.sq (TS.rg (TI.ra 4 [0, 3, 4, 5, 26] (st 77 [(0, sl 0 p0), (3, pt 1 0), (4, pt 2 0), (5, iv v33), (26, .bool (decide (v33 < (p0.length : Int))))]) (TI.dq ?_)))))
 refine TS.cd (.tmp 26) (decide (v33 < (p0.length : Int))) (fun hc58 => ?_) (fun hc58 => ?_)
 · replace hF := of_pos hF hc58
   refine TS.sk (NX.sq (TS.sq (TS.bk 1 (TS.sq ?_))))
   obtain ⟨r59, h60, hF⟩ := of_do hF
   refine TS.rg (TI.ra 2 [0, 3, 4, 5, 30, 31] (st 77 [(0, sl 0 p0), (3, pt 1 0), (4, pt 2 0), (5, iv v33), (30, sl 0 p0), (31, iv v33)]) (TI.cp 66 [sl 0 p0, iv v33] (.tuple ⟨[ag [iv r59.1.1, iv r59.1.2], ag [iv r59.2.1, iv r59.2.2]]⟩) [] (PureSim.ren (hc := [ab 54 e54 p0]) (fun i => List.getD [(0, 0)] i (0, 0)) (C66 _ _ _ h60) (.ac (.nil _)) (.cons (Rn.any _ _ _ _ _ _ (nl rfl) rfl rfl (by decide)) (.fl .nil)) (.flat (by kernel_rfl)) newflat_nil) (TI.rn 7 [0, 3, 4, 5, 6, 7] [0, 1, 2, 3, 4] (st 77 [(0, sl 0 p0), (3, pt 1 0), (4, pt 2 0), (5, iv v33), (6, pt 3 0), (7, pt 4 0)]) (H58_0 p0 m10 p2 r59) (TI.dq (TS.sq (TS.sq ?_))))))
   obtain ⟨r61, h62, hF⟩ := of_do hF
   obtain ⟨r63, h64, hF⟩ := of_do hF
   obtain ⟨m69, hm78, hF⟩ := of_do hF
   have hK : NX Pg 1 1 [.sq c58.s2.s2.s1.s2.bd.bd.s2.s1.bd.s2.s1.s2, .sq c58.s2.s2.s1.s2.bd.bd.s2.s1.bd.s2.s2, .bk 1, .sq c58.s2.s2.s1.s2.bd.bd.s2.s2] (Rd Pg 1 1 c58.s2.s2.s1.s2.bd.bd (P58l0 p0 p2 m10 r)) .normal (st 77 [(0, sl 0 p0), (3, pt 1 0), (4, pt 2 0), (5, iv v33), (6, pt 3 0), (7, pt 4 0), (47, .bool m69)]) (H58_0 p0 m10 p2 r59) := by
    refine NX.sq ?_
    cases m69 with
    | true =>
     replace hF := of_pos hF rfl
     refine TS.cdT (.tmp 47) (TS.ex 1 (NX.sqX (NX.bkX (NX.sq (TS.rg (TI.rn 3 [0, 3, 4, 5] [0, 1, 2] (st 77 [(0, sl 0 p0), (3, pt 1 0), (4, pt 2 0), (5, iv (w64 (v33 + 1)))]) [ab 54 e54 p0, cl 29 [iv m10, iv p2], cl 29 [iv 0, iv 0], .dead, .dead] (TI.dn ?_)))))))
     exact Rd.again (a2 := (st 77 [(0, sl 0 p0), (3, pt 1 0), (4, pt 2 0), (5, iv (w64 (v33 + 1)))])) (h2 := (H58_2 p0 m10 p2)) (Wk.an [1, 2] (.ac (.lt (.fl (.fl .nil)) (.lt (.fl (.fl .nil)) (.nil _)))) [sl 0 p0, pt 1 0, pt 2 0, iv (w64 (v33 + 1))] (.sl (.pp (.pp (.fl .nil))))) (ih (w64 (v33 + 1)) _ hF)
    | false =>
     replace hF := of_neg hF rfl
     refine TS.cdF (.tmp 47) (TS.sk (NX.sq (TS.sq ?_)))
     obtain ⟨o70, h71, hF⟩ := of_do hF
     replace h71 := sj h71
     obtain ⟨r72, h73, hF⟩ := of_do hF
     refine TS.rg (TI.ra 13 [3, 4, 6, 7, 52, 60] (st 77 [(3, pt 1 0), (4, pt 2 0), (6, pt 3 0), (7, pt 4 0), (52, iv (w64 (r59.2.2 - r59.1.2))), (60, iv (w64 (m10 - (w64 (r59.1.1 * p2)))))]) (TI.o { val := iv o70 } (q_convI (e := w64 ((w64 (r59.2.2 - r59.1.2)) * (w64 (m10 - (w64 (r59.1.1 * p2)))))) (y := o70) (by kernel_rfl) h71) [3, 4, 6, 7, 61] [0, 1, 2, 3, 4] (st 77 [(3, pt 1 0), (4, pt 2 0), (6, pt 3 0), (7, pt 4 0), (61, iv o70)]) (H58_0 p0 m10 p2 r59) (TI.rn 8 [4, 6, 61, 69] [0, 2, 3] (st 77 [(4, pt 2 0), (6, pt 3 0), (61, iv o70), (69, iv (w64 ((w64 (r59.2.1 - r59.1.1)) * p2)))]) [ab 54 e54 p0, .dead, cl 29 [iv 0, iv 0], cl 54 [iv r59.1.1, iv r59.1.2], .dead] (TI.cf (C67 _ _ _ h73) (TI.rn 2 [4, 6, 8] [0, 2, 3, 5] (st 77 [(4, pt 2 0), (6, pt 3 0), (8, pt 5 0)]) (H58_1 p0 r59 r72) (TI.dq (TS.sq ?_)))))))
     obtain ⟨r74, h75, hF⟩ := of_do hF
     obtain ⟨r76, h77, hF⟩ := of_do hF
     have hT : ∀ e ∈ ([⟨59, [iv r59.1.2], (H58_1 p0 r59 r72), ag [iv r74.1, iv r74.2], []⟩, ⟨70, [ag [iv r74.1, iv r74.2], ag [iv r72.1, iv r72.2]], (H58_1 p0 r59 r72), ag [iv r76.1, iv r76.2], []⟩] : List Entry), PureSim Pg e.g e.args e.h e.v e.new := by
      intro e he
      simp only [List.mem_cons, List.not_mem_nil, or_false] at he
      rcases he with rfl | rfl
      · exact PureSim.ak (C59 _ _ h75)
      exact PureSim.ak (C70 _ _ _ _ _ h77)
     refine TS.dp [⟨59, [iv r59.1.2], (H58_1 p0 r59 r72), ag [iv r74.1, iv r74.2], []⟩, ⟨70, [ag [iv r74.1, iv r74.2], ag [iv r72.1, iv r72.2]], (H58_1 p0 r59 r72), ag [iv r76.1, iv r76.2], []⟩] hT mixed 4 [4] [0, 2] (st 77 [(4, pt 2 0)]) [ab 54 e54 p0, .dead, cl 29 [iv r76.1, iv r76.2], .dead, .dead, .dead] ?_ ?_
     · exact QJ.rn (qs (st 77 [(4, pt 2 0), (6, pt 3 0), (8, pt 5 0), (71, pt 3 1), (72, iv r59.1.2)]) (H58_1 p0 r59 r72) [] []) 2 (QJ.o { val := ag [iv r74.1, iv r74.2], new := [] } (qOf_call (g := 59) (args := [iv r59.1.2]) (by kernel_rfl) lookC_hit) (QJ.rn (qs (st 77 [(4, pt 2 0), (6, pt 3 0), (8, pt 5 0), (71, pt 3 1), (72, iv r59.1.2), (73, ag [iv r74.1, iv r74.2]), (74, ag [iv r72.1, iv r72.2])]) (H58_1 p0 r59 r72) [] []) 1 (QJ.dn ⟨rfl, (SJ.o { val := ag [iv r76.1, iv r76.2], new := [] } (qOf_call (g := 70) (args := [ag [iv r74.1, iv r74.2], ag [iv r72.1, iv r72.2]]) (by kernel_rfl) (lookC_skip (fun hg => absurd (show (59 : Nat) = 70 from hg) (by decide)) lookC_hit)) SJ.la)⟩)))
     refine TS.rt (NX.bkR (NX.sqR ?_))
     have hF := sj hF
     subst hF
     exact Rd.out (e := .ret) (by intro h; cases h) (And.intro rfl (Wk.an [2] (.ac (.lt (.fl (.fl .nil)) (.nil _))) [pt 2 0] (.pp .nil)))
   cases r63 with
   | true =>
    replace hm78 := of_pos hm78 rfl
    have hm78 := sj hm78
    subst hm78
    have hT : ∀ e ∈ ([⟨59, [iv r59.1.1], (H58_0 p0 m10 p2 r59), ag [iv r61.1, iv r61.2], []⟩, ⟨68, [ag [iv m10, iv p2], ag [iv r61.1, iv r61.2]], (H58_0 p0 m10 p2 r59), .bool true, []⟩] : List Entry), PureSim Pg e.g e.args e.h e.v e.new := by
     intro e he
     simp only [List.mem_cons, List.not_mem_nil, or_false] at he
     rcases he with rfl | rfl
     · exact PureSim.ak (C59 _ _ h62)
     exact PureSim.ak (C68 _ _ _ _ _ h64)
    refine TS.dp [⟨59, [iv r59.1.1], (H58_0 p0 m10 p2 r59), ag [iv r61.1, iv r61.2], []⟩, ⟨68, [ag [iv m10, iv p2], ag [iv r61.1, iv r61.2]], (H58_0 p0 m10 p2 r59), .bool true, []⟩] hT mixed 10 [0, 3, 4, 5, 6, 7, 47] [0, 1, 2, 3, 4] (st 77 [(0, sl 0 p0), (3, pt 1 0), (4, pt 2 0), (5, iv v33), (6, pt 3 0), (7, pt 4 0), (47, .bool true)]) (H58_0 p0 m10 p2 r59) ?_ ?_
    · exact QJ.rn (qs (st 77 [(0, sl 0 p0), (3, pt 1 0), (4, pt 2 0), (5, iv v33), (6, pt 3 0), (7, pt 4 0), (35, ag [iv m10, iv p2]), (36, pt 3 0), (37, iv r59.1.1)]) (H58_0 p0 m10 p2 r59) [] []) 3 (QJ.o { val := ag [iv r61.1, iv r61.2], new := [] } (qOf_call (g := 59) (args := [iv r59.1.1]) (by kernel_rfl) lookC_hit) (QJ.o { val := .bool true, new := [] } (qOf_call (g := 68) (args := [ag [iv m10, iv p2], ag [iv r61.1, iv r61.2]]) (by kernel_rfl) (lookC_skip (fun hg => absurd (show (59 : Nat) = 68 from hg) (by decide)) lookC_hit)) (QJ.rn (qs (st 77 [(0, sl 0 p0), (3, pt 1 0), (4, pt 2 0), (5, iv v33), (6, pt 3 0), (7, pt 4 0), (35, ag [iv m10, iv p2]), (36, pt 3 0), (37, iv r59.1.1), (38, ag [iv r61.1, iv r61.2]), (39, .bool true), (40, .bool true), (41, undef), (42, undef), (43, undef), (44, undef)]) (H58_0 p0 m10 p2 r59) [] []) 5 (QJ.dn ⟨rfl, SJ.la⟩))))
    exact hK
   | false =>
    replace hm78 := of_neg hm78 rfl
    obtain ⟨r65, h66, hm78⟩ := of_do hm78
    obtain ⟨r67, h68, hm78⟩ := of_do hm78
    have hm78 := sj hm78
    subst hm78
    have hT : ∀ e ∈ ([⟨59, [iv r59.1.1], (H58_0 p0 m10 p2 r59), ag [iv r61.1, iv r61.2], []⟩, ⟨68, [ag [iv m10, iv p2], ag [iv r61.1, iv r61.2]], (H58_0 p0 m10 p2 r59), .bool false, []⟩, ⟨59, [iv r59.2.1], (H58_0 p0 m10 p2 r59), ag [iv r65.1, iv r65.2], []⟩, ⟨68, [ag [iv m10, iv p2], ag [iv r65.1, iv r65.2]], (H58_0 p0 m10 p2 r59), .bool r67, []⟩] : List Entry), PureSim Pg e.g e.args e.h e.v e.new := by
     intro e he
     simp only [List.mem_cons, List.not_mem_nil, or_false] at he
     rcases he with rfl | rfl | rfl | rfl
     · exact PureSim.ak (C59 _ _ h62)
     · exact PureSim.ak (C68 _ _ _ _ _ h64)
     · exact PureSim.ak (C59 _ _ h66)
     exact PureSim.ak (C68 _ _ _ _ _ h68)
    refine TS.dp [⟨59, [iv r59.1.1], (H58_0 p0 m10 p2 r59), ag [iv r61.1, iv r61.2], []⟩, ⟨68, [ag [iv m10, iv p2], ag [iv r61.1, iv r61.2]], (H58_0 p0 m10 p2 r59), .bool false, []⟩, ⟨59, [iv r59.2.1], (H58_0 p0 m10 p2 r59), ag [iv r65.1, iv r65.2], []⟩, ⟨68, [ag [iv m10, iv p2], ag [iv r65.1, iv r65.2]], (H58_0 p0 m10 p2 r59), .bool r67, []⟩] hT mixed 10 [0, 3, 4, 5, 6, 7, 47] [0, 1, 2, 3, 4] (st 77 [(0, sl 0 p0), (3, pt 1 0), (4, pt 2 0), (5, iv v33), (6, pt 3 0), (7, pt 4 0), (47, .bool (!r67))]) (H58_0 p0 m10 p2 r59) ?_ ?_
    · refine QJ.rn (qs (st 77 [(0, sl 0 p0), (3, pt 1 0), (4, pt 2 0), (5, iv v33), (6, pt 3 0), (7, pt 4 0), (35, ag [iv m10, iv p2]), (36, pt 3 0), (37, iv r59.1.1)]) (H58_0 p0 m10 p2 r59) [] []) 3 (QJ.o { val := ag [iv r61.1, iv r61.2], new := [] } (qOf_call (g := 59) (args := [iv r59.1.1]) (by kernel_rfl) lookC_hit) (QJ.o { val := .bool false, new := [] } (qOf_call (g := 68) (args := [ag [iv m10, iv p2], ag [iv r61.1, iv r61.2]]) (by kernel_rfl) (lookC_skip (fun hg => absurd (show (59 : Nat) = 68 from hg) (by decide)) lookC_hit)) (QJ.rn (qs (st 77 [(0, sl 0 p0), (3, pt 1 0), (4, pt 2 0), (5, iv v33), (6, pt 3 0), (7, pt 4 0), (35, ag [iv m10, iv p2]), (36, pt 3 0), (37, iv r59.1.1), (38, ag [iv r61.1, iv r61.2]), (39, .bool false), (40, .bool false), (41, ag [iv m10, iv p2]), (42, pt 4 0), (43, iv r59.2.1)]) (H58_0 p0 m10 p2 r59) [] []) 4 ?_)))
      refine QJ.o { val := ag [iv r65.1, iv r65.2], new := [] } (qOf_call (g := 59) (args := [iv r59.2.1]) (by kernel_rfl) (lookC_skip (by intro _ ha hh; first | (exact absurd (congrArg List.length hh) (Nat.ne_of_beq_eq_false rfl)) | (have hr := sj (h62.symm.trans (Eq.trans (congrArg F59 (show r59.1.1 = r59.2.1 from congrArg (leafI 0) ha)) h66)); first | (subst hr; rfl) | (cases hr; done) | (cases hr; rfl))) (lookC_skip (fun hg => absurd (show (68 : Nat) = 59 from hg) (by decide)) lookC_hit))) (QJ.dn ⟨rfl, ?_⟩)
      exact SJ.o { val := .bool r67, new := [] } (qOf_call (g := 68) (args := [ag [iv m10, iv p2], ag [iv r65.1, iv r65.2]]) (by kernel_rfl) (lookC_skip (fun hg => absurd (show (59 : Nat) = 68 from hg) (by decide)) (lookC_skip (by intro _ ha hh; first | (exact absurd (congrArg List.length hh) (Nat.ne_of_beq_eq_false rfl)) | (have hr := sj (h64.symm.trans (Eq.trans (congr (congr (congr (congrArg F68 (Eq.refl m10)) (Eq.refl p2)) (show r61.1 = r65.1 from congrArg (leafI 2) ha)) (show r61.2 = r65.2 from congrArg (leafI 3) ha)) h68)); first | (subst hr; rfl) | (cases hr; done) | (cases hr; rfl))) (lookC_skip (fun hg => absurd (show (59 : Nat) = 68 from hg) (by decide)) lookC_hit)))) SJ.la
    exact hK
 replace hF := of_neg hF hc58
 refine TS.ex 0 (NX.sqX ?_)
 have hF := sj hF
 subst hF
 exact Rd.out (e := .exit 0) (by intro h; cases h) (And.intro rfl (Wk.an [2] (.ac (.lt (.fl (.fl .nil)) (.nil _))) [pt 2 0] (.pp .nil)))
theorem B58 (p0 : List I2) (p1 p2 : Int) (r : I2) (hF : F58 p0 p1 p2 = some r) : TS Pg 1 1 c58 (st 77 [(0, sl 0 p0), (1, ag [iv p1, iv p2])]) [ab 54 e54 p0] (NX Pg 1 1 [] (FinP Pg Try.f58 1 (V58 1 r) (N58 1 r))) := by
 unfold F58 at hF
 refine TS.sq (TS.rg (TI.rn 2 [0, 3, 4] [0, 1, 2] (S58_4 p0) (H58_3 p0 p1 p2) (TI.dq (TS.sq (TS.sq ?_)))))
 obtain ⟨hg1, hF⟩ := of_guard hF
 obtain ⟨o2, h3, hF⟩ := of_do hF
 replace h3 := sj h3
 obtain ⟨r4, h5, hF⟩ := of_do hF
 obtain ⟨r6, h7, hF⟩ := of_do hF
 have hT : ∀ e ∈ ([⟨59, [iv o2.1], (H58_3 p0 p1 p2), ag [iv r4.1, iv r4.2], []⟩, ⟨68, [ag [iv p1, iv p2], ag [iv r4.1, iv r4.2]], (H58_3 p0 p1 p2), .bool r6, []⟩] : List Entry), PureSim Pg e.g e.args e.h e.v e.new := by
  intro e he
  simp only [List.mem_cons, List.not_mem_nil, or_false] at he
  rcases he with rfl | rfl
  · exact PureSim.ak (C59 _ _ h5)
  exact PureSim.ak (C68 _ _ _ _ _ h7)
 refine TS.dp [⟨59, [iv o2.1], (H58_3 p0 p1 p2), ag [iv r4.1, iv r4.2], []⟩, ⟨68, [ag [iv p1, iv p2], ag [iv r4.1, iv r4.2]], (H58_3 p0 p1 p2), .bool r6, []⟩] hT mixed 6 [0, 3, 4, 15] [0, 1, 2] (st 77 [(0, sl 0 p0), (3, pt 1 0), (4, pt 2 0), (15, .bool r6)]) (H58_3 p0 p1 p2) ?_ ?_
 · exact QJ.rn (qs (st 77 [(0, sl 0 p0), (3, pt 1 0), (4, pt 2 0), (9, ag [iv p1, iv p2]), (10, sl 0 p0)]) (H58_3 p0 p1 p2) [] []) 2 (QJ.o { val := pt 0 (0 + (Int.toNat 0) * 2) } (q_ixS 0 0 ((Int.toNat 0) * 2) (by kernel_rfl) hg1) (QJ.rn (qs (st 77 [(0, sl 0 p0), (3, pt 1 0), (4, pt 2 0), (9, ag [iv p1, iv p2]), (10, sl 0 p0), (11, pt 0 (0 + (Int.toNat 0) * 2)), (12, pt 0 (0 + (Int.toNat 0) * 2))]) (H58_3 p0 p1 p2) [] []) 1 (QJ.o { val := iv o2.1 } (q_n1a Pg (H58_3 p0 p1 p2) 3 0 (0 + (Int.toNat 0) * 2) p0 e54 2 54 (Int.toNat 0) 0 (0, 0) h3) (QJ.o { val := ag [iv r4.1, iv r4.2], new := [] } (qOf_call (g := 59) (args := [iv o2.1]) (by kernel_rfl) lookC_hit) (QJ.dn ⟨rfl, (SJ.o { val := .bool r6, new := [] } (qOf_call (g := 68) (args := [ag [iv p1, iv p2], ag [iv r4.1, iv r4.2]]) (by kernel_rfl) (lookC_skip (fun hg => absurd (show (59 : Nat) = 68 from hg) (by decide)) lookC_hit)) SJ.dn)⟩)))))
 obtain ⟨m10, hm11, hF⟩ := of_do hF
 have hK : NX Pg 1 1 [.sq c58.s2.s2] (FinP Pg Try.f58 1 (V58 1 r) (N58 1 r)) .normal (S58_4 p0) (H58_2 p0 m10 p2) := by
  refine NX.sq (TS.sq (TS.sq (TS.rg (TI.ra 1 [0, 3, 4, 5] (st 77 [(0, sl 0 p0), (3, pt 1 0), (4, pt 2 0), (5, iv 0)]) (TI.dq (TS.bk 0 ?_))))))
  obtain ⟨r79, h80, hF⟩ := of_do hF
  refine TS.lp (TL.weak (a2 := (st 77 [(0, sl 0 p0), (3, pt 1 0), (4, pt 2 0), (5, iv 0)])) (h2 := (H58_2 p0 m10 p2)) (Wk.an [1, 2] (.ac (.lt (.fl (.fl .nil)) (.lt (.fl (.fl .nil)) (.nil _)))) [sl 0 p0, pt 1 0, pt 2 0, iv 0] (.sl (.pp (.pp (.fl .nil))))) (TL.post (L58l0 p0 p2 m10 0 r79 h80) ?_))
  rintro e a1 h1 hp
  rcases r79 with o81 | o82
  · skip
    obtain ⟨rfl, hw⟩ := hp
    refine ⟨(st 77 [(4, pt 1 0)]), [ab 54 e54 p0, cl 29 [iv o81.1, iv o81.2]], (NX.bkR (NX.sqR ?_)), hw⟩
    have hF := sj hF
    subst hF
    exact ⟨.inr rfl, rfl, ag [iv o81.1, iv o81.2], by kernel_rfl, WkV.flat0 (by kernel_rfl) (nl rfl)⟩
  skip
  obtain ⟨rfl, hw⟩ := hp
  refine ⟨(st 77 [(4, pt 1 0)]), [ab 54 e54 p0, cl 29 [iv 0, iv 0]], (NX.bkX (NX.sq (TS.sq ?_))), hw⟩
  obtain ⟨r83, h84, hF⟩ := of_do hF
  refine TS.rg (TI.cf (C59 _ _ h84) (TI.rn 1 [4] [0, 1] (st 77 [(4, pt 1 0)]) [ab 54 e54 p0, cl 29 [iv r83.1, iv r83.2]] (TI.dq (TS.rt ?_))))
  have hF := sj hF
  subst hF
  exact ⟨.inr rfl, rfl, ag [iv r83.1, iv r83.2], by kernel_rfl, WkV.flat0 (by kernel_rfl) (nl rfl)⟩
 clear hF
 have hF := hm11
 clear hm11
 refine TS.start ?_
 cases r6 with
 | true =>
  replace hF := of_pos hF rfl
  refine TS.cdT (.tmp 15) (TS.rg (TI.rn 8 [0, 3, 4] [0, 1, 2] (S58_4 p0) [ab 54 e54 p0, cl 29 [iv (w64 (p1 + (w64 (3600 * p2)))), iv p2], cl 29 [iv 0, iv 0]] (TI.dn ?_)))
  have hF := sj hF
  subst hF
  exact TS.weak (by exact (Wk.an [1, 2] (.ac (.lt (.fl (.fl .nil)) (.lt (.fl (.fl .nil)) (.nil _)))) [sl 0 p0, pt 1 0, pt 2 0] (.sl (.pp (.pp .nil))))) hK
 | false =>
  replace hF := of_neg hF rfl
  refine TS.cdF (.tmp 15) (TS.sk ?_)
  have hF := sj hF
  subst hF
  exact TS.weak (by exact (Wk.an [1, 2] (.ac (.lt (.fl (.fl .nil)) (.lt (.fl (.fl .nil)) (.nil _)))) [sl 0 p0, pt 1 0, pt 2 0] (.sl (.pp (.pp .nil))))) hK
theorem C58 (p0 : List I2) (p1 p2 : Int) (r : I2) (hF : F58 p0 p1 p2 = some r) : PureSim Pg 58 [sl 0 p0, ag [iv p1, iv p2]] [ab 54 e54 p0] (V58 1 r) (N58 1 r) :=
 PureSim.of_Fin Try.func58 (c := c58) (by kernel_rfl) (by kernel_rfl) 1 rfl [0, 1] [0] (by kernel_rfl) (B58 p0 p1 p2 r hF)
noncomputable def c27 : Code := Try.f27.code
def H27_0 (p0 : List I2) (r18 : (List I2) × Int) : List Blk := [ab 54 e54 p0, cl 29 [iv 0, iv 0], ab 29 e29 r18.1]
def H27_1 (p0 : List I2) (r1 : (List Int) × Int) : List Blk := [ab 54 e54 p0, cl 29 [iv 0, iv 0], ab 3 e3 r1.1]
def H27_2 (p0 : List I2) : List Blk := [ab 54 e54 p0, cl 29 [iv 0, iv 0], .dead]
def F27 (p0 : List I2) (p1 : Int) : Option (I2 × Int) :=
 F20 p0 >>= fun r1 =>
 (
  if r1.2 == 0 then
   F57 p1 >>= fun r4 =>
   some (!r4)
  else
   some (false)
 : Option Bool) >>= fun m6 =>
 (
  if m6 then
   some 1
  else
   some r1.2
 : Option Int) >>= fun m9 =>
 (
  if m9 == 0 then
   some (decide ((r1.1.length : Int) > 0))
  else
   some (false)
 : Option Bool) >>= fun m12 =>
 (
  if m12 then
   some 21
  else
   some m9
 : Option Int) >>= fun m15 =>
 if m15 != 0 then
  some ((0, 0), m15)
 else
  F25 p0 p1 >>= fun r18 =>
  if (0 : Int) ≤ 0 ∧ 0 < (r18.1.length : Int) then
   some (List.getD r18.1 (Int.toNat 0) (0, 0)) >>= fun o21 =>
   F58 p0 o21.1 o21.2 >>= fun r23 =>
   some ((r23.1, r23.2), 0)
  else none
def V27 (b : Nat) (r : I2 × Int) : Value := .tuple ⟨[ag [iv r.1.1, iv r.1.2], iv r.2]⟩
def N27 (b : Nat) (r : I2 × Int) : List Blk := []
theorem B27 (p0 : List I2) (p1 : Int) (r : I2 × Int) (hF : F27 p0 p1 = some r) : TS Pg 1 1 c27 (st 44 [(0, sl 0 p0), (1, iv p1)]) [ab 54 e54 p0] (NX Pg 1 1 [] (FinP Pg Try.f27 1 (V27 1 r) (N27 1 r))) := by
 unfold F27 at hF
 refine TS.sq (TS.rg (TI.rn 2 [0, 1, 4] [0, 1] (st 44 [(0, sl 0 p0), (1, iv p1), (4, pt 1 0)]) [ab 54 e54 p0, cl 29 [iv 0, iv 0]] (TI.dq (TS.sq ?_))))
 obtain ⟨r1, h2, hF⟩ := of_do hF
 refine TS.rg (TI.ra 1 [0, 1, 4, 11] (st 44 [(0, sl 0 p0), (1, iv p1), (4, pt 1 0), (11, sl 0 p0)]) (TI.cp 20 [sl 0 p0] (.tuple ⟨[accV 2 r1.1.length, iv r1.2]⟩) [ab 3 e3 r1.1] (PureSim.ren (hc := [ab 54 e54 p0]) (fun i => List.getD [(0, 0)] i (0, 0)) (C20 _ _ h2) (.ac (.nil _)) (.cons (Rn.any _ _ _ _ _ _ (nl rfl) rfl rfl (by decide)) .nil) (Rn.tuple' (.cons (Rn.acc (i' := 2) (nl rfl) rfl) (.fl .nil))) (newflat_cons (accB_flat (fun _ => rfl)) newflat_nil)) (TI.rn 5 [0, 1, 4, 6, 7] [0, 1, 2] (st 44 [(0, sl 0 p0), (1, iv p1), (4, pt 1 0), (6, accV 2 r1.1.length), (7, iv r1.2)]) (H27_1 p0 r1) (TI.dq (TS.sq (TS.sq ?_))))))
 obtain ⟨m6, hm26, hF⟩ := of_do hF
 have hK : NX Pg 1 1 [.sq c27.s2.s2.s1.s2, .sq c27.s2.s2.s2] (FinP Pg Try.f27 1 (V27 1 r) (N27 1 r)) .normal (st 44 [(0, sl 0 p0), (1, iv p1), (4, pt 1 0), (6, accV 2 r1.1.length), (7, iv r1.2), (21, .bool m6)]) (H27_1 p0 r1) := by
  refine NX.sq ?_
  obtain ⟨m9, hm10, hF⟩ := of_do hF
  have hK : NX Pg 1 1 [.sq c27.s2.s2.s2] (FinP Pg Try.f27 1 (V27 1 r) (N27 1 r)) .normal (st 44 [(0, sl 0 p0), (1, iv p1), (4, pt 1 0), (6, accV 2 r1.1.length), (7, iv m9)]) (H27_1 p0 r1) := by
   refine NX.sq (TS.sq (TS.sq ?_))
   obtain ⟨m12, hm25, hF⟩ := of_do hF
   have hK : NX Pg 1 1 [.sq c27.s2.s2.s2.s1.s2, .sq c27.s2.s2.s2.s2] (FinP Pg Try.f27 1 (V27 1 r) (N27 1 r)) .normal (st 44 [(0, sl 0 p0), (1, iv p1), (4, pt 1 0), (7, iv m9), (28, .bool m12)]) (H27_2 p0) := by
    refine NX.sq ?_
    obtain ⟨m15, hm16, hF⟩ := of_do hF
    have hK : NX Pg 1 1 [.sq c27.s2.s2.s2.s2] (FinP Pg Try.f27 1 (V27 1 r) (N27 1 r)) .normal (st 44 [(0, sl 0 p0), (1, iv p1), (4, pt 1 0), (7, iv m15)]) [ab 54 e54 p0, cl 29 [iv 0, iv 0]] := by
     refine NX.sq (TS.sq (TS.sq (TS.rg (TI.ra 2 [0, 1, 4, 7, 30] (st 44 [(0, sl 0 p0), (1, iv p1), (4, pt 1 0), (7, iv m15), (30, .bool (m15 != 0))]) (TI.dq ?_)))))
     refine TS.cd (.tmp 30) (m15 != 0) (fun hc17 => ?_) (fun hc17 => ?_)
     · replace hF := of_pos hF hc17
       refine TS.sq (TS.rg (TI.ra 4 [4, 5] (st 44 [(4, pt 1 0), (5, iv m15)]) (TI.dq (TS.rt (NX.sqR ?_)))))
       have hF := sj hF
       subst hF
       exact ⟨.inr rfl, rfl, .tuple ⟨[ag [iv 0, iv 0], iv m15]⟩, by kernel_rfl, WkV.flat0 (by kernel_rfl) (nl rfl)⟩
     replace hF := of_neg hF hc17
     refine TS.sk (NX.sq (TS.sq ?_))
     obtain ⟨r18, h19, hF⟩ := of_do hF
     refine TS.rg (TI.ra 2 [0, 4, 34, 35] (st 44 [(0, sl 0 p0), (4, pt 1 0), (34, sl 0 p0), (35, iv p1)]) (TI.cp 25 [sl 0 p0, iv p1] (.tuple ⟨[accV 2 r18.1.length, iv r18.2]⟩) [ab 29 e29 r18.1] (PureSim.ren (hc := [ab 54 e54 p0]) (fun i => List.getD [(0, 0)] i (0, 0)) (C25 _ _ _ h19) (.ac (.nil _)) (.cons (Rn.any _ _ _ _ _ _ (nl rfl) rfl rfl (by decide)) (.fl .nil)) (Rn.tuple' (.cons (Rn.acc (i' := 2) (nl rfl) rfl) (.fl .nil))) (newflat_cons (accB_flat (fun _ => rfl)) newflat_nil)) (TI.rn 5 [0, 4, 8] [0, 1, 2] (st 44 [(0, sl 0 p0), (4, pt 1 0), (8, accV 2 r18.1.length)]) (H27_0 p0 r18) (TI.dq (TS.sq ?_)))))
     obtain ⟨hg20, hF⟩ := of_guard hF
     obtain ⟨o21, h22, hF⟩ := of_do hF
     replace h22 := sj h22
     obtain ⟨r23, h24, hF⟩ := of_do hF
     refine TS.rg (TI.ra 2 [4, 39, 40] (st 44 [(4, pt 1 0), (39, sl 0 p0), (40, accV 2 r18.1.length)]) (TI.o { val := pt 2 (0 + (Int.toNat 0) * 2) } (q_ixAcc (P := Pg) (t := 42) (s := 2) (e := 29) 2 r18.1.length (by kernel_rfl) hg20 (by kernel_rfl) (by kernel_rfl)) [4, 39, 41] [0, 1, 2] (st 44 [(4, pt 1 0), (39, sl 0 p0), (41, pt 2 (0 + (Int.toNat 0) * 2))]) (H27_0 p0 r18) (TI.o { val := ag [iv o21.1, iv o21.2] } (q_nAa Pg (H27_0 p0 r18) 29 2 (0 + (Int.toNat 0) * 2) r18.1 e29 2 29 (Int.toNat 0) (0, 0) h22) [4, 39, 42] [0, 1] (st 44 [(4, pt 1 0), (39, sl 0 p0), (42, ag [iv o21.1, iv o21.2])]) (H27_2 p0) (TI.cp 58 [sl 0 p0, ag [iv o21.1, iv o21.2]] (ag [iv r23.1, iv r23.2]) [] (PureSim.ren (hc := [ab 54 e54 p0]) (fun i => List.getD [(0, 0)] i (0, 0)) (C58 _ _ _ _ h24) (.ac (.nil _)) (.cons (Rn.any _ _ _ _ _ _ (nl rfl) rfl rfl (by decide)) (.fl .nil)) (.flat (by kernel_rfl)) newflat_nil) (TI.rn 2 [4, 5] [0, 1] (st 44 [(4, pt 1 0), (5, iv 0)]) [ab 54 e54 p0, cl 29 [iv r23.1, iv r23.2], .dead] (TI.dq (TS.rt ?_)))))))
     have hF := sj hF
     subst hF
     exact ⟨.inr rfl, rfl, .tuple ⟨[ag [iv r23.1, iv r23.2], iv 0]⟩, by kernel_rfl, WkV.flat0 (by kernel_rfl) (nl rfl)⟩
    clear hF
    have hF := hm16
    clear hm16
    refine TS.start ?_
    cases m12 with
    | true =>
     replace hF := of_pos hF rfl
     refine TS.cdT (.tmp 28) (TS.rg (TI.ra 1 [0, 1, 4, 7] (st 44 [(0, sl 0 p0), (1, iv p1), (4, pt 1 0), (7, iv 21)]) (TI.dn ?_)))
     have hF := sj hF
     subst hF
     exact TS.weak (by exact (Wk.an [1] (.ac (.lt (.fl (.fl .nil)) (.nil _))) [sl 0 p0, iv p1, pt 1 0, iv 21] (.sl (.fl (.pp (.fl .nil)))))) hK
    | false =>
     replace hF := of_neg hF rfl
     refine TS.cdF (.tmp 28) (TS.sk ?_)
     have hF := sj hF
     subst hF
     exact TS.weak (by exact (Wk.an [1] (.ac (.lt (.fl (.fl .nil)) (.nil _))) [sl 0 p0, iv p1, pt 1 0, iv m9] (.sl (.fl (.pp (.fl .nil)))))) hK
   rcases Bool.eq_false_or_eq_true (m9 == 0) with hc11 | hc11
   · replace hm25 := of_pos hm25 hc11
     have hm25 := sj hm25
     subst hm25
     exact TS.rg (TI.ra 1 [0, 1, 4, 6, 7, 22] (st 44 [(0, sl 0 p0), (1, iv p1), (4, pt 1 0), (6, accV 2 r1.1.length), (7, iv m9), (22, iv m9)]) (TI.o { val := .bool true } (q_conv (e := m9 == 0) (b := true) (by kernel_rfl) hc11) [0, 1, 4, 6, 7, 23] [0, 1, 2] (st 44 [(0, sl 0 p0), (1, iv p1), (4, pt 1 0), (6, accV 2 r1.1.length), (7, iv m9), (23, .bool true)]) (H27_1 p0 r1) (TI.rn 5 [0, 1, 4, 7, 28] [0, 1] (st 44 [(0, sl 0 p0), (1, iv p1), (4, pt 1 0), (7, iv m9), (28, .bool (decide ((r1.1.length : Int) > 0)))]) (H27_2 p0) (TI.dn hK))))
   replace hm25 := of_neg hm25 hc11
   have hm25 := sj hm25
   subst hm25
   exact TS.rg (TI.ra 1 [0, 1, 4, 6, 7, 22] (st 44 [(0, sl 0 p0), (1, iv p1), (4, pt 1 0), (6, accV 2 r1.1.length), (7, iv m9), (22, iv m9)]) (TI.o { val := .bool false } (q_conv (e := m9 == 0) (b := false) (by kernel_rfl) hc11) [0, 1, 4, 6, 7, 23] [0, 1, 2] (st 44 [(0, sl 0 p0), (1, iv p1), (4, pt 1 0), (6, accV 2 r1.1.length), (7, iv m9), (23, .bool false)]) (H27_1 p0 r1) (TI.rn 5 [0, 1, 4, 7, 28] [0, 1] (st 44 [(0, sl 0 p0), (1, iv p1), (4, pt 1 0), (7, iv m9), (28, .bool false)]) (H27_2 p0) (TI.dn hK))))
  clear hF
  have hF := hm10
  clear hm10
  refine TS.start ?_
  cases m6 with
  | true =>
   replace hF := of_pos hF rfl
   refine TS.cdT (.tmp 21) (TS.rg (TI.ra 1 [0, 1, 4, 6, 7] (st 44 [(0, sl 0 p0), (1, iv p1), (4, pt 1 0), (6, accV 2 r1.1.length), (7, iv 1)]) (TI.dn ?_)))
   have hF := sj hF
   subst hF
   exact TS.weak (by exact (Wk.an [1, 2] (.ac (.lt (.fl (.fl .nil)) (.ac (.nil _)))) [sl 0 p0, iv p1, pt 1 0, accV 2 r1.1.length, iv 1] (.sl (.fl (.pp (.cons (Rn.acc (nl rfl) rfl) (.fl .nil))))))) hK
  | false =>
   replace hF := of_neg hF rfl
   refine TS.cdF (.tmp 21) (TS.sk ?_)
   have hF := sj hF
   subst hF
   exact TS.weak (by exact (Wk.an [1, 2] (.ac (.lt (.fl (.fl .nil)) (.ac (.nil _)))) [sl 0 p0, iv p1, pt 1 0, accV 2 r1.1.length, iv r1.2] (.sl (.fl (.pp (.cons (Rn.acc (nl rfl) rfl) (.fl .nil))))))) hK
 rcases Bool.eq_false_or_eq_true (r1.2 == 0) with hc3 | hc3
 · replace hm26 := of_pos hm26 hc3
   obtain ⟨r4, h5, hm26⟩ := of_do hm26
   have hm26 := sj hm26
   subst hm26
   exact TS.rg (TI.ra 1 [0, 1, 4, 6, 7, 15] (st 44 [(0, sl 0 p0), (1, iv p1), (4, pt 1 0), (6, accV 2 r1.1.length), (7, iv r1.2), (15, iv r1.2)]) (TI.o { val := .bool true } (q_conv (e := r1.2 == 0) (b := true) (by kernel_rfl) hc3) [0, 1, 4, 6, 7, 16] [0, 1, 2] (st 44 [(0, sl 0 p0), (1, iv p1), (4, pt 1 0), (6, accV 2 r1.1.length), (7, iv r1.2), (16, .bool true)]) (H27_1 p0 r1) (TI.ra 2 [0, 1, 4, 6, 7, 17, 18] (st 44 [(0, sl 0 p0), (1, iv p1), (4, pt 1 0), (6, accV 2 r1.1.length), (7, iv r1.2), (17, .bool true), (18, iv p1)]) (TI.cf (C57 _ _ h5) (TI.ra 2 [0, 1, 4, 6, 7, 21] (st 44 [(0, sl 0 p0), (1, iv p1), (4, pt 1 0), (6, accV 2 r1.1.length), (7, iv r1.2), (21, .bool (!r4))]) (TI.dn hK))))))
 replace hm26 := of_neg hm26 hc3
 have hm26 := sj hm26
 subst hm26
 exact TS.rg (TI.ra 1 [0, 1, 4, 6, 7, 15] (st 44 [(0, sl 0 p0), (1, iv p1), (4, pt 1 0), (6, accV 2 r1.1.length), (7, iv r1.2), (15, iv r1.2)]) (TI.o { val := .bool false } (q_conv (e := r1.2 == 0) (b := false) (by kernel_rfl) hc3) [0, 1, 4, 6, 7, 16] [0, 1, 2] (st 44 [(0, sl 0 p0), (1, iv p1), (4, pt 1 0), (6, accV 2 r1.1.length), (7, iv r1.2), (16, .bool false)]) (H27_1 p0 r1) (TI.ra 5 [0, 1, 4, 6, 7, 21] (st 44 [(0, sl 0 p0), (1, iv p1), (4, pt 1 0), (6, accV 2 r1.1.length), (7, iv r1.2), (21, .bool false)]) (TI.dn hK))))
theorem C27 (p0 : List I2) (p1 : Int) (r : I2 × Int) (hF : F27 p0 p1 = some r) : PureSim Pg 27 [sl 0 p0, iv p1] [ab 54 e54 p0] (V27 1 r) (N27 1 r) :=
 PureSim.of_Fin Try.func27 (c := c27) (by kernel_rfl) (by kernel_rfl) 1 rfl [0, 1] [0] (by kernel_rfl) (B27 p0 p1 r hF)
noncomputable def c28 : Code := Try.f28.code
def H28_0 (p0 p1 : List I2) : List Blk := [ab 29 e29 p0, ab 29 e29 p1]
def F28l0 (p0 p1 : List I2) (v10 : Int) : Option (Unit ⊕ Unit) :=
 if decide (v10 < (p0.length : Int)) then
  if (0 : Int) ≤ v10 ∧ v10 < (p0.length : Int) then
   some (List.getD p0 v10.toNat (0, 0)) >>= fun o22 =>
   if (0 : Int) ≤ v10 ∧ v10 < (p1.length : Int) then
    some (List.getD p1 v10.toNat (0, 0)) >>= fun o25 =>
    if !((o22.1 == o25.1) && ((o22.2 == o25.2) && true)) then
     some (.inl ())
    else
     F28l0 p0 p1 (w64 (v10 + 1))
   else none
  else none
 else
  some (.inr ())
 partial_fixpoint
def F28 (p0 p1 : List I2) : Option Bool :=
 if (p0.length : Int) != (p1.length : Int) then
  some false
 else
  F28l0 p0 p1 0 >>= fun r28 =>
  match r28 with
  | .inl o30 =>
   some false
  | .inr o31 =>
   some true
def V28 (b : Nat) (r : Bool) : Value := .bool r
def N28 (b : Nat) (r : Bool) : List Blk := []
def P28l0 (p0 p1 : List I2) (r : Unit ⊕ Unit) : Post := fun e a h => (match r with | .inl q0 => e = .ret ∧ Wk Pg 2 2 a h (st 26 [(4, .bool false)]) (H28_0 p0 p1) | .inr q0 => e = .exit 0 ∧ Wk Pg 2 2 a h (st 26 []) (H28_0 p0 p1))
theorem L28l0 (p0 p1 : List I2) (v10 : Int) (r : Unit ⊕ Unit) (hF : F28l0 p0 p1 v10 = some r) : TL Pg 2 2 c28.s2.s2.s1.s2.bd.bd (st 26 [(0, sl 0 p0), (1, sl 1 p1), (5, iv v10)]) (H28_0 p0 p1) (P28l0 p0 p1 r) := by
 refine F28l0.partial_correctness p0 p1 (motive := fun v10 r => TL Pg 2 2 c28.s2.s2.s1.s2.bd.bd (st 26 [(0, sl 0 p0), (1, sl 1 p1), (5, iv v10)]) (H28_0 p0 p1) (P28l0 p0 p1 r)) ?_ v10 r hF
 clear hF r v10
 intro again ih v10 r hF
 refine TL.round (TS.sq (TS.sq (TS.rg (TI.ra 4 [0, 1, 5, 14] (st 26 [(0, sl 0 p0), (1, sl 1 p1), (5, iv v10), (14, .bool (decide (v10 < (p0.length : Int))))]) (TI.dq ?_)))))
 refine TS.cd (.tmp 14) (decide (v10 < (p0.length : Int))) (fun hc20 => ?_) (fun hc20 => ?_)
 · replace hF := of_pos hF hc20
   refine TS.sk (NX.sq (TS.sq (TS.bk 1 (TS.sq ?_))))
   obtain ⟨hg21, hF⟩ := of_guard hF
   obtain ⟨o22, h23, hF⟩ := of_do hF
   replace h23 := sj h23
   obtain ⟨hg24, hF⟩ := of_guard hF
   obtain ⟨o25, h26, hF⟩ := of_do hF
   replace h26 := sj h26
   refine TS.dp [] (fun e he => by cases he) mixed 8 [0, 1, 5, 25] [0, 1] (st 26 [(0, sl 0 p0), (1, sl 1 p1), (5, iv v10), (25, .bool (!((o22.1 == o25.1) && ((o22.2 == o25.2) && true))))]) (H28_0 p0 p1) ?_ ?_
   · exact QJ.rn (qs (st 26 [(0, sl 0 p0), (1, sl 1 p1), (5, iv v10), (14, .bool (decide (v10 < (p0.length : Int)))), (17, sl 0 p0), (18, iv v10)]) (H28_0 p0 p1) [] []) 2 (QJ.o { val := pt 0 (0 + v10.toNat * 2) } (q_ixS 0 0 (v10.toNat * 2) (by kernel_rfl) hg21) (QJ.o { val := ag [iv o22.1, iv o22.2] } (q_nAa Pg (H28_0 p0 p1) 29 0 (0 + v10.toNat * 2) p0 e29 2 29 v10.toNat (0, 0) h23) (QJ.rn (qs (st 26 [(0, sl 0 p0), (1, sl 1 p1), (5, iv v10), (14, .bool (decide (v10 < (p0.length : Int)))), (17, sl 0 p0), (18, iv v10), (19, pt 0 (0 + v10.toNat * 2)), (20, ag [iv o22.1, iv o22.2]), (21, sl 1 p1), (22, iv v10)]) (H28_0 p0 p1) [] []) 2 (QJ.o { val := pt 1 (0 + v10.toNat * 2) } (q_ixS 1 0 (v10.toNat * 2) (by kernel_rfl) hg24) (QJ.o { val := ag [iv o25.1, iv o25.2] } (q_nAa Pg (H28_0 p0 p1) 29 1 (0 + v10.toNat * 2) p1 e29 2 29 v10.toNat (0, 0) h26) (QJ.dn ⟨rfl, SJ.la⟩))))))
   refine TS.cd (.tmp 25) (!((o22.1 == o25.1) && ((o22.2 == o25.2) && true))) (fun hc27 => ?_) (fun hc27 => ?_)
   · replace hF := of_pos hF hc27
     refine TS.sq (TS.rg (TI.ra 1 [4] (st 26 [(4, .bool false)]) (TI.dq (TS.rt (NX.bkR (NX.sqR ?_))))))
     have hF := sj hF
     subst hF
     exact Rd.out (e := .ret) (by intro h; cases h) (And.intro rfl (Wk.an [] (.ac (.ac (.nil _))) [.bool false] (.fl .nil)))
   replace hF := of_neg hF hc27
   refine TS.sk (NX.bk (NX.sq (TS.rg (TI.ra 3 [0, 1, 5] (st 26 [(0, sl 0 p0), (1, sl 1 p1), (5, iv (w64 (v10 + 1)))]) (TI.dn ?_)))))
   exact Rd.again (a2 := (st 26 [(0, sl 0 p0), (1, sl 1 p1), (5, iv (w64 (v10 + 1)))])) (h2 := (H28_0 p0 p1)) (Wk.an [] (.ac (.ac (.nil _))) [sl 0 p0, sl 1 p1, iv (w64 (v10 + 1))] (.sl (.sl (.fl .nil)))) (ih (w64 (v10 + 1)) _ hF)
 replace hF := of_neg hF hc20
 refine TS.ex 0 (NX.sqX ?_)
 have hF := sj hF
 subst hF
 exact Rd.out (e := .exit 0) (by intro h; cases h) (And.intro rfl (Wk.an [] (.ac (.ac (.nil _))) [] .nil))
theorem B28 (p0 p1 : List I2) (r : Bool) (hF : F28 p0 p1 = some r) : TS Pg 2 2 c28 (st 26 [(0, sl 0 p0), (1, sl 1 p1)]) (H28_0 p0 p1) (NX Pg 2 2 [] (FinP Pg Try.f28 2 (V28 2 r) (N28 2 r))) := by
 unfold F28 at hF
 refine TS.sq (TS.rg (TI.ra 1 [0, 1] (st 26 [(0, sl 0 p0), (1, sl 1 p1)]) (TI.dq (TS.sq (TS.sq (TS.rg (TI.ra 5 [0, 1, 10] (st 26 [(0, sl 0 p0), (1, sl 1 p1), (10, .bool ((p0.length : Int) != (p1.length : Int)))]) ?_)))))))
 refine TI.dn (NX.sq ?_)
 refine TS.cd (.tmp 10) ((p0.length : Int) != (p1.length : Int)) (fun hc1 => ?_) (fun hc1 => ?_)
 · replace hF := of_pos hF hc1
   refine TS.sq (TS.rg (TI.ra 1 [4] (st 26 [(4, .bool false)]) (TI.dq (TS.rt (NX.sqR ?_)))))
   have hF := sj hF
   subst hF
   exact ⟨.inr rfl, rfl, .bool false, by kernel_rfl, WkV.flat0 (by kernel_rfl) (nl rfl)⟩
 replace hF := of_neg hF hc1
 refine TS.sk (NX.sq (TS.sq (TS.sq (TS.rg (TI.ra 1 [0, 1, 5] (st 26 [(0, sl 0 p0), (1, sl 1 p1), (5, iv 0)]) (TI.dq (TS.bk 0 ?_)))))))
 obtain ⟨r28, h29, hF⟩ := of_do hF
 refine TS.lp (TL.weak (a2 := (st 26 [(0, sl 0 p0), (1, sl 1 p1), (5, iv 0)])) (h2 := (H28_0 p0 p1)) (Wk.an [] (.ac (.ac (.nil _))) [sl 0 p0, sl 1 p1, iv 0] (.sl (.sl (.fl .nil)))) (TL.post (L28l0 p0 p1 0 r28 h29) ?_))
 rintro e a1 h1 hp
 rcases r28 with o30 | o31
 · skip
   obtain ⟨rfl, hw⟩ := hp
   refine ⟨(st 26 [(4, .bool false)]), (H28_0 p0 p1), (NX.bkR (NX.sqR ?_)), hw⟩
   have hF := sj hF
   subst hF
   exact ⟨.inr rfl, rfl, .bool false, by kernel_rfl, WkV.flat0 (by kernel_rfl) (nl rfl)⟩
 skip
 obtain ⟨rfl, hw⟩ := hp
 refine ⟨(st 26 []), (H28_0 p0 p1), (NX.bkX (NX.sq (TS.sq (TS.rg (TI.ra 1 [4] (st 26 [(4, .bool true)]) (TI.dq (TS.rt ?_))))))), hw⟩
 have hF := sj hF
 subst hF
 exact ⟨.inr rfl, rfl, .bool true, by kernel_rfl, WkV.flat0 (by kernel_rfl) (nl rfl)⟩
theorem C28 (p0 p1 : List I2) (r : Bool) (hF : F28 p0 p1 = some r) : PureSim Pg 28 [sl 0 p0, sl 1 p1] (H28_0 p0 p1) (V28 2 r) (N28 2 r) :=
 PureSim.of_Fin Try.func28 (c := c28) (by kernel_rfl) (by kernel_rfl) 2 rfl [0, 1] [0, 1] (by kernel_rfl) (B28 p0 p1 r hF)
noncomputable def c4 : Code := Try.f4.code
def S4_0 (r6 r8 : (List I2) × Int) (r10 r12 : I2 × Int) : CAct := (st 65 [(7, iv r6.2), (9, iv r8.2), (10, pt 4 0), (11, iv r10.2), (12, pt 5 0), (13, iv r12.2), (44, accV 2 r6.1.length), (45, accV 3 r8.1.length)])
def S4_2 (r10 r12 : I2 × Int) : CAct := (st 65 [(11, iv r10.2), (13, iv r12.2), (52, .bool true), (53, ag [iv r10.1.1, iv r10.1.2]), (54, ag [iv r12.1.1, iv r12.1.2])])
def S4_3 (r10 r12 : I2 × Int) (r6 r8 : (List I2) × Int) : CAct := (st 65 [(10, pt 4 0), (11, iv r10.2), (12, pt 5 0), (13, iv r12.2), (47, .bool true), (48, iv r6.2), (49, iv r8.2)])
def S4_5 (r10 r12 : I2 × Int) : CAct := (st 65 [(10, pt 4 0), (11, iv r10.2), (12, pt 5 0), (13, iv r12.2), (47, .bool true), (50, .bool true)])
def H4_1 (p0 : List I2) (r10 r12 : I2 × Int) : List Blk := [ab 55 e55 p0, .dead, .dead, .dead, cl 29 [iv r10.1.1, iv r10.1.2], cl 29 [iv r12.1.1, iv r12.1.2]]
def H4_4 (r6 r8 : (List I2) × Int) : List Blk := [ab 29 e29 r6.1, ab 29 e29 r8.1]
def H4_6 (p0 : List I2) : List Blk := [ab 55 e55 p0, .dead, .dead, .dead, .dead, .dead]
def F4 (p0 : List I2) (p1 : Int) : Option Bool :=
 if decide ((p0.length : Int) > 60) then
  F15 >>= fun r2 =>
  some r2
 else
  F16 p0 >>= fun r4 =>
  F24 p0 p1 >>= fun r6 =>
  F25 r4 p1 >>= fun r8 =>
  F26 p0 p1 >>= fun r10 =>
  F27 r4 p1 >>= fun r12 =>
  F28 r6.1 r8.1 >>= fun r14 =>
  (
   if r14 then
    if r6.2 == r8.2 then
     if ((r10.1.1 == r12.1.1) && ((r10.1.2 == r12.1.2) && true)) then
      if r10.2 == r12.2 then
       F15 >>= fun r19 =>
       some (r19)
      else
       some (false)
     else
      some (false)
    else
     some (false)
   else
    some (false)
  : Option Bool) >>= fun m21 =>
  some m21
def V4 (b : Nat) (r : Bool) : Value := .bool r
def N4 (b : Nat) (r : Bool) : List Blk := []
theorem B4 (p0 : List I2) (p1 : Int) (r : Bool) (hF : F4 p0 p1 = some r) : TS Pg 1 1 c4 (st 65 [(0, sl 0 p0), (1, iv p1)]) [ab 55 e55 p0] (NX Pg 1 1 [] (FinP Pg Try.f4 1 (V4 1 r) (N4 1 r))) := by
 unfold F4 at hF
 refine TS.sq (TS.rg (TI.ra 1 [0, 1] (st 65 [(0, sl 0 p0), (1, iv p1)]) (TI.dq (TS.sq (TS.sq (TS.rg (TI.ra 3 [0, 1, 16] (st 65 [(0, sl 0 p0), (1, iv p1), (16, .bool (decide ((p0.length : Int) > 60)))]) ?_)))))))
 refine TI.dn (NX.sq ?_)
 refine TS.cd (.tmp 16) (decide ((p0.length : Int) > 60)) (fun hc1 => ?_) (fun hc1 => ?_)
 · replace hF := of_pos hF hc1
   refine TS.sq ?_
   obtain ⟨r2, h3, hF⟩ := of_do hF
   refine TS.rg (TI.cf (C15 _ h3) (TI.ra 1 [4] (st 65 [(4, .bool r2)]) (TI.dq (TS.rt (NX.sqR ?_)))))
   have hF := sj hF
   subst hF
   exact ⟨.inr rfl, rfl, .bool r2, by kernel_rfl, WkV.flat0 (by kernel_rfl) (nl rfl)⟩
 replace hF := of_neg hF hc1
 refine TS.sk (NX.sq (TS.sq ?_))
 obtain ⟨r4, h5, hF⟩ := of_do hF
 refine TS.rg (TI.ra 1 [0, 1, 18] (st 65 [(0, sl 0 p0), (1, iv p1), (18, sl 0 p0)]) (TI.cp 16 [sl 0 p0] (accV 1 r4.length) [ab 54 e54 r4] (PureSim.ren (hc := [ab 55 e55 p0]) (fun i => List.getD [(0, 0)] i (0, 0)) (C16 _ _ h5) (.ac (.nil _)) (.cons (Rn.any _ _ _ _ _ _ (nl rfl) rfl rfl (by decide)) .nil) (Rn.acc (i' := 1) (nl rfl) rfl) (newflat_cons (accB_flat (fun _ => rfl)) newflat_nil)) (TI.rn 1 [0, 1, 5] [0, 1] (st 65 [(0, sl 0 p0), (1, iv p1), (5, accV 1 r4.length)]) [ab 55 e55 p0, ab 54 e54 r4] (TI.dq (TS.sq ?_)))))
 obtain ⟨r6, h7, hF⟩ := of_do hF
 refine TS.rg (TI.ra 2 [0, 1, 5, 21, 22] (st 65 [(0, sl 0 p0), (1, iv p1), (5, accV 1 r4.length), (21, sl 0 p0), (22, iv p1)]) (TI.cp 24 [sl 0 p0, iv p1] (.tuple ⟨[accV 2 r6.1.length, iv r6.2]⟩) [ab 29 e29 r6.1] (PureSim.ren (hc := [ab 55 e55 p0]) (fun i => List.getD [(0, 0)] i (0, 0)) (C24 _ _ _ h7) (.ac (.nil _)) (.cons (Rn.any _ _ _ _ _ _ (nl rfl) rfl rfl (by decide)) (.fl .nil)) (Rn.tuple' (.cons (Rn.acc (i' := 2) (nl rfl) rfl) (.fl .nil))) (newflat_cons (accB_flat (fun _ => rfl)) newflat_nil)) (TI.rn 5 [0, 1, 5, 6, 7] [0, 1, 2] (st 65 [(0, sl 0 p0), (1, iv p1), (5, accV 1 r4.length), (6, accV 2 r6.1.length), (7, iv r6.2)]) [ab 55 e55 p0, ab 54 e54 r4, ab 29 e29 r6.1] (TI.dq (TS.sq ?_)))))
 obtain ⟨r8, h9, hF⟩ := of_do hF
 refine TS.rg (TI.ra 2 [0, 1, 5, 6, 7, 27, 28] (st 65 [(0, sl 0 p0), (1, iv p1), (5, accV 1 r4.length), (6, accV 2 r6.1.length), (7, iv r6.2), (27, accV 1 r4.length), (28, iv p1)]) (TI.cp 25 [accV 1 r4.length, iv p1] (.tuple ⟨[accV 3 r8.1.length, iv r8.2]⟩) [ab 29 e29 r8.1] (PureSim.ren (hc := [ab 54 e54 r4]) (fun i => List.getD [(1, 0)] i (0, 0)) (C25 _ _ _ h9) (.ac (.nil _)) (.cons (Rn.accA (i' := 1) (nl rfl) rfl) (.fl .nil)) (Rn.tuple' (.cons (Rn.acc (i' := 3) (nl rfl) rfl) (.fl .nil))) (newflat_cons (accB_flat (fun _ => rfl)) newflat_nil)) (TI.rn 5 [0, 1, 5, 6, 7, 8, 9] [0, 1, 2, 3] (st 65 [(0, sl 0 p0), (1, iv p1), (5, accV 1 r4.length), (6, accV 2 r6.1.length), (7, iv r6.2), (8, accV 3 r8.1.length), (9, iv r8.2)]) [ab 55 e55 p0, ab 54 e54 r4, ab 29 e29 r6.1, ab 29 e29 r8.1] (TI.dq (TS.sq ?_)))))
 obtain ⟨r10, h11, hF⟩ := of_do hF
 refine TS.rg (TI.ra 2 [1, 5, 6, 7, 8, 9, 33, 34] (st 65 [(1, iv p1), (5, accV 1 r4.length), (6, accV 2 r6.1.length), (7, iv r6.2), (8, accV 3 r8.1.length), (9, iv r8.2), (33, sl 0 p0), (34, iv p1)]) (TI.cp 26 [sl 0 p0, iv p1] (.tuple ⟨[ag [iv r10.1.1, iv r10.1.2], iv r10.2]⟩) [] (PureSim.ren (hc := [ab 55 e55 p0]) (fun i => List.getD [(0, 0)] i (0, 0)) (C26 _ _ _ h11) (.ac (.nil _)) (.cons (Rn.any _ _ _ _ _ _ (nl rfl) rfl rfl (by decide)) (.fl .nil)) (.flat (by kernel_rfl)) newflat_nil) (TI.rn 6 [1, 5, 6, 7, 8, 9, 10, 11] [0, 1, 2, 3, 4] (st 65 [(1, iv p1), (5, accV 1 r4.length), (6, accV 2 r6.1.length), (7, iv r6.2), (8, accV 3 r8.1.length), (9, iv r8.2), (10, pt 4 0), (11, iv r10.2)]) [ab 55 e55 p0, ab 54 e54 r4, ab 29 e29 r6.1, ab 29 e29 r8.1, cl 29 [iv r10.1.1, iv r10.1.2]] (TI.dq (TS.sq ?_)))))
 obtain ⟨r12, h13, hF⟩ := of_do hF
 refine TS.rg (TI.ra 2 [6, 7, 8, 9, 10, 11, 39, 40] (st 65 [(6, accV 2 r6.1.length), (7, iv r6.2), (8, accV 3 r8.1.length), (9, iv r8.2), (10, pt 4 0), (11, iv r10.2), (39, accV 1 r4.length), (40, iv p1)]) (TI.cp 27 [accV 1 r4.length, iv p1] (.tuple ⟨[ag [iv r12.1.1, iv r12.1.2], iv r12.2]⟩) [] (PureSim.ren (hc := [ab 54 e54 r4]) (fun i => List.getD [(1, 0)] i (0, 0)) (C27 _ _ _ h13) (.ac (.nil _)) (.cons (Rn.accA (i' := 1) (nl rfl) rfl) (.fl .nil)) (.flat (by kernel_rfl)) newflat_nil) (TI.rn 6 [6, 7, 8, 9, 10, 11, 12, 13] [0, 2, 3, 4, 5] (st 65 [(6, accV 2 r6.1.length), (7, iv r6.2), (8, accV 3 r8.1.length), (9, iv r8.2), (10, pt 4 0), (11, iv r10.2), (12, pt 5 0), (13, iv r12.2)]) [ab 55 e55 p0, .dead, ab 29 e29 r6.1, ab 29 e29 r8.1, cl 29 [iv r10.1.1, iv r10.1.2], cl 29 [iv r12.1.1, iv r12.1.2]] (TI.dq (TS.sq ?_)))))
 obtain ⟨r14, h15, hF⟩ := of_do hF
 obtain ⟨m21, hm22, hF⟩ := of_do hF
 have hK : NX Pg 1 1 [.sq c4.s2.s2.s2.s2.s2.s2.s2.s2] (FinP Pg Try.f4 1 (V4 1 r) (N4 1 r)) .normal (st 65 [(4, .bool m21)]) (H4_6 p0) := by
  refine NX.sq (TS.rt ?_)
  have hF := sj hF
  subst hF
  exact ⟨.inr rfl, rfl, .bool m21, by kernel_rfl, WkV.flat0 (by kernel_rfl) (nl rfl)⟩
 cases r14 with
 | true =>
  replace hm22 := of_pos hm22 rfl
  rcases Bool.eq_false_or_eq_true (r6.2 == r8.2) with hc16 | hc16
  · replace hm22 := of_pos hm22 hc16
    rcases Bool.eq_false_or_eq_true (((r10.1.1 == r12.1.1) && ((r10.1.2 == r12.1.2) && true))) with hc17 | hc17
    · replace hm22 := of_pos hm22 hc17
      rcases Bool.eq_false_or_eq_true (r10.2 == r12.2) with hc18 | hc18
      · replace hm22 := of_pos hm22 hc18
        obtain ⟨r19, h20, hm22⟩ := of_do hm22
        have hm22 := sj hm22
        subst hm22
        refine TS.rg (TI.ra 2 [7, 9, 10, 11, 12, 13, 44, 45] (S4_0 r6 r8 r10 r12) (TI.cp 28 [accV 2 r6.1.length, accV 3 r8.1.length] (.bool true) [] (PureSim.ren (hc := (H4_4 r6 r8)) (fun i => List.getD [(2, 0), (3, 0)] i (0, 0)) (C28 _ _ _ h15) (.ac (.ac (.nil _))) (.cons (Rn.accA (i' := 2) (nl rfl) rfl) (.cons (Rn.accA (i' := 3) (nl rfl) rfl) .nil)) (.flat (by kernel_rfl)) newflat_nil) (TI.rn 3 [10, 11, 12, 13, 47, 48, 49] [0, 4, 5] (S4_3 r10 r12 r6 r8) (H4_1 p0 r10 r12) (TI.o { val := .bool true } (q_conv (e := r6.2 == r8.2) (b := true) (by kernel_rfl) hc16) [10, 11, 12, 13, 47, 50] [0, 4, 5] (S4_5 r10 r12) (H4_1 p0 r10 r12) (TI.rn 4 [11, 13, 52, 53, 54] [0] (S4_2 r10 r12) (H4_6 p0) (TI.o { val := .bool true } (q_conv (e := ((r10.1.1 == r12.1.1) && ((r10.1.2 == r12.1.2) && true))) (b := true) (by kernel_rfl) hc17) [11, 13, 52, 55] [0] (st 65 [(11, iv r10.2), (13, iv r12.2), (52, .bool true), (55, .bool true)]) (H4_6 p0) (TI.ra 4 [57, 58, 59] (st 65 [(57, .bool true), (58, iv r10.2), (59, iv r12.2)]) (TI.o { val := .bool true } (q_conv (e := r10.2 == r12.2) (b := true) (by kernel_rfl) hc18) [57, 60] [0] (st 65 [(57, .bool true), (60, .bool true)]) (H4_6 p0) ?_))))))))
        exact TI.ra 2 [62] (st 65 [(62, .bool true)]) (TI.cf (C15 _ h20) (TI.ra 2 [4] (st 65 [(4, .bool r19)]) (TI.dn hK)))
      replace hm22 := of_neg hm22 hc18
      have hm22 := sj hm22
      subst hm22
      refine TS.rg (TI.ra 2 [7, 9, 10, 11, 12, 13, 44, 45] (S4_0 r6 r8 r10 r12) (TI.cp 28 [accV 2 r6.1.length, accV 3 r8.1.length] (.bool true) [] (PureSim.ren (hc := (H4_4 r6 r8)) (fun i => List.getD [(2, 0), (3, 0)] i (0, 0)) (C28 _ _ _ h15) (.ac (.ac (.nil _))) (.cons (Rn.accA (i' := 2) (nl rfl) rfl) (.cons (Rn.accA (i' := 3) (nl rfl) rfl) .nil)) (.flat (by kernel_rfl)) newflat_nil) (TI.rn 3 [10, 11, 12, 13, 47, 48, 49] [0, 4, 5] (S4_3 r10 r12 r6 r8) (H4_1 p0 r10 r12) (TI.o { val := .bool true } (q_conv (e := r6.2 == r8.2) (b := true) (by kernel_rfl) hc16) [10, 11, 12, 13, 47, 50] [0, 4, 5] (S4_5 r10 r12) (H4_1 p0 r10 r12) (TI.rn 4 [11, 13, 52, 53, 54] [0] (S4_2 r10 r12) (H4_6 p0) (TI.o { val := .bool true } (q_conv (e := ((r10.1.1 == r12.1.1) && ((r10.1.2 == r12.1.2) && true))) (b := true) (by kernel_rfl) hc17) [11, 13, 52, 55] [0] (st 65 [(11, iv r10.2), (13, iv r12.2), (52, .bool true), (55, .bool true)]) (H4_6 p0) (TI.ra 4 [57, 58, 59] (st 65 [(57, .bool true), (58, iv r10.2), (59, iv r12.2)]) (TI.o { val := .bool false } (q_conv (e := r10.2 == r12.2) (b := false) (by kernel_rfl) hc18) [57, 60] [0] (st 65 [(57, .bool true), (60, .bool false)]) (H4_6 p0) ?_))))))))
      exact TI.ra 5 [4] (st 65 [(4, .bool false)]) (TI.dn hK)
    replace hm22 := of_neg hm22 hc17
    have hm22 := sj hm22
    subst hm22
    refine TS.rg (TI.ra 2 [7, 9, 10, 11, 12, 13, 44, 45] (S4_0 r6 r8 r10 r12) (TI.cp 28 [accV 2 r6.1.length, accV 3 r8.1.length] (.bool true) [] (PureSim.ren (hc := (H4_4 r6 r8)) (fun i => List.getD [(2, 0), (3, 0)] i (0, 0)) (C28 _ _ _ h15) (.ac (.ac (.nil _))) (.cons (Rn.accA (i' := 2) (nl rfl) rfl) (.cons (Rn.accA (i' := 3) (nl rfl) rfl) .nil)) (.flat (by kernel_rfl)) newflat_nil) (TI.rn 3 [10, 11, 12, 13, 47, 48, 49] [0, 4, 5] (S4_3 r10 r12 r6 r8) (H4_1 p0 r10 r12) (TI.o { val := .bool true } (q_conv (e := r6.2 == r8.2) (b := true) (by kernel_rfl) hc16) [10, 11, 12, 13, 47, 50] [0, 4, 5] (S4_5 r10 r12) (H4_1 p0 r10 r12) (TI.rn 4 [11, 13, 52, 53, 54] [0] (S4_2 r10 r12) (H4_6 p0) (TI.o { val := .bool false } (q_conv (e := ((r10.1.1 == r12.1.1) && ((r10.1.2 == r12.1.2) && true))) (b := false) (by kernel_rfl) hc17) [11, 13, 52, 55] [0] (st 65 [(11, iv r10.2), (13, iv r12.2), (52, .bool true), (55, .bool false)]) (H4_6 p0) (TI.ra 10 [4] (st 65 [(4, .bool false)]) (TI.dn ?_))))))))
    exact hK
  replace hm22 := of_neg hm22 hc16
  have hm22 := sj hm22
  subst hm22
  exact TS.rg (TI.ra 2 [7, 9, 10, 11, 12, 13, 44, 45] (S4_0 r6 r8 r10 r12) (TI.cp 28 [accV 2 r6.1.length, accV 3 r8.1.length] (.bool true) [] (PureSim.ren (hc := (H4_4 r6 r8)) (fun i => List.getD [(2, 0), (3, 0)] i (0, 0)) (C28 _ _ _ h15) (.ac (.ac (.nil _))) (.cons (Rn.accA (i' := 2) (nl rfl) rfl) (.cons (Rn.accA (i' := 3) (nl rfl) rfl) .nil)) (.flat (by kernel_rfl)) newflat_nil) (TI.rn 3 [10, 11, 12, 13, 47, 48, 49] [0, 4, 5] (S4_3 r10 r12 r6 r8) (H4_1 p0 r10 r12) (TI.o { val := .bool false } (q_conv (e := r6.2 == r8.2) (b := false) (by kernel_rfl) hc16) [10, 11, 12, 13, 47, 50] [0, 4, 5] (st 65 [(10, pt 4 0), (11, iv r10.2), (12, pt 5 0), (13, iv r12.2), (47, .bool true), (50, .bool false)]) (H4_1 p0 r10 r12) (TI.rn 15 [4] [0] (st 65 [(4, .bool false)]) (H4_6 p0) (TI.dn hK))))))
 | false =>
  replace hm22 := of_neg hm22 rfl
  have hm22 := sj hm22
  subst hm22
  exact TS.rg (TI.ra 2 [7, 9, 10, 11, 12, 13, 44, 45] (S4_0 r6 r8 r10 r12) (TI.cp 28 [accV 2 r6.1.length, accV 3 r8.1.length] (.bool false) [] (PureSim.ren (hc := (H4_4 r6 r8)) (fun i => List.getD [(2, 0), (3, 0)] i (0, 0)) (C28 _ _ _ h15) (.ac (.ac (.nil _))) (.cons (Rn.accA (i' := 2) (nl rfl) rfl) (.cons (Rn.accA (i' := 3) (nl rfl) rfl) .nil)) (.flat (by kernel_rfl)) newflat_nil) (TI.rn 19 [4] [0] (st 65 [(4, .bool false)]) (H4_6 p0) (TI.dn hK))))
theorem C4 (p0 : List I2) (p1 : Int) (r : Bool) (hF : F4 p0 p1 = some r) : PureSim Pg 4 [sl 0 p0, iv p1] [ab 55 e55 p0] (V4 1 r) (N4 1 r) :=
 PureSim.of_Fin Try.func4 (c := c4) (by kernel_rfl) (by kernel_rfl) 1 rfl [0, 1] [0] (by kernel_rfl) (B4 p0 p1 r hF)
end
end Go.Proofs.Ythpfffijnkmdgaa
