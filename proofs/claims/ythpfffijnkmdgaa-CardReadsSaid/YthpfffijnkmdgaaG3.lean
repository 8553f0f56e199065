/- What functions of the program compute, and that they do. -/
import Derived.Test.YthpfffijnkmdgaaCD
import Derived.Test.YthpfffijnkmdgaaGiven
set_option linter.unusedVariables false
set_option linter.unusedSimpArgs false
set_option maxRecDepth 100000
set_option maxHeartbeats 4000000
namespace Go.Proofs.Ythpfffijnkmdgaa
open Go Go.Cl
noncomputable section
def e54 (x : I2) : List Value := [.int .i64 x.1, .int .i64 x.2]
noncomputable def c16 : Code := Try.f16.code
def H16_0 (p0 v6 : List I2) : List Blk := [ab 55 e55 p0, ab 54 e54 v6]
def F16l0 (p0 v6 : List I2) (v5 : Int) : Option (List I2) :=
 if decide (v5 < (p0.length : Int)) then
  if (0 : Int) ≤ v5 ∧ v5 < (p0.length : Int) then
   some (List.getD p0 (Int.toNat v5) (0, 0)) >>= fun o16 =>
   if List.length v6 ≤ 1000000000 then
    F16l0 p0 (v6 ++ [(o16.1, o16.2)]) (w64 (v5 + 1))
   else none
  else none
 else
  some v6
 partial_fixpoint
def F16 (p0 : List I2) : Option (List I2) :=
 F16l0 p0 ([]) 0 >>= fun r19 =>
 some r19
def V16 (b : Nat) (r : List I2) : Value := accV (b + 0) r.length
def N16 (b : Nat) (r : List I2) : List Blk := [ab 54 e54 r]
def P16l0 (p0 r : List I2) : Post := fun e a h => e = .exit 0 ∧ Wk Try.prog 1 1 a h (st 19 [(3, accV 1 r.length)]) [ab 55 e55 p0, ab 54 e54 r]
theorem L16l0 (p0 v6 : List I2) (v5 : Int) (r : List I2) (hF : F16l0 p0 v6 v5 = some r) : TL Try.prog 1 1 c16.s2.s2.s1.s2.bd.bd (st 19 [(0, sv 0 p0.length ANY), (3, accV 1 v6.length), (4, iv v5)]) (H16_0 p0 v6) (P16l0 p0 r) := by
 refine F16l0.partial_correctness p0 (motive := fun v6 v5 r => TL Try.prog 1 1 c16.s2.s2.s1.s2.bd.bd (st 19 [(0, sv 0 p0.length ANY), (3, accV 1 v6.length), (4, iv v5)]) (H16_0 p0 v6) (P16l0 p0 r)) ?_ v6 v5 r hF
 clear hF r v6 v5
 intro again ih v6 v5 r hF
 refine TL.round (TS.sq (TS.sq (TS.rg (TI.ra 4 [0, 3, 4, 8] (st 19 [(0, sv 0 p0.length ANY), (3, accV 1 v6.length), (4, iv v5), (8, .bool (decide (v5 < (p0.length : Int))))]) (TI.dn (NX.sq ?_))))))
 refine TS.cd (.tmp 8) (decide (v5 < (p0.length : Int))) (fun hc14 => ?_) (fun hc14 => ?_)
 · replace hF := of_pos hF hc14
   refine TS.sk (NX.sq (TS.sq (TS.bk 1 ?_)))
   obtain ⟨hg15, hF⟩ := of_guard hF
   obtain ⟨o16, h17, hF⟩ := of_do hF
   replace h17 := sj h17
   obtain ⟨hg18, hF⟩ := of_guard hF
   refine TS.rg (TI.ra 3 [0, 4, 11, 12, 13] (st 19 [(0, sv 0 p0.length ANY), (4, iv v5), (11, accV 1 v6.length), (12, sv 0 p0.length ANY), (13, iv v5)]) (TI.o { val := .pointer (some ⟨0, 0 + (Int.toNat v5) * 2, none⟩) } (q_ixS 0 0 ((Int.toNat v5) * 2) (by kernel_rfl) hg15) [0, 4, 11, 14] [0, 1] (st 19 [(0, sv 0 p0.length ANY), (4, iv v5), (11, accV 1 v6.length), (14, .pointer (some ⟨0, 0 + (Int.toNat v5) * 2, none⟩))]) (H16_0 p0 v6) (TI.o { val := ag [iv o16.1, iv o16.2] } (q_nAa Try.prog (H16_0 p0 v6) 55 0 (0 + (Int.toNat v5) * 2) p0 e55 2 55 (Int.toNat v5) (0, 0) h17) [0, 4, 11, 15] [0, 1] (st 19 [(0, sv 0 p0.length ANY), (4, iv v5), (11, accV 1 v6.length), (15, ag [iv o16.1, iv o16.2])]) (H16_0 p0 v6) (TI.rn 1 [0, 4, 11, 16] [0, 1, 2] (st 19 [(0, sv 0 p0.length ANY), (4, iv v5), (11, accV 1 v6.length), (16, sv 2 1 1)]) [ab 55 e55 p0, ab 54 e54 v6, cl 54 [iv o16.1, iv o16.2]] (TI.acc (l := v6) (b := 1) (ts := #[26, 26]) (e := 54) (bytes := 16) (z := ag [iv 0, iv 0]) (y := sv 2 1 1) (ys := [(o16.1, o16.2)]) (xs := List.flatMap e54 ([(o16.1, o16.2)])) (m := 1) (s := 2) (enc := e54) (by kernel_rfl) (by kernel_rfl) (by decide) (by kernel_rfl) (by kernel_rfl) (by kernel_rfl) (by kernel_rfl) (by kernel_rfl) (by kernel_rfl) (by kernel_rfl) (by kernel_rfl) (fun _ => rfl) rfl rfl (by omega) [0, 4, 17] [0, 3] (a2 := (st 19 [(0, sv 0 p0.length ANY), (4, iv v5), (17, sv 3 (List.length (v6 ++ [(o16.1, o16.2)])) UNK)])) (h2 := [ab 55 e55 p0, .dead, .dead, .cells 54 (List.flatMap e54 (v6 ++ [(o16.1, o16.2)]))]) (by kernel_rfl) (TI.ra 1 [0, 3, 4] (st 19 [(0, sv 0 p0.length ANY), (3, sv 3 (List.length (v6 ++ [(o16.1, o16.2)])) UNK), (4, iv v5)]) (TI.dn (NX.bk ?_))))))))
   refine NX.sq (TS.rg (TI.ra 3 [0, 3, 4] (st 19 [(0, sv 0 p0.length ANY), (3, sv 3 (List.length (v6 ++ [(o16.1, o16.2)])) UNK), (4, iv (w64 (v5 + 1)))]) (TI.dn ?_)))
   exact Rd.again (a2 := (st 19 [(0, sv 0 p0.length ANY), (3, accV 1 (List.length (v6 ++ [(o16.1, o16.2)]))), (4, iv (w64 (v5 + 1)))])) (h2 := [ab 55 e55 p0, accB 54 (List.length (v6 ++ [(o16.1, o16.2)])) (List.flatMap e54 (v6 ++ [(o16.1, o16.2)]))]) (Wk.an [3] (.ac (.cons (At.accU (by kernel_rfl) rfl (fun _ => rfl)) (.nil _))) [sv 0 p0.length ANY, sv 3 (List.length (v6 ++ [(o16.1, o16.2)])) UNK, iv (w64 (v5 + 1))] (.sl (.cons (Rn.accU (nl rfl) rfl (by simp)) (.fl .nil)))) (ih (v6 ++ [(o16.1, o16.2)]) (w64 (v5 + 1)) _ hF)
 replace hF := of_neg hF hc14
 refine TS.ex 0 (NX.sqX ?_)
 have hF := sj hF
 subst hF
 exact Rd.out (e := .exit 0) (by intro h; cases h) (And.intro rfl (Wk.an [1] (.ac (.ac (.nil _))) [accV 1 v6.length] (.cons (Rn.acc (nl rfl) rfl) .nil)))
theorem B16 (p0 r : List I2) (hF : F16 p0 = some r) : TS Try.prog 1 1 c16 (st 19 [(0, sv 0 p0.length ANY)]) [ab 55 e55 p0] (NX Try.prog 1 1 [] (FinP Try.prog Try.f16 1 (V16 1 r) (N16 1 r))) := by
 unfold F16 at hF
 refine TS.sq (TS.rg (TI.ra 1 [0] (st 19 [(0, sv 0 p0.length ANY)]) (TI.dn (NX.sq (TS.sq (TS.rg (TI.ra 1 [0, 3] (st 19 [(0, sv 0 p0.length ANY), (3, .slice none 0 0)]) (TI.dn ?_))))))))
 refine NX.sq (TS.sq (TS.sq (TS.rg (TI.ra 1 [0, 3, 4] (st 19 [(0, sv 0 p0.length ANY), (3, .slice none 0 0), (4, iv 0)]) (TI.dn (NX.sq (TS.bk 0 ?_)))))))
 obtain ⟨r19, h20, hF⟩ := of_do hF
 refine TS.lp (TL.weak (a2 := (st 19 [(0, sv 0 p0.length ANY), (3, accV 1 (List.length ([]))), (4, iv 0)])) (h2 := [ab 55 e55 p0, accB 54 (List.length ([])) (List.flatMap e54 ([]))]) (Wk.an [1] (.ac (.cons At.accN (.nil _))) [sv 0 p0.length ANY, .slice none 0 0, iv 0] (.sl (.cons (Rn.accN) (.fl .nil)))) (TL.post (L16l0 p0 ([]) 0 r19 h20) ?_))
 rintro e a1 h1 hp
 obtain ⟨rfl, hw⟩ := hp
 refine ⟨(st 19 [(3, accV 1 r19.length)]), [ab 55 e55 p0, ab 54 e54 r19], (NX.bkX (NX.sq (TS.sq (TS.rg (TI.ra 2 [2] (st 19 [(2, accV 1 r19.length)]) (TI.dn (NX.sq (TS.rt ?_)))))))), hw⟩
 have hF := sj hF
 subst hF
 exact ⟨.inr rfl, rfl, accV 1 r19.length, by kernel_rfl, WkV.made (L := 1) (f := [1]) (by decide) (by decide) rfl (.ac (.nil _)) (Rn.acc (nl rfl) rfl)⟩
theorem C16 (p0 r : List I2) (hF : F16 p0 = some r) : PureSim Try.prog 16 [sv 0 p0.length ANY] [ab 55 e55 p0] (V16 1 r) (N16 1 r) :=
 PureSim.of_Fin Try.func16 (c := c16) (by kernel_rfl) (by kernel_rfl) 1 rfl [0] [0] (by kernel_rfl) (B16 p0 r hF)
noncomputable def c91 : Code := Try.f91.code
def F91 (p0 p1 p2 : Int) : Option Bool :=
 (
  if decide (p0 ≥ p1) then
   some (decide (p0 ≤ p2))
  else
   some (false)
 : Option Bool) >>= fun m2 =>
 some m2
def V91 (b : Nat) (r : Bool) : Value := .bool r
def N91 (b : Nat) (r : Bool) : List Blk := []
theorem B91 (p0 p1 p2 : Int) (r : Bool) (hF : F91 p0 p1 p2 = some r) : TS Try.prog 0 0 c91 (st 15 [(0, iv p0), (1, iv p1), (2, iv p2)]) [] (NX Try.prog 0 0 [] (FinP Try.prog Try.f91 0 (V91 0 r) (N91 0 r))) := by
 unfold F91 at hF
 refine TS.sq (TS.rg (TI.ra 1 [0, 1, 2] (st 15 [(0, iv p0), (1, iv p1), (2, iv p2)]) (TI.dn (NX.sq (TS.sq ?_)))))
 obtain ⟨m2, hm3, hF⟩ := of_do hF
 have hK : NX Try.prog 0 0 [.sq c91.s2.s2] (FinP Try.prog Try.f91 0 (V91 0 r) (N91 0 r)) .normal (st 15 [(6, .bool m2)]) [] := by
  refine NX.sq (TS.rt ?_)
  have hF := sj hF
  subst hF
  exact ⟨.inr rfl, rfl, .bool m2, by kernel_rfl, WkV.flat0 (by kernel_rfl) (nl rfl)⟩
 rcases Bool.eq_false_or_eq_true (decide (p0 ≥ p1)) with hc1 | hc1
 · replace hm3 := of_pos hm3 hc1
   have hm3 := sj hm3
   subst hm3
   exact TS.rg (TI.ra 2 [0, 2, 7, 8] (st 15 [(0, iv p0), (2, iv p2), (7, iv p0), (8, iv p1)]) (TI.o { val := .bool true } (q_conv (e := decide (p0 ≥ p1)) (b := true) (by kernel_rfl) hc1) [0, 2, 9] [] (st 15 [(0, iv p0), (2, iv p2), (9, .bool true)]) [] (TI.ra 6 [6] (st 15 [(6, .bool (decide (p0 ≤ p2)))]) (TI.dn hK))))
 replace hm3 := of_neg hm3 hc1
 have hm3 := sj hm3
 subst hm3
 exact TS.rg (TI.ra 2 [0, 2, 7, 8] (st 15 [(0, iv p0), (2, iv p2), (7, iv p0), (8, iv p1)]) (TI.o { val := .bool false } (q_conv (e := decide (p0 ≥ p1)) (b := false) (by kernel_rfl) hc1) [0, 2, 9] [] (st 15 [(0, iv p0), (2, iv p2), (9, .bool false)]) [] (TI.ra 6 [6] (st 15 [(6, .bool false)]) (TI.dn hK))))
theorem C91 (p0 p1 p2 : Int) (r : Bool) (hF : F91 p0 p1 p2 = some r) : PureSim Try.prog 91 [iv p0, iv p1, iv p2] [] (V91 0 r) (N91 0 r) :=
 PureSim.of_Fin Try.func91 (c := c91) (by kernel_rfl) (by kernel_rfl) 0 rfl [0, 1, 2] [] (by kernel_rfl) (B91 p0 p1 p2 r hF)
noncomputable def c64 : Code := Try.f64.code
def F64 (p0 p1 p2 : Int) : Option Bool :=
 F91 p0 p1 p2 >>= fun r1 =>
 some r1
def V64 (b : Nat) (r : Bool) : Value := .bool r
def N64 (b : Nat) (r : Bool) : List Blk := []
theorem B64 (p0 p1 p2 : Int) (r : Bool) (hF : F64 p0 p1 p2 = some r) : TS Try.prog 0 0 c64 (st 11 [(0, iv p0), (1, iv p1), (2, iv p2)]) [] (NX Try.prog 0 0 [] (FinP Try.prog Try.f64 0 (V64 0 r) (N64 0 r))) := by
 unfold F64 at hF
 refine TS.sq (TS.rg (TI.ra 1 [0, 1, 2] (st 11 [(0, iv p0), (1, iv p1), (2, iv p2)]) (TI.dn (NX.sq (TS.sq ?_)))))
 obtain ⟨r1, h2, hF⟩ := of_do hF
 refine TS.rg (TI.ra 3 [7, 8, 9] (st 11 [(7, iv p0), (8, iv p1), (9, iv p2)]) (TI.cf (C91 _ _ _ _ h2) (TI.ra 1 [6] (st 11 [(6, .bool r1)]) (TI.dn (NX.sq (TS.rt ?_))))))
 have hF := sj hF
 subst hF
 exact ⟨.inr rfl, rfl, .bool r1, by kernel_rfl, WkV.flat0 (by kernel_rfl) (nl rfl)⟩
theorem C64 (p0 p1 p2 : Int) (r : Bool) (hF : F64 p0 p1 p2 = some r) : PureSim Try.prog 64 [iv p0, iv p1, iv p2] [] (V64 0 r) (N64 0 r) :=
 PureSim.of_Fin Try.func64 (c := c64) (by kernel_rfl) (by kernel_rfl) 0 rfl [0, 1, 2] [] (by kernel_rfl) (B64 p0 p1 p2 r hF)
noncomputable def c57 : Code := Try.f57.code
def F57 (p0 : Int) : Option Bool :=
 F64 p0 0 3599 >>= fun r1 =>
 some r1
def V57 (b : Nat) (r : Bool) : Value := .bool r
def N57 (b : Nat) (r : Bool) : List Blk := []
theorem B57 (p0 : Int) (r : Bool) (hF : F57 p0 = some r) : TS Try.prog 0 0 c57 (st 5 [(0, iv p0)]) [] (NX Try.prog 0 0 [] (FinP Try.prog Try.f57 0 (V57 0 r) (N57 0 r))) := by
 unfold F57 at hF
 refine TS.sq (TS.rg (TI.ra 1 [0] (st 5 [(0, iv p0)]) (TI.dn (NX.sq (TS.sq ?_)))))
 obtain ⟨r1, h2, hF⟩ := of_do hF
 refine TS.rg (TI.ra 1 [3] (st 5 [(3, iv p0)]) (TI.cf (C64 _ _ _ _ h2) (TI.ra 1 [2] (st 5 [(2, .bool r1)]) (TI.dn (NX.sq (TS.rt ?_))))))
 have hF := sj hF
 subst hF
 exact ⟨.inr rfl, rfl, .bool r1, by kernel_rfl, WkV.flat0 (by kernel_rfl) (nl rfl)⟩
theorem C57 (p0 : Int) (r : Bool) (hF : F57 p0 = some r) : PureSim Try.prog 57 [iv p0] [] (V57 0 r) (N57 0 r) :=
 PureSim.of_Fin Try.func57 (c := c57) (by kernel_rfl) (by kernel_rfl) 0 rfl [0] [] (by kernel_rfl) (B57 p0 r hF)
noncomputable def c23 : Code := Try.f23.code
def S23_0 (p0 : List I2) (v14 : Int) : CAct := (st 64 [(0, sv 0 p0.length ANY), (3, iv v14), (16, sv 0 p0.length ANY), (17, iv v14)])
def S23_1 (p0 : List I2) (v14 : Int) : CAct := (st 64 [(0, sv 0 p0.length ANY), (3, iv v14), (18, .pointer (some ⟨0, 0 + (Int.toNat v14) * 2, none⟩))])
def S23_2 (p0 : List I2) (v14 : Int) : CAct := (st 64 [(0, sv 0 p0.length ANY), (3, iv v14), (19, .pointer (some ⟨0, 0 + (Int.toNat v14) * 2, none⟩))])
def F23l0 (p0 : List I2) (v14 : Int) : Option (Int ⊕ Unit) :=
 if decide (v14 < (p0.length : Int)) then
  if (0 : Int) ≤ v14 ∧ v14 < (p0.length : Int) then
   some (List.getD p0 (Int.toNat v14) (0, 0)) >>= fun o43 =>
   F57 o43.1 >>= fun r45 =>
   (
    if !r45 then
     some (true)
    else
     F64 o43.2 (-900) 900 >>= fun r48 =>
     some (!r48)
   : Option Bool) >>= fun m50 =>
   if m50 then
    some (.inl 1)
   else
    (
     if decide (v14 > 0) then
      if (0 : Int) ≤ w64 (v14 - 1) ∧ w64 (v14 - 1) < (p0.length : Int) then
       some (List.getD p0 (Int.toNat (w64 (v14 - 1))) (0, 0)) >>= fun o53 =>
       some (o43.1 == o53.1)
      else none
     else
      some (false)
    : Option Bool) >>= fun m55 =>
    if m55 then
     some (.inl 7)
    else
     (
      if decide (v14 > 0) then
       if (0 : Int) ≤ w64 (v14 - 1) ∧ w64 (v14 - 1) < (p0.length : Int) then
        some (List.getD p0 (Int.toNat (w64 (v14 - 1))) (0, 0)) >>= fun o58 =>
        some (decide (o43.1 < o58.1))
       else none
      else
       some (false)
     : Option Bool) >>= fun m60 =>
     if m60 then
      some (.inl 5)
     else
      F23l0 p0 (w64 (v14 + 1))
  else none
 else
  some (.inr ())
 partial_fixpoint
def F23 (p0 : List I2) : Option Int :=
 if (p0.length : Int) == 0 then
  some 2
 else
  if decide ((p0.length : Int) > 36) then
   some 3
  else
   F23l0 p0 0 >>= fun r64 =>
   match r64 with
   | .inl o66 =>
    some o66
   | .inr o67 =>
    some 0
def V23 (b : Nat) (r : Int) : Value := iv r
def N23 (b : Nat) (r : Int) : List Blk := []
def P23l0 (p0 : List I2) (r : Int ⊕ Unit) : Post := fun e a h => (match r with | .inl q0 => e = .ret ∧ Wk Try.prog 1 1 a h (st 64 [(2, iv q0)]) [ab 54 e54 p0] | .inr q0 => e = .exit 0 ∧ Wk Try.prog 1 1 a h (st 64 []) [ab 54 e54 p0])
theorem L23l0 (p0 : List I2) (v14 : Int) (r : Int ⊕ Unit) (hF : F23l0 p0 v14 = some r) : TL Try.prog 1 1 c23.s2.s2.s2.s1.s2.bd.bd (st 64 [(0, sv 0 p0.length ANY), (3, iv v14)]) [ab 54 e54 p0] (P23l0 p0 r) := by
 refine F23l0.partial_correctness p0 (motive := fun v14 r => TL Try.prog 1 1 c23.s2.s2.s2.s1.s2.bd.bd (st 64 [(0, sv 0 p0.length ANY), (3, iv v14)]) [ab 54 e54 p0] (P23l0 p0 r)) ?_ v14 r hF
 clear hF r v14
 intro again ih v14 r hF
 refine TL.round (TS.sq (TS.sq (TS.rg (TI.ra 4 [0, 3, 13] (st 64 [(0, sv 0 p0.length ANY), (3, iv v14), (13, .bool (decide (v14 < (p0.length : Int))))]) (TI.dn (NX.sq ?_))))))
 refine TS.cd (.tmp 13) (decide (v14 < (p0.length : Int))) (fun hc41 => ?_) (fun hc41 => ?_)
 · replace hF := of_pos hF hc41
   refine TS.sk (NX.sq (TS.sq (TS.bk 1 (TS.sq (TS.sq ?_)))))
   obtain ⟨hg42, hF⟩ := of_guard hF
   obtain ⟨o43, h44, hF⟩ := of_do hF
   replace h44 := sj h44
   obtain ⟨r45, h46, hF⟩ := of_do hF
   obtain ⟨m50, hm63, hF⟩ := of_do hF
   have hK : NX Try.prog 1 1 [.sq c23.s2.s2.s2.s1.s2.bd.bd.s2.s1.bd.s1.s2, .sq c23.s2.s2.s2.s1.s2.bd.bd.s2.s1.bd.s2, .bk 1, .sq c23.s2.s2.s2.s1.s2.bd.bd.s2.s2] (Rd Try.prog 1 1 c23.s2.s2.s2.s1.s2.bd.bd (P23l0 p0 r)) .normal (st 64 [(0, sv 0 p0.length ANY), (3, iv v14), (31, .bool m50)]) [ab 54 e54 p0] := by
    refine NX.sq ?_
    cases m50 with
    | true =>
     replace hF := of_pos hF rfl
     refine TS.cdT (.tmp 31) (TS.sq (TS.rg (TI.ra 1 [2] (st 64 [(2, iv 1)]) (TI.dn (NX.sq (TS.rt (NX.sqR (NX.bkR ?_))))))))
     refine NX.sqR ?_
     have hF := sj hF
     subst hF
     exact Rd.out (e := .ret) (by intro h; cases h) (And.intro rfl (Wk.an [] (.ac (.nil _)) [iv 1] (.fl .nil)))
    | false =>
     replace hF := of_neg hF rfl
     refine TS.cdF (.tmp 31) (TS.sk (NX.sq (TS.sq (TS.sq ?_))))
     obtain ⟨m55, hm62, hF⟩ := of_do hF
     have hK : NX Try.prog 1 1 [.sq c23.s2.s2.s2.s1.s2.bd.bd.s2.s1.bd.s2.s1.s2, .sq c23.s2.s2.s2.s1.s2.bd.bd.s2.s1.bd.s2.s2, .bk 1, .sq c23.s2.s2.s2.s1.s2.bd.bd.s2.s2] (Rd Try.prog 1 1 c23.s2.s2.s2.s1.s2.bd.bd (P23l0 p0 r)) .normal (st 64 [(0, sv 0 p0.length ANY), (3, iv v14), (47, .bool m55)]) [ab 54 e54 p0] := by
      refine NX.sq ?_
      cases m55 with
      | true =>
       replace hF := of_pos hF rfl
       refine TS.cdT (.tmp 47) (TS.sq (TS.rg (TI.ra 1 [2] (st 64 [(2, iv 7)]) (TI.dn (NX.sq (TS.rt (NX.sqR (NX.bkR ?_))))))))
       refine NX.sqR ?_
       have hF := sj hF
       subst hF
       exact Rd.out (e := .ret) (by intro h; cases h) (And.intro rfl (Wk.an [] (.ac (.nil _)) [iv 7] (.fl .nil)))
      | false =>
       replace hF := of_neg hF rfl
       refine TS.cdF (.tmp 47) (TS.sk (NX.sq (TS.sq ?_)))
       obtain ⟨m60, hm61, hF⟩ := of_do hF
       have hK : NX Try.prog 1 1 [.sq c23.s2.s2.s2.s1.s2.bd.bd.s2.s1.bd.s2.s2.s2, .bk 1, .sq c23.s2.s2.s2.s1.s2.bd.bd.s2.s2] (Rd Try.prog 1 1 c23.s2.s2.s2.s1.s2.bd.bd (P23l0 p0 r)) .normal (st 64 [(0, sv 0 p0.length ANY), (3, iv v14), (63, .bool m60)]) [ab 54 e54 p0] := by
        refine NX.sq ?_
        cases m60 with
        | true =>
         replace hF := of_pos hF rfl
         refine TS.cdT (.tmp 63) (TS.sq (TS.rg (TI.ra 1 [2] (st 64 [(2, iv 5)]) (TI.dn (NX.sq (TS.rt (NX.bkR (NX.sqR ?_))))))))
         have hF := sj hF
         subst hF
         exact Rd.out (e := .ret) (by intro h; cases h) (And.intro rfl (Wk.an [] (.ac (.nil _)) [iv 5] (.fl .nil)))
        | false =>
         replace hF := of_neg hF rfl
         refine TS.cdF (.tmp 63) (TS.sk (NX.bk (NX.sq (TS.rg (TI.ra 3 [0, 3] (st 64 [(0, sv 0 p0.length ANY), (3, iv (w64 (v14 + 1)))]) (TI.dn ?_))))))
         exact Rd.again (a2 := (st 64 [(0, sv 0 p0.length ANY), (3, iv (w64 (v14 + 1)))])) (h2 := [ab 54 e54 p0]) (Wk.an [] (.ac (.nil _)) [sv 0 p0.length ANY, iv (w64 (v14 + 1))] (.sl (.fl .nil))) (ih (w64 (v14 + 1)) _ hF)
       rcases Bool.eq_false_or_eq_true (decide (v14 > 0)) with hc56 | hc56
       · replace hm61 := of_pos hm61 hc56
         have hX := of_guard hm61
         clear hm61
         obtain ⟨hg57, hm61⟩ := hX
         have hX := of_do hm61
         clear hm61
         obtain ⟨o58, h59, hm61⟩ := hX
         replace h59 := sj h59
         have hm61 := sj hm61
         subst hm61
         refine TS.dp [] (fun e he => by cases he) mixed 14 [0, 3, 63] [0] (st 64 [(0, sv 0 p0.length ANY), (3, iv v14), (63, .bool (decide (o43.1 < o58.1)))]) [ab 54 e54 p0] ?_ ?_
         · refine QJ.rn (qs (st 64 [(0, sv 0 p0.length ANY), (3, iv v14), (47, .bool false), (48, iv v14)]) [ab 54 e54 p0] [] []) 1 (QJ.o { val := .bool true } (q_conv (e := decide (v14 > 0)) (b := true) (by kernel_rfl) hc56) (QJ.rn (qs (st 64 [(0, sv 0 p0.length ANY), (3, iv v14), (47, .bool false), (48, iv v14), (49, .bool true), (50, .bool true), (51, sv 0 p0.length ANY), (52, iv v14)]) [ab 54 e54 p0] [] []) 3 (QJ.o { val := .pointer (some ⟨0, 0 + (Int.toNat v14) * 2, none⟩) } (q_ixS 0 0 ((Int.toNat v14) * 2) (by kernel_rfl) hg42) (QJ.rn (qs (st 64 [(0, sv 0 p0.length ANY), (3, iv v14), (47, .bool false), (48, iv v14), (49, .bool true), (50, .bool true), (51, sv 0 p0.length ANY), (52, iv v14), (53, .pointer (some ⟨0, 0 + (Int.toNat v14) * 2, none⟩)), (54, .pointer (some ⟨0, 0 + (Int.toNat v14) * 2, none⟩))]) [ab 54 e54 p0] [] []) 1 (QJ.o { val := iv o43.1 } (q_n1a Try.prog [ab 54 e54 p0] 3 0 (0 + (Int.toNat v14) * 2) p0 e54 2 54 (Int.toNat v14) 0 (0, 0) h44) (QJ.rn (qs (st 64 [(0, sv 0 p0.length ANY), (3, iv v14), (47, .bool false), (48, iv v14), (49, .bool true), (50, .bool true), (51, sv 0 p0.length ANY), (52, iv v14), (53, .pointer (some ⟨0, 0 + (Int.toNat v14) * 2, none⟩)), (54, .pointer (some ⟨0, 0 + (Int.toNat v14) * 2, none⟩)), (55, iv o43.1), (56, sv 0 p0.length ANY), (57, iv v14), (58, iv (w64 (v14 - 1)))]) [ab 54 e54 p0] [] []) 3 (QJ.o { val := .pointer (some ⟨0, 0 + (Int.toNat (w64 (v14 - 1))) * 2, none⟩) } (q_ixS 0 0 ((Int.toNat (w64 (v14 - 1))) * 2) (by kernel_rfl) hg57) (QJ.rn (qs (st 64 [(0, sv 0 p0.length ANY), (3, iv v14), (47, .bool false), (48, iv v14), (49, .bool true), (50, .bool true), (51, sv 0 p0.length ANY), (52, iv v14), (53, .pointer (some ⟨0, 0 + (Int.toNat v14) * 2, none⟩)), (54, .pointer (some ⟨0, 0 + (Int.toNat v14) * 2, none⟩)), (55, iv o43.1), (56, sv 0 p0.length ANY), (57, iv v14), (58, iv (w64 (v14 - 1))), (59, .pointer (some ⟨0, 0 + (Int.toNat (w64 (v14 - 1))) * 2, none⟩)), (60, .pointer (some ⟨0, 0 + (Int.toNat (w64 (v14 - 1))) * 2, none⟩))]) [ab 54 e54 p0] [] []) 1 ?_))))))))
           exact QJ.o { val := iv o58.1 } (q_n1a Try.prog [ab 54 e54 p0] 3 0 (0 + (Int.toNat (w64 (v14 - 1))) * 2) p0 e54 2 54 (Int.toNat (w64 (v14 - 1))) 0 (0, 0) h59) (QJ.dn ⟨rfl, SJ.la⟩)
         exact hK
       replace hm61 := of_neg hm61 hc56
       have hm61 := sj hm61
       subst hm61
       refine TS.dp [] (fun e he => by cases he) mixed 14 [0, 3, 63] [0] (st 64 [(0, sv 0 p0.length ANY), (3, iv v14), (63, .bool false)]) [ab 54 e54 p0] ?_ ?_
       · exact QJ.rn (qs (st 64 [(0, sv 0 p0.length ANY), (3, iv v14), (47, .bool false), (48, iv v14)]) [ab 54 e54 p0] [] []) 1 (QJ.o { val := .bool false } (q_conv (e := decide (v14 > 0)) (b := false) (by kernel_rfl) hc56) (QJ.rn (qs (st 64 [(0, sv 0 p0.length ANY), (3, iv v14), (47, .bool false), (48, iv v14), (49, .bool false), (50, .bool false), (51, undef), (52, undef), (53, undef), (54, undef), (55, undef), (56, undef), (57, undef), (58, undef), (59, undef), (60, undef), (61, undef)]) [ab 54 e54 p0] [] []) 12 (QJ.dn ⟨rfl, SJ.la⟩)))
       exact hK
     rcases Bool.eq_false_or_eq_true (decide (v14 > 0)) with hc51 | hc51
     · replace hm62 := of_pos hm62 hc51
       have hX := of_guard hm62
       clear hm62
       obtain ⟨hg52, hm62⟩ := hX
       have hX := of_do hm62
       clear hm62
       obtain ⟨o53, h54, hm62⟩ := hX
       replace h54 := sj h54
       have hm62 := sj hm62
       subst hm62
       refine TS.dp [] (fun e he => by cases he) mixed 14 [0, 3, 47] [0] (st 64 [(0, sv 0 p0.length ANY), (3, iv v14), (47, .bool (o43.1 == o53.1))]) [ab 54 e54 p0] ?_ ?_
       · refine QJ.rn (qs (st 64 [(0, sv 0 p0.length ANY), (3, iv v14), (31, .bool false), (32, iv v14)]) [ab 54 e54 p0] [] []) 1 (QJ.o { val := .bool true } (q_conv (e := decide (v14 > 0)) (b := true) (by kernel_rfl) hc51) (QJ.rn (qs (st 64 [(0, sv 0 p0.length ANY), (3, iv v14), (31, .bool false), (32, iv v14), (33, .bool true), (34, .bool true), (35, sv 0 p0.length ANY), (36, iv v14)]) [ab 54 e54 p0] [] []) 3 (QJ.o { val := .pointer (some ⟨0, 0 + (Int.toNat v14) * 2, none⟩) } (q_ixS 0 0 ((Int.toNat v14) * 2) (by kernel_rfl) hg42) (QJ.rn (qs (st 64 [(0, sv 0 p0.length ANY), (3, iv v14), (31, .bool false), (32, iv v14), (33, .bool true), (34, .bool true), (35, sv 0 p0.length ANY), (36, iv v14), (37, .pointer (some ⟨0, 0 + (Int.toNat v14) * 2, none⟩)), (38, .pointer (some ⟨0, 0 + (Int.toNat v14) * 2, none⟩))]) [ab 54 e54 p0] [] []) 1 (QJ.o { val := iv o43.1 } (q_n1a Try.prog [ab 54 e54 p0] 3 0 (0 + (Int.toNat v14) * 2) p0 e54 2 54 (Int.toNat v14) 0 (0, 0) h44) (QJ.rn (qs (st 64 [(0, sv 0 p0.length ANY), (3, iv v14), (31, .bool false), (32, iv v14), (33, .bool true), (34, .bool true), (35, sv 0 p0.length ANY), (36, iv v14), (37, .pointer (some ⟨0, 0 + (Int.toNat v14) * 2, none⟩)), (38, .pointer (some ⟨0, 0 + (Int.toNat v14) * 2, none⟩)), (39, iv o43.1), (40, sv 0 p0.length ANY), (41, iv v14), (42, iv (w64 (v14 - 1)))]) [ab 54 e54 p0] [] []) 3 (QJ.o { val := .pointer (some ⟨0, 0 + (Int.toNat (w64 (v14 - 1))) * 2, none⟩) } (q_ixS 0 0 ((Int.toNat (w64 (v14 - 1))) * 2) (by kernel_rfl) hg52) (QJ.rn (qs (st 64 [(0, sv 0 p0.length ANY), (3, iv v14), (31, .bool false), (32, iv v14), (33, .bool true), (34, .bool true), (35, sv 0 p0.length ANY), (36, iv v14), (37, .pointer (some ⟨0, 0 + (Int.toNat v14) * 2, none⟩)), (38, .pointer (some ⟨0, 0 + (Int.toNat v14) * 2, none⟩)), (39, iv o43.1), (40, sv 0 p0.length ANY), (41, iv v14), (42, iv (w64 (v14 - 1))), (43, .pointer (some ⟨0, 0 + (Int.toNat (w64 (v14 - 1))) * 2, none⟩)), (44, .pointer (some ⟨0, 0 + (Int.toNat (w64 (v14 - 1))) * 2, none⟩))]) [ab 54 e54 p0] [] []) 1 ?_))))))))
         exact QJ.o { val := iv o53.1 } (q_n1a Try.prog [ab 54 e54 p0] 3 0 (0 + (Int.toNat (w64 (v14 - 1))) * 2) p0 e54 2 54 (Int.toNat (w64 (v14 - 1))) 0 (0, 0) h54) (QJ.dn ⟨rfl, SJ.la⟩)
       exact hK
     replace hm62 := of_neg hm62 hc51
     have hm62 := sj hm62
     subst hm62
     refine TS.dp [] (fun e he => by cases he) mixed 14 [0, 3, 47] [0] (st 64 [(0, sv 0 p0.length ANY), (3, iv v14), (47, .bool false)]) [ab 54 e54 p0] ?_ ?_
     · exact QJ.rn (qs (st 64 [(0, sv 0 p0.length ANY), (3, iv v14), (31, .bool false), (32, iv v14)]) [ab 54 e54 p0] [] []) 1 (QJ.o { val := .bool false } (q_conv (e := decide (v14 > 0)) (b := false) (by kernel_rfl) hc51) (QJ.rn (qs (st 64 [(0, sv 0 p0.length ANY), (3, iv v14), (31, .bool false), (32, iv v14), (33, .bool false), (34, .bool false), (35, undef), (36, undef), (37, undef), (38, undef), (39, undef), (40, undef), (41, undef), (42, undef), (43, undef), (44, undef), (45, undef)]) [ab 54 e54 p0] [] []) 12 (QJ.dn ⟨rfl, SJ.la⟩)))
     exact hK
   rcases Bool.eq_false_or_eq_true (!r45) with hc47 | hc47
   · replace hm63 := of_pos hm63 hc47
     have hm63 := sj hm63
     subst hm63
     refine TS.rg (TI.ra 2 [0, 3, 16, 17] (S23_0 p0 v14) (TI.o { val := .pointer (some ⟨0, 0 + (Int.toNat v14) * 2, none⟩) } (q_ixS 0 0 ((Int.toNat v14) * 2) (by kernel_rfl) hg42) [0, 3, 18] [0] (S23_1 p0 v14) [ab 54 e54 p0] (TI.ra 1 [0, 3, 19] (S23_2 p0 v14) (TI.o { val := iv o43.1 } (q_n1a Try.prog [ab 54 e54 p0] 3 0 (0 + (Int.toNat v14) * 2) p0 e54 2 54 (Int.toNat v14) 0 (0, 0) h44) [0, 3, 20] [0] (st 64 [(0, sv 0 p0.length ANY), (3, iv v14), (20, iv o43.1)]) [ab 54 e54 p0] (TI.cm (PureSim.ak (C57 _ _ h46)) [0, 3, 21] [0] (st 64 [(0, sv 0 p0.length ANY), (3, iv v14), (21, .bool r45)]) [ab 54 e54 p0] (TI.o { val := .bool true } (q_conv (e := !r45) (b := true) (by kernel_rfl) hc47) [0, 3, 22] [0] (st 64 [(0, sv 0 p0.length ANY), (3, iv v14), (22, .bool true)]) [ab 54 e54 p0] (TI.ra 9 [0, 3, 31] (st 64 [(0, sv 0 p0.length ANY), (3, iv v14), (31, .bool true)]) (TI.dn ?_))))))))
     exact hK
   replace hm63 := of_neg hm63 hc47
   have hX := of_do hm63
   clear hm63
   obtain ⟨r48, h49, hm63⟩ := hX
   have hm63 := sj hm63
   subst hm63
   refine TS.rg (TI.ra 2 [0, 3, 16, 17] (S23_0 p0 v14) (TI.o { val := .pointer (some ⟨0, 0 + (Int.toNat v14) * 2, none⟩) } (q_ixS 0 0 ((Int.toNat v14) * 2) (by kernel_rfl) hg42) [0, 3, 18] [0] (S23_1 p0 v14) [ab 54 e54 p0] (TI.ra 1 [0, 3, 19] (S23_2 p0 v14) (TI.o { val := iv o43.1 } (q_n1a Try.prog [ab 54 e54 p0] 3 0 (0 + (Int.toNat v14) * 2) p0 e54 2 54 (Int.toNat v14) 0 (0, 0) h44) [0, 3, 20] [0] (st 64 [(0, sv 0 p0.length ANY), (3, iv v14), (20, iv o43.1)]) [ab 54 e54 p0] (TI.cm (PureSim.ak (C57 _ _ h46)) [0, 3, 21] [0] (st 64 [(0, sv 0 p0.length ANY), (3, iv v14), (21, .bool r45)]) [ab 54 e54 p0] (TI.o { val := .bool false } (q_conv (e := !r45) (b := false) (by kernel_rfl) hc47) [0, 3, 22] [0] (st 64 [(0, sv 0 p0.length ANY), (3, iv v14), (22, .bool false)]) [ab 54 e54 p0] (TI.ra 3 [0, 3, 23, 24, 25] (st 64 [(0, sv 0 p0.length ANY), (3, iv v14), (23, .bool false), (24, sv 0 p0.length ANY), (25, iv v14)]) (TI.o { val := .pointer (some ⟨0, 0 + (Int.toNat v14) * 2, none⟩) } (q_ixS 0 0 ((Int.toNat v14) * 2) (by kernel_rfl) hg42) [0, 3, 23, 26] [0] (st 64 [(0, sv 0 p0.length ANY), (3, iv v14), (23, .bool false), (26, .pointer (some ⟨0, 0 + (Int.toNat v14) * 2, none⟩))]) [ab 54 e54 p0] ?_))))))))
   exact TI.ra 1 [0, 3, 23, 27] (st 64 [(0, sv 0 p0.length ANY), (3, iv v14), (23, .bool false), (27, .pointer (some ⟨0, 0 + (Int.toNat v14) * 2 + 1, none⟩))]) (TI.o { val := iv o43.2 } (q_n1a Try.prog [ab 54 e54 p0] 3 0 (0 + (Int.toNat v14) * 2 + 1) p0 e54 2 54 (Int.toNat v14) 1 (0, 0) h44) [0, 3, 23, 28] [0] (st 64 [(0, sv 0 p0.length ANY), (3, iv v14), (23, .bool false), (28, iv o43.2)]) [ab 54 e54 p0] (TI.cf (C64 _ _ _ _ h49) (TI.ra 2 [0, 3, 31] (st 64 [(0, sv 0 p0.length ANY), (3, iv v14), (31, .bool (!r48))]) (TI.dn hK))))
 replace hF := of_neg hF hc41
 refine TS.ex 0 (NX.sqX ?_)
 have hF := sj hF
 subst hF
 exact Rd.out (e := .exit 0) (by intro h; cases h) (And.intro rfl (Wk.an [] (.ac (.nil _)) [] .nil))
theorem B23 (p0 : List I2) (r : Int) (hF : F23 p0 = some r) : TS Try.prog 1 1 c23 (st 64 [(0, sv 0 p0.length ANY)]) [ab 54 e54 p0] (NX Try.prog 1 1 [] (FinP Try.prog Try.f23 1 (V23 1 r) (N23 1 r))) := by
 unfold F23 at hF
 refine TS.sq (TS.rg (TI.ra 1 [0] (st 64 [(0, sv 0 p0.length ANY)]) (TI.dn (NX.sq (TS.sq (TS.sq (TS.rg (TI.ra 3 [0, 6] (st 64 [(0, sv 0 p0.length ANY), (6, .bool ((p0.length : Int) == 0))]) ?_))))))))
 refine TI.dn (NX.sq ?_)
 refine TS.cd (.tmp 6) ((p0.length : Int) == 0) (fun hc1 => ?_) (fun hc1 => ?_)
 · replace hF := of_pos hF hc1
   refine TS.sq (TS.rg (TI.ra 1 [2] (st 64 [(2, iv 2)]) (TI.dn (NX.sq (TS.rt (NX.sqR ?_))))))
   have hF := sj hF
   subst hF
   exact ⟨.inr rfl, rfl, iv 2, by kernel_rfl, WkV.flat0 (by kernel_rfl) (nl rfl)⟩
 replace hF := of_neg hF hc1
 refine TS.sk (NX.sq (TS.sq (TS.sq (TS.rg (TI.ra 3 [0, 9] (st 64 [(0, sv 0 p0.length ANY), (9, .bool (decide ((p0.length : Int) > 36)))]) (TI.dn (NX.sq ?_)))))))
 refine TS.cd (.tmp 9) (decide ((p0.length : Int) > 36)) (fun hc2 => ?_) (fun hc2 => ?_)
 · replace hF := of_pos hF hc2
   refine TS.sq (TS.rg (TI.ra 1 [2] (st 64 [(2, iv 3)]) (TI.dn (NX.sq (TS.rt (NX.sqR ?_))))))
   have hF := sj hF
   subst hF
   exact ⟨.inr rfl, rfl, iv 3, by kernel_rfl, WkV.flat0 (by kernel_rfl) (nl rfl)⟩
 replace hF := of_neg hF hc2
 refine TS.sk (NX.sq (TS.sq (TS.sq (TS.rg (TI.ra 1 [0, 3] (st 64 [(0, sv 0 p0.length ANY), (3, iv 0)]) (TI.dn (NX.sq (TS.bk 0 ?_))))))))
 obtain ⟨r64, h65, hF⟩ := of_do hF
 refine TS.lp (TL.weak (a2 := (st 64 [(0, sv 0 p0.length ANY), (3, iv 0)])) (h2 := [ab 54 e54 p0]) (Wk.an [] (.ac (.nil _)) [sv 0 p0.length ANY, iv 0] (.sl (.fl .nil))) (TL.post (L23l0 p0 0 r64 h65) ?_))
 rintro e a1 h1 hp
 rcases r64 with o66 | o67
 · skip
   obtain ⟨rfl, hw⟩ := hp
   refine ⟨(st 64 [(2, iv o66)]), [ab 54 e54 p0], (NX.bkR (NX.sqR ?_)), hw⟩
   have hF := sj hF
   subst hF
   exact ⟨.inr rfl, rfl, iv o66, by kernel_rfl, WkV.flat0 (by kernel_rfl) (nl rfl)⟩
 skip
 obtain ⟨rfl, hw⟩ := hp
 refine ⟨(st 64 []), [ab 54 e54 p0], (NX.bkX (NX.sq (TS.sq (TS.rg (TI.ra 1 [2] (st 64 [(2, iv 0)]) (TI.dn (NX.sq (TS.rt ?_)))))))), hw⟩
 have hF := sj hF
 subst hF
 exact ⟨.inr rfl, rfl, iv 0, by kernel_rfl, WkV.flat0 (by kernel_rfl) (nl rfl)⟩
theorem C23 (p0 : List I2) (r : Int) (hF : F23 p0 = some r) : PureSim Try.prog 23 [sv 0 p0.length ANY] [ab 54 e54 p0] (V23 1 r) (N23 1 r) :=
 PureSim.of_Fin Try.func23 (c := c23) (by kernel_rfl) (by kernel_rfl) 1 rfl [0] [0] (by kernel_rfl) (B23 p0 r hF)
noncomputable def c59 : Code := Try.f59.code
def F59 (p0 : Int) : Option I2 :=
 some (p0, 1)
def V59 (b : Nat) (r : I2) : Value := ag [iv r.1, iv r.2]
def N59 (b : Nat) (r : I2) : List Blk := []
theorem B59 (p0 : Int) (r : I2) (hF : F59 p0 = some r) : TS Try.prog 0 0 c59 (st 5 [(0, iv p0)]) [] (NX Try.prog 0 0 [] (FinP Try.prog Try.f59 0 (V59 0 r) (N59 0 r))) := by
 unfold F59 at hF
 refine TS.sq (TS.rg (TI.rn 1 [0, 2] [0] (st 5 [(0, iv p0), (2, pt 0 0)]) [cl 29 [iv 0, iv 0]] (TI.dn (NX.sq (TS.sq (TS.rg (TI.rn 3 [2] [0] (st 5 [(2, pt 0 0)]) [cl 29 [iv p0, iv 1]] (TI.dn ?_))))))))
 refine NX.sq (TS.rt ?_)
 have hF := sj hF
 subst hF
 exact ⟨.inr rfl, rfl, ag [iv p0, iv 1], by kernel_rfl, WkV.flat0 (by kernel_rfl) (nl rfl)⟩
theorem C59 (p0 : Int) (r : I2) (hF : F59 p0 = some r) : PureSim Try.prog 59 [iv p0] [] (V59 0 r) (N59 0 r) :=
 PureSim.of_Fin Try.func59 (c := c59) (by kernel_rfl) (by kernel_rfl) 0 rfl [0] [] (by kernel_rfl) (B59 p0 r hF)
noncomputable def c68 : Code := Try.f68.code
def F68 (p0 p1 p2 p3 : Int) : Option Bool :=
 some (decide ((w64 (p0 * p3)) < (w64 (p2 * p1))))
def V68 (b : Nat) (r : Bool) : Value := .bool r
def N68 (b : Nat) (r : Bool) : List Blk := []
theorem B68 (p0 p1 p2 p3 : Int) (r : Bool) (hF : F68 p0 p1 p2 p3 = some r) : TS Try.prog 0 0 c68 (st 16 [(0, ag [iv p0, iv p1]), (1, ag [iv p2, iv p3])]) [] (NX Try.prog 0 0 [] (FinP Try.prog Try.f68 0 (V68 0 r) (N68 0 r))) := by
 unfold F68 at hF
 refine TS.sq (TS.rg (TI.rn 3 [2, 3] [0, 1] (st 16 [(2, pt 0 0), (3, pt 1 0)]) [cl 29 [iv p0, iv p1], cl 29 [iv p2, iv p3]] (TI.dn (NX.sq (TS.sq (TS.rg (TI.rn 12 [4] [] (st 16 [(4, .bool (decide ((w64 (p0 * p3)) < (w64 (p2 * p1)))))]) [.dead, .dead] (TI.dn ?_))))))))
 refine NX.sq (TS.rt ?_)
 have hF := sj hF
 subst hF
 exact ⟨.inr rfl, rfl, .bool (decide ((w64 (p0 * p3)) < (w64 (p2 * p1)))), by kernel_rfl, WkV.flat0 (by kernel_rfl) (nl rfl)⟩
theorem C68 (p0 p1 p2 p3 : Int) (r : Bool) (hF : F68 p0 p1 p2 p3 = some r) : PureSim Try.prog 68 [ag [iv p0, iv p1], ag [iv p2, iv p3]] [] (V68 0 r) (N68 0 r) :=
 PureSim.of_Fin Try.func68 (c := c68) (by kernel_rfl) (by kernel_rfl) 0 rfl [0, 1] [] (by kernel_rfl) (B68 p0 p1 p2 p3 r hF)
noncomputable def c66 : Code := Try.f66.code
def S66_0 (p0 : List I2) (p1 : Int) (o9 o12 : I2) : CAct := (st 34 [(0, sv 0 p0.length ANY), (1, iv p1), (4, pt 1 0), (5, pt 2 0), (10, .bool (decide ((w64 (p1 + 1)) < (p0.length : Int)))), (20, sv 0 p0.length ANY), (21, iv p1), (22, .pointer (some ⟨0, 0 + (Int.toNat p1) * 2, none⟩)), (23, ag [iv o9.1, iv o9.2]), (24, sv 0 p0.length ANY), (25, .pointer (some ⟨0, 0 + (Int.toNat 0) * 2, none⟩)), (26, .pointer (some ⟨0, 0 + (Int.toNat 0) * 2, none⟩)), (27, iv o12.1), (28, iv (w64 (o12.1 + 3600))), (29, sv 0 p0.length ANY), (30, .pointer (some ⟨0, 0 + (Int.toNat 0) * 2, none⟩)), (31, .pointer (some ⟨0, 0 + (Int.toNat 0) * 2 + 1, none⟩)), (32, iv o12.2), (33, ag [iv (w64 (o12.1 + 3600)), iv o12.2])])
def S66_1 (p0 : List I2) (p1 : Int) (o9 o12 : I2) : CAct := (st 34 [(0, sv 0 p0.length ANY), (1, iv p1), (4, pt 1 0), (5, pt 2 0), (10, .bool (decide ((w64 (p1 + 1)) < (p0.length : Int)))), (20, sv 0 p0.length ANY), (21, iv p1), (22, .pointer (some ⟨0, 0 + (Int.toNat p1) * 2, none⟩)), (23, ag [iv o9.1, iv o9.2]), (24, sv 0 p0.length ANY), (25, .pointer (some ⟨0, 0 + (Int.toNat 0) * 2, none⟩)), (26, .pointer (some ⟨0, 0 + (Int.toNat 0) * 2, none⟩)), (27, iv o12.1), (28, iv (w64 (o12.1 + 3600))), (29, sv 0 p0.length ANY), (30, .pointer (some ⟨0, 0 + (Int.toNat 0) * 2, none⟩)), (31, .pointer (some ⟨0, 0 + (Int.toNat 0) * 2 + 1, none⟩)), (32, iv o12.2)])
def S66_2 (p0 : List I2) (p1 : Int) (o9 o12 : I2) : CAct := (st 34 [(0, sv 0 p0.length ANY), (1, iv p1), (4, pt 1 0), (5, pt 2 0), (10, .bool (decide ((w64 (p1 + 1)) < (p0.length : Int)))), (20, sv 0 p0.length ANY), (21, iv p1), (22, .pointer (some ⟨0, 0 + (Int.toNat p1) * 2, none⟩)), (23, ag [iv o9.1, iv o9.2]), (24, sv 0 p0.length ANY), (25, .pointer (some ⟨0, 0 + (Int.toNat 0) * 2, none⟩)), (26, .pointer (some ⟨0, 0 + (Int.toNat 0) * 2, none⟩)), (27, iv o12.1), (28, iv (w64 (o12.1 + 3600))), (29, sv 0 p0.length ANY), (30, .pointer (some ⟨0, 0 + (Int.toNat 0) * 2, none⟩)), (31, .pointer (some ⟨0, 0 + (Int.toNat 0) * 2 + 1, none⟩))])
def S66_3 (p0 : List I2) (p1 : Int) (o9 o12 : I2) : CAct := (st 34 [(0, sv 0 p0.length ANY), (1, iv p1), (4, pt 1 0), (5, pt 2 0), (10, .bool (decide ((w64 (p1 + 1)) < (p0.length : Int)))), (20, sv 0 p0.length ANY), (21, iv p1), (22, .pointer (some ⟨0, 0 + (Int.toNat p1) * 2, none⟩)), (23, ag [iv o9.1, iv o9.2]), (24, sv 0 p0.length ANY), (25, .pointer (some ⟨0, 0 + (Int.toNat 0) * 2, none⟩)), (26, .pointer (some ⟨0, 0 + (Int.toNat 0) * 2, none⟩)), (27, iv o12.1), (28, iv (w64 (o12.1 + 3600))), (29, sv 0 p0.length ANY), (30, .pointer (some ⟨0, 0 + (Int.toNat 0) * 2, none⟩))])
def S66_4 (p0 : List I2) (p1 : Int) (o9 o12 : I2) : CAct := (st 34 [(0, sv 0 p0.length ANY), (1, iv p1), (4, pt 1 0), (5, pt 2 0), (10, .bool (decide ((w64 (p1 + 1)) < (p0.length : Int)))), (20, sv 0 p0.length ANY), (21, iv p1), (22, .pointer (some ⟨0, 0 + (Int.toNat p1) * 2, none⟩)), (23, ag [iv o9.1, iv o9.2]), (24, sv 0 p0.length ANY), (25, .pointer (some ⟨0, 0 + (Int.toNat 0) * 2, none⟩)), (26, .pointer (some ⟨0, 0 + (Int.toNat 0) * 2, none⟩)), (27, iv o12.1), (28, iv (w64 (o12.1 + 3600))), (29, sv 0 p0.length ANY)])
def S66_5 (p0 : List I2) (p1 : Int) (o3 o6 : I2) : CAct := (st 34 [(0, sv 0 p0.length ANY), (1, iv p1), (4, pt 1 0), (5, pt 2 0), (10, .bool (decide ((w64 (p1 + 1)) < (p0.length : Int)))), (11, sv 0 p0.length ANY), (12, iv p1), (13, .pointer (some ⟨0, 0 + (Int.toNat p1) * 2, none⟩)), (14, ag [iv o3.1, iv o3.2]), (15, sv 0 p0.length ANY), (16, iv p1), (17, iv (w64 (p1 + 1))), (18, .pointer (some ⟨0, 0 + (Int.toNat (w64 (p1 + 1))) * 2, none⟩)), (19, ag [iv o6.1, iv o6.2])])
def S66_6 (p0 : List I2) (p1 : Int) (o9 o12 : I2) : CAct := (st 34 [(0, sv 0 p0.length ANY), (1, iv p1), (4, pt 1 0), (5, pt 2 0), (10, .bool (decide ((w64 (p1 + 1)) < (p0.length : Int)))), (20, sv 0 p0.length ANY), (21, iv p1), (22, .pointer (some ⟨0, 0 + (Int.toNat p1) * 2, none⟩)), (23, ag [iv o9.1, iv o9.2]), (24, sv 0 p0.length ANY), (25, .pointer (some ⟨0, 0 + (Int.toNat 0) * 2, none⟩)), (26, .pointer (some ⟨0, 0 + (Int.toNat 0) * 2, none⟩)), (27, iv o12.1)])
def S66_7 (p0 : List I2) (p1 : Int) (o9 : I2) : CAct := (st 34 [(0, sv 0 p0.length ANY), (1, iv p1), (4, pt 1 0), (5, pt 2 0), (10, .bool (decide ((w64 (p1 + 1)) < (p0.length : Int)))), (20, sv 0 p0.length ANY), (21, iv p1), (22, .pointer (some ⟨0, 0 + (Int.toNat p1) * 2, none⟩)), (23, ag [iv o9.1, iv o9.2]), (24, sv 0 p0.length ANY), (25, .pointer (some ⟨0, 0 + (Int.toNat 0) * 2, none⟩)), (26, .pointer (some ⟨0, 0 + (Int.toNat 0) * 2, none⟩))])
def S66_8 (p0 : List I2) (p1 : Int) (o3 : I2) : CAct := (st 34 [(0, sv 0 p0.length ANY), (1, iv p1), (4, pt 1 0), (5, pt 2 0), (10, .bool (decide ((w64 (p1 + 1)) < (p0.length : Int)))), (11, sv 0 p0.length ANY), (12, iv p1), (13, .pointer (some ⟨0, 0 + (Int.toNat p1) * 2, none⟩)), (14, ag [iv o3.1, iv o3.2]), (15, sv 0 p0.length ANY), (16, iv p1), (17, iv (w64 (p1 + 1))), (18, .pointer (some ⟨0, 0 + (Int.toNat (w64 (p1 + 1))) * 2, none⟩))])
def S66_9 (p0 : List I2) (p1 : Int) (o9 : I2) : CAct := (st 34 [(0, sv 0 p0.length ANY), (1, iv p1), (4, pt 1 0), (5, pt 2 0), (10, .bool (decide ((w64 (p1 + 1)) < (p0.length : Int)))), (20, sv 0 p0.length ANY), (21, iv p1), (22, .pointer (some ⟨0, 0 + (Int.toNat p1) * 2, none⟩)), (23, ag [iv o9.1, iv o9.2]), (24, sv 0 p0.length ANY), (25, .pointer (some ⟨0, 0 + (Int.toNat 0) * 2, none⟩))])
def S66_10 (p0 : List I2) (p1 : Int) (o3 : I2) : CAct := (st 34 [(0, sv 0 p0.length ANY), (1, iv p1), (4, pt 1 0), (5, pt 2 0), (10, .bool (decide ((w64 (p1 + 1)) < (p0.length : Int)))), (11, sv 0 p0.length ANY), (12, iv p1), (13, .pointer (some ⟨0, 0 + (Int.toNat p1) * 2, none⟩)), (14, ag [iv o3.1, iv o3.2]), (15, sv 0 p0.length ANY), (16, iv p1), (17, iv (w64 (p1 + 1)))])
def S66_11 (p0 : List I2) (p1 : Int) (o9 : I2) : CAct := (st 34 [(0, sv 0 p0.length ANY), (1, iv p1), (4, pt 1 0), (5, pt 2 0), (10, .bool (decide ((w64 (p1 + 1)) < (p0.length : Int)))), (20, sv 0 p0.length ANY), (21, iv p1), (22, .pointer (some ⟨0, 0 + (Int.toNat p1) * 2, none⟩)), (23, ag [iv o9.1, iv o9.2]), (24, sv 0 p0.length ANY)])
def S66_12 (p0 : List I2) (p1 : Int) (o3 : I2) : CAct := (st 34 [(0, sv 0 p0.length ANY), (1, iv p1), (4, pt 1 0), (5, pt 2 0), (10, .bool (decide ((w64 (p1 + 1)) < (p0.length : Int)))), (11, sv 0 p0.length ANY), (12, iv p1), (13, .pointer (some ⟨0, 0 + (Int.toNat p1) * 2, none⟩)), (14, ag [iv o3.1, iv o3.2])])
def S66_13 (p0 : List I2) (p1 : Int) (o9 : I2) : CAct := (st 34 [(0, sv 0 p0.length ANY), (1, iv p1), (4, pt 1 0), (5, pt 2 0), (10, .bool (decide ((w64 (p1 + 1)) < (p0.length : Int)))), (20, sv 0 p0.length ANY), (21, iv p1), (22, .pointer (some ⟨0, 0 + (Int.toNat p1) * 2, none⟩)), (23, ag [iv o9.1, iv o9.2])])
def S66_14 (p0 : List I2) (p1 : Int) : CAct := (st 34 [(0, sv 0 p0.length ANY), (1, iv p1), (4, pt 1 0), (5, pt 2 0), (10, .bool (decide ((w64 (p1 + 1)) < (p0.length : Int)))), (11, sv 0 p0.length ANY), (12, iv p1), (13, .pointer (some ⟨0, 0 + (Int.toNat p1) * 2, none⟩))])
def S66_15 (p0 : List I2) (p1 : Int) : CAct := (st 34 [(0, sv 0 p0.length ANY), (1, iv p1), (4, pt 1 0), (5, pt 2 0), (10, .bool (decide ((w64 (p1 + 1)) < (p0.length : Int)))), (20, sv 0 p0.length ANY), (21, iv p1), (22, .pointer (some ⟨0, 0 + (Int.toNat p1) * 2, none⟩))])
def S66_16 (p0 : List I2) (p1 : Int) : CAct := (st 34 [(0, sv 0 p0.length ANY), (1, iv p1), (4, pt 1 0), (5, pt 2 0), (10, .bool (decide ((w64 (p1 + 1)) < (p0.length : Int)))), (11, sv 0 p0.length ANY), (12, iv p1)])
def S66_17 (p0 : List I2) (p1 : Int) : CAct := (st 34 [(0, sv 0 p0.length ANY), (1, iv p1), (4, pt 1 0), (5, pt 2 0), (10, .bool (decide ((w64 (p1 + 1)) < (p0.length : Int)))), (20, sv 0 p0.length ANY), (21, iv p1)])
def H66_18 (p0 : List I2) (o9 o12 : I2) : List Blk := [ab 54 e54 p0, cl 54 [iv o9.1, iv o9.2], cl 54 [iv (w64 (o12.1 + 3600)), iv o12.2]]
def H66_19 (p0 : List I2) (o3 o6 : I2) : List Blk := [ab 54 e54 p0, cl 54 [iv o3.1, iv o3.2], cl 54 [iv o6.1, iv o6.2]]
def H66_20 (p0 : List I2) (o3 : I2) : List Blk := [ab 54 e54 p0, cl 54 [iv o3.1, iv o3.2], cl 54 [iv 0, iv 0]]
def H66_21 (p0 : List I2) (o9 : I2) : List Blk := [ab 54 e54 p0, cl 54 [iv o9.1, iv o9.2], cl 54 [iv 0, iv 0]]
def H66_22 (p0 : List I2) : List Blk := [ab 54 e54 p0, cl 54 [iv 0, iv 0], cl 54 [iv 0, iv 0]]
def H66_23 (p0 : List I2) : List Blk := [ab 54 e54 p0, .dead, cl 54 [iv 0, iv 0]]
def F66 (p0 : List I2) (p1 : Int) : Option (I2 × I2) :=
 if decide ((w64 (p1 + 1)) < (p0.length : Int)) then
  if (0 : Int) ≤ p1 ∧ p1 < (p0.length : Int) then
   some (List.getD p0 (Int.toNat p1) (0, 0)) >>= fun o3 =>
   if (0 : Int) ≤ w64 (p1 + 1) ∧ w64 (p1 + 1) < (p0.length : Int) then
    some (List.getD p0 (Int.toNat (w64 (p1 + 1))) (0, 0)) >>= fun o6 =>
    some ((o3.1, o3.2), (o6.1, o6.2))
   else none
  else none
 else
  if (0 : Int) ≤ p1 ∧ p1 < (p0.length : Int) then
   some (List.getD p0 (Int.toNat p1) (0, 0)) >>= fun o9 =>
   if (0 : Int) ≤ 0 ∧ 0 < (p0.length : Int) then
    some (List.getD p0 (Int.toNat 0) (0, 0)) >>= fun o12 =>
    some ((o9.1, o9.2), (w64 (o12.1 + 3600), o12.2))
   else none
  else none
def V66 (b : Nat) (r : I2 × I2) : Value := .tuple ⟨[ag [iv r.1.1, iv r.1.2], ag [iv r.2.1, iv r.2.2]]⟩
def N66 (b : Nat) (r : I2 × I2) : List Blk := []
theorem B66 (p0 : List I2) (p1 : Int) (r : I2 × I2) (hF : F66 p0 p1 = some r) : TS Try.prog 1 1 c66 (st 34 [(0, sv 0 p0.length ANY), (1, iv p1)]) [ab 54 e54 p0] (NX Try.prog 1 1 [] (FinP Try.prog Try.f66 1 (V66 1 r) (N66 1 r))) := by
 unfold F66 at hF
 refine TS.sq (TS.rg (TI.rn 2 [0, 1, 4, 5] [0, 1, 2] (st 34 [(0, sv 0 p0.length ANY), (1, iv p1), (4, pt 1 0), (5, pt 2 0)]) (H66_22 p0) (TI.dn (NX.sq (TS.sq (TS.sq (TS.rg (TI.ra 5 [0, 1, 4, 5, 10] (st 34 [(0, sv 0 p0.length ANY), (1, iv p1), (4, pt 1 0), (5, pt 2 0), (10, .bool (decide ((w64 (p1 + 1)) < (p0.length : Int))))]) ?_))))))))
 refine TI.dn (NX.sq ?_)
 refine TS.cd (.tmp 10) (decide ((w64 (p1 + 1)) < (p0.length : Int))) (fun hc1 => ?_) (fun hc1 => ?_)
 · replace hF := of_pos hF hc1
   refine TS.sq ?_
   obtain ⟨hg2, hF⟩ := of_guard hF
   obtain ⟨o3, h4, hF⟩ := of_do hF
   replace h4 := sj h4
   obtain ⟨hg5, hF⟩ := of_guard hF
   obtain ⟨o6, h7, hF⟩ := of_do hF
   replace h7 := sj h7
   refine TS.draw' (id := 2) (b := true) (ops := c66.s2.s1.s2.th.s1.rops) (fin := (qs (S66_5 p0 p1 o3 o6) (H66_20 p0 o3) [] [(9, 1)])) (fin2 := (qs (S66_5 p0 p1 o3 o6) (H66_20 p0 o3) [] [(9, 1)])) (a1 := (S66_5 p0 p1 o3 o6)) (h1 := (H66_19 p0 o3 o6)) (a2 := (st 34 [(4, pt 1 0), (5, pt 2 0)])) (h2 := (H66_19 p0 o3 o6)) [] (fun e he => by cases he) mixed (by kernel_rfl) rfl 10 (by kernel_rfl) [(9, 1)] ?_ rfl (.inr ⟨?_, (by kernel_rfl)⟩) ?_ [4, 5] [0, 1, 2] (by kernel_rfl) ?_
   · exact QI.run (s1 := (qs (S66_16 p0 p1) (H66_22 p0) [] [])) 2 (by kernel_rfl) (by kernel_rfl) (QI.op (q := { val := .pointer (some ⟨0, 0 + (Int.toNat p1) * 2, none⟩) }) (s1 := (qs (S66_14 p0 p1) (H66_22 p0) [] [])) (by decide) (q_ixS 0 0 ((Int.toNat p1) * 2) (by kernel_rfl) hg2) (by kernel_rfl) (QI.op (q := { val := ag [iv o3.1, iv o3.2] }) (s1 := (qs (S66_12 p0 p1 o3) (H66_22 p0) [] [])) (by decide) (q_nAa Try.prog (H66_22 p0) 54 0 (0 + (Int.toNat p1) * 2) p0 e54 2 54 (Int.toNat p1) (0, 0) h4) (by kernel_rfl) (QI.run (s1 := (qs (S66_10 p0 p1 o3) (H66_22 p0) [] [])) 3 (by kernel_rfl) (by kernel_rfl) (QI.op (q := { val := .pointer (some ⟨0, 0 + (Int.toNat (w64 (p1 + 1))) * 2, none⟩) }) (s1 := (qs (S66_8 p0 p1 o3) (H66_22 p0) [] [])) (by decide) (q_ixS 0 0 ((Int.toNat (w64 (p1 + 1))) * 2) (by kernel_rfl) hg5) (by kernel_rfl) (QI.op (q := { val := ag [iv o6.1, iv o6.2] }) (s1 := (qs (S66_5 p0 p1 o3 o6) (H66_22 p0) [] [])) (by decide) (q_nAa Try.prog (H66_22 p0) 54 0 (0 + (Int.toNat (w64 (p1 + 1))) * 2) p0 e54 2 54 (Int.toNat (w64 (p1 + 1))) (0, 0) h7) (by kernel_rfl) (QI.run (s1 := (qs (S66_5 p0 p1 o3 o6) (H66_20 p0 o3) [] [(9, 1)])) 1 (by kernel_rfl) (by kernel_rfl) (QI.done (by kernel_rfl))))))))
   · exact QI.run (s1 := (qs (S66_16 p0 p1) (H66_22 p0) [] [])) 2 (by kernel_rfl) (by kernel_rfl) (QI.op (q := { val := .pointer (some ⟨0, 0 + (Int.toNat p1) * 2, none⟩) }) (s1 := (qs (S66_14 p0 p1) (H66_22 p0) [] [])) (by decide) (q_ixS 0 0 ((Int.toNat p1) * 2) (by kernel_rfl) hg2) (by kernel_rfl) (QI.op (q := { val := ag [iv o3.1, iv o3.2] }) (s1 := (qs (S66_12 p0 p1 o3) (H66_22 p0) [] [])) (by decide) (q_nAa Try.prog (H66_22 p0) 54 0 (0 + (Int.toNat p1) * 2) p0 e54 2 54 (Int.toNat p1) (0, 0) h4) (by kernel_rfl) (QI.run (s1 := (qs (S66_10 p0 p1 o3) (H66_22 p0) [] [])) 3 (by kernel_rfl) (by kernel_rfl) (QI.op (q := { val := .pointer (some ⟨0, 0 + (Int.toNat (w64 (p1 + 1))) * 2, none⟩) }) (s1 := (qs (S66_8 p0 p1 o3) (H66_22 p0) [] [])) (by decide) (q_ixS 0 0 ((Int.toNat (w64 (p1 + 1))) * 2) (by kernel_rfl) hg5) (by kernel_rfl) (QI.op (q := { val := ag [iv o6.1, iv o6.2] }) (s1 := (qs (S66_5 p0 p1 o3 o6) (H66_22 p0) [] [])) (by decide) (q_nAa Try.prog (H66_23 p0) 54 0 (0 + (Int.toNat (w64 (p1 + 1))) * 2) p0 e54 2 54 (Int.toNat (w64 (p1 + 1))) (0, 0) h7) (by kernel_rfl) (QI.run (s1 := (qs (S66_5 p0 p1 o3 o6) (H66_20 p0 o3) [] [(9, 1)])) 1 (by kernel_rfl) (by kernel_rfl) (QI.done (by kernel_rfl))))))))
   · exact SI.run (a2 := (S66_5 p0 p1 o3 o6)) (h2 := (H66_19 p0 o3 o6)) 1 (by kernel_rfl) (SI.done (by kernel_rfl))
   refine TS.rt (NX.sqR ?_)
   have hF := sj hF
   subst hF
   exact ⟨.inr rfl, rfl, .tuple ⟨[ag [iv o3.1, iv o3.2], ag [iv o6.1, iv o6.2]]⟩, by kernel_rfl, WkV.flat0 (by kernel_rfl) (nl rfl)⟩
 replace hF := of_neg hF hc1
 refine TS.sk (NX.sq (TS.sq ?_))
 obtain ⟨hg8, hF⟩ := of_guard hF
 obtain ⟨o9, h10, hF⟩ := of_do hF
 replace h10 := sj h10
 obtain ⟨hg11, hF⟩ := of_guard hF
 obtain ⟨o12, h13, hF⟩ := of_do hF
 replace h13 := sj h13
 refine TS.draw' (id := 3) (b := true) (ops := c66.s2.s2.s1.rops) (fin := (qs (S66_0 p0 p1 o9 o12) (H66_21 p0 o9) [] [(14, 1)])) (fin2 := (qs (S66_0 p0 p1 o9 o12) (H66_21 p0 o9) [] [(14, 1)])) (a1 := (S66_0 p0 p1 o9 o12)) (h1 := (H66_18 p0 o9 o12)) (a2 := (st 34 [(4, pt 1 0), (5, pt 2 0)])) (h2 := (H66_18 p0 o9 o12)) [] (fun e he => by cases he) mixed (by kernel_rfl) rfl 15 (by kernel_rfl) [(14, 1)] ?_ rfl (.inr ⟨?_, (by kernel_rfl)⟩) ?_ [4, 5] [0, 1, 2] (by kernel_rfl) ?_
 · refine QI.run (s1 := (qs (S66_17 p0 p1) (H66_22 p0) [] [])) 2 (by kernel_rfl) (by kernel_rfl) (QI.op (q := { val := .pointer (some ⟨0, 0 + (Int.toNat p1) * 2, none⟩) }) (s1 := (qs (S66_15 p0 p1) (H66_22 p0) [] [])) (by decide) (q_ixS 0 0 ((Int.toNat p1) * 2) (by kernel_rfl) hg8) (by kernel_rfl) (QI.op (q := { val := ag [iv o9.1, iv o9.2] }) (s1 := (qs (S66_13 p0 p1 o9) (H66_22 p0) [] [])) (by decide) (q_nAa Try.prog (H66_22 p0) 54 0 (0 + (Int.toNat p1) * 2) p0 e54 2 54 (Int.toNat p1) (0, 0) h10) (by kernel_rfl) (QI.run (s1 := (qs (S66_11 p0 p1 o9) (H66_22 p0) [] [])) 1 (by kernel_rfl) (by kernel_rfl) (QI.op (q := { val := .pointer (some ⟨0, 0 + (Int.toNat 0) * 2, none⟩) }) (s1 := (qs (S66_9 p0 p1 o9) (H66_22 p0) [] [])) (by decide) (q_ixS 0 0 ((Int.toNat 0) * 2) (by kernel_rfl) hg11) (by kernel_rfl) (QI.run (s1 := (qs (S66_7 p0 p1 o9) (H66_22 p0) [] [])) 1 (by kernel_rfl) (by kernel_rfl) (QI.op (q := { val := iv o12.1 }) (s1 := (qs (S66_6 p0 p1 o9 o12) (H66_22 p0) [] [])) (by decide) (q_n1a Try.prog (H66_22 p0) 3 0 (0 + (Int.toNat 0) * 2) p0 e54 2 54 (Int.toNat 0) 0 (0, 0) h13) (by kernel_rfl) (QI.run (s1 := (qs (S66_4 p0 p1 o9 o12) (H66_22 p0) [] [])) 2 (by kernel_rfl) (by kernel_rfl) (QI.op (q := { val := .pointer (some ⟨0, 0 + (Int.toNat 0) * 2, none⟩) }) (s1 := (qs (S66_3 p0 p1 o9 o12) (H66_22 p0) [] [])) (by decide) (q_ixS 0 0 ((Int.toNat 0) * 2) (by kernel_rfl) hg11) (by kernel_rfl) ?_))))))))
   exact QI.run (s1 := (qs (S66_2 p0 p1 o9 o12) (H66_22 p0) [] [])) 1 (by kernel_rfl) (by kernel_rfl) (QI.op (q := { val := iv o12.2 }) (s1 := (qs (S66_1 p0 p1 o9 o12) (H66_22 p0) [] [])) (by decide) (q_n1a Try.prog (H66_22 p0) 3 0 (0 + (Int.toNat 0) * 2 + 1) p0 e54 2 54 (Int.toNat 0) 1 (0, 0) h13) (by kernel_rfl) (QI.run (s1 := (qs (S66_0 p0 p1 o9 o12) (H66_21 p0 o9) [] [(14, 1)])) 2 (by kernel_rfl) (by kernel_rfl) (QI.done (by kernel_rfl))))
 · refine QI.run (s1 := (qs (S66_17 p0 p1) (H66_22 p0) [] [])) 2 (by kernel_rfl) (by kernel_rfl) (QI.op (q := { val := .pointer (some ⟨0, 0 + (Int.toNat p1) * 2, none⟩) }) (s1 := (qs (S66_15 p0 p1) (H66_22 p0) [] [])) (by decide) (q_ixS 0 0 ((Int.toNat p1) * 2) (by kernel_rfl) hg8) (by kernel_rfl) (QI.op (q := { val := ag [iv o9.1, iv o9.2] }) (s1 := (qs (S66_13 p0 p1 o9) (H66_22 p0) [] [])) (by decide) (q_nAa Try.prog (H66_22 p0) 54 0 (0 + (Int.toNat p1) * 2) p0 e54 2 54 (Int.toNat p1) (0, 0) h10) (by kernel_rfl) (QI.run (s1 := (qs (S66_11 p0 p1 o9) (H66_22 p0) [] [])) 1 (by kernel_rfl) (by kernel_rfl) (QI.op (q := { val := .pointer (some ⟨0, 0 + (Int.toNat 0) * 2, none⟩) }) (s1 := (qs (S66_9 p0 p1 o9) (H66_22 p0) [] [])) (by decide) (q_ixS 0 0 ((Int.toNat 0) * 2) (by kernel_rfl) hg11) (by kernel_rfl) (QI.run (s1 := (qs (S66_7 p0 p1 o9) (H66_22 p0) [] [])) 1 (by kernel_rfl) (by kernel_rfl) (QI.op (q := { val := iv o12.1 }) (s1 := (qs (S66_6 p0 p1 o9 o12) (H66_22 p0) [] [])) (by decide) (q_n1a Try.prog (H66_23 p0) 3 0 (0 + (Int.toNat 0) * 2) p0 e54 2 54 (Int.toNat 0) 0 (0, 0) h13) (by kernel_rfl) (QI.run (s1 := (qs (S66_4 p0 p1 o9 o12) (H66_22 p0) [] [])) 2 (by kernel_rfl) (by kernel_rfl) (QI.op (q := { val := .pointer (some ⟨0, 0 + (Int.toNat 0) * 2, none⟩) }) (s1 := (qs (S66_3 p0 p1 o9 o12) (H66_22 p0) [] [])) (by decide) (q_ixS 0 0 ((Int.toNat 0) * 2) (by kernel_rfl) hg11) (by kernel_rfl) ?_))))))))
   exact QI.run (s1 := (qs (S66_2 p0 p1 o9 o12) (H66_22 p0) [] [])) 1 (by kernel_rfl) (by kernel_rfl) (QI.op (q := { val := iv o12.2 }) (s1 := (qs (S66_1 p0 p1 o9 o12) (H66_22 p0) [] [])) (by decide) (q_n1a Try.prog (H66_23 p0) 3 0 (0 + (Int.toNat 0) * 2 + 1) p0 e54 2 54 (Int.toNat 0) 1 (0, 0) h13) (by kernel_rfl) (QI.run (s1 := (qs (S66_0 p0 p1 o9 o12) (H66_21 p0 o9) [] [(14, 1)])) 2 (by kernel_rfl) (by kernel_rfl) (QI.done (by kernel_rfl))))
 · exact SI.run (a2 := (S66_0 p0 p1 o9 o12)) (h2 := (H66_18 p0 o9 o12)) 1 (by kernel_rfl) (SI.done (by kernel_rfl))
 refine TS.rt ?_
 have hF := sj hF
 subst hF
 exact ⟨.inr rfl, rfl, .tuple ⟨[ag [iv o9.1, iv o9.2], ag [iv (w64 (o12.1 + 3600)), iv o12.2]]⟩, by kernel_rfl, WkV.flat0 (by kernel_rfl) (nl rfl)⟩
theorem C66 (p0 : List I2) (p1 : Int) (r : I2 × I2) (hF : F66 p0 p1 = some r) : PureSim Try.prog 66 [sv 0 p0.length ANY, iv p1] [ab 54 e54 p0] (V66 1 r) (N66 1 r) :=
 PureSim.of_Fin Try.func66 (c := c66) (by kernel_rfl) (by kernel_rfl) 1 rfl [0, 1] [0] (by kernel_rfl) (B66 p0 p1 r hF)
noncomputable def c93 : Code := Try.f93.code
def S93_0 (v4 v3 : Int) : CAct := (st 20 [(0, iv v4), (1, iv (Int.tmod v3 v4)), (14, .bool (decide (v4 > 0))), (15, iv v4), (16, iv v3), (17, iv v4), (18, iv (Int.tmod v3 v4))])
def S93_1 (v4 v3 : Int) : CAct := (st 20 [(0, iv v4), (1, iv v4), (14, .bool (decide (v4 > 0))), (15, iv v4), (16, iv v3), (17, iv v4), (18, iv (Int.tmod v3 v4))])
def F93l0  (v3 : Int) (v4 : Int) : Option Int :=
 if decide (v4 > 0) then
  if v4 = 0 then none else
  F93l0  v4 (Int.tmod v3 v4)
 else
  some v3
 partial_fixpoint
def F93 (p0 p1 : Int) : Option Int :=
 F93l0  (mx p0 (w64 (0 - p0))) (mx p1 (w64 (0 - p1))) >>= fun r11 =>
 some r11
def V93 (b : Nat) (r : Int) : Value := iv r
def N93 (b : Nat) (r : Int) : List Blk := []
def P93l0  (r : Int) : Post := fun e a h => e = .exit 0 ∧ Wk Try.prog 0 0 a h (st 20 [(0, iv r)]) []
theorem L93l0  (v3 : Int) (v4 : Int) (r : Int) (hF : F93l0  v3 v4 = some r) : TL Try.prog 0 0 c93.s2.s2.s1.bd.bd (st 20 [(0, iv v3), (1, iv v4)]) [] (P93l0  r) := by
 refine F93l0.partial_correctness  (motive := fun v3 v4 r => TL Try.prog 0 0 c93.s2.s2.s1.bd.bd (st 20 [(0, iv v3), (1, iv v4)]) [] (P93l0  r)) ?_ v3 v4 r hF
 clear hF r v3 v4
 intro again ih v3 v4 r hF
 refine TL.round (TS.sq (TS.sq (TS.rg (TI.ra 2 [0, 1, 14] (st 20 [(0, iv v3), (1, iv v4), (14, .bool (decide (v4 > 0)))]) (TI.dn (NX.sq ?_))))))
 refine TS.cd (.tmp 14) (decide (v4 > 0)) (fun hc9 => ?_) (fun hc9 => ?_)
 · replace hF := of_pos hF hc9
   refine TS.sk (NX.sq (TS.bk 1 ?_))
   obtain ⟨hg10, hF⟩ := of_guardn hF
   refine TS.drawE (id := 3) (b := true) (ops := c93.s2.s2.s1.bd.bd.s2.bd.rops) (fin := (qs (S93_1 v4 v3) [] [] [])) (fin2 := (qs (S93_1 v4 v3) [] [] [])) (a1 := (S93_0 v4 v3)) (h1 := []) [] (fun e he => by cases he) mixed (by kernel_rfl) rfl 5 (by kernel_rfl) [] ?_ rfl (.inl ⟨rfl, rfl⟩) ?_ ?_
   · exact QI.run (s1 := (qs (st 20 [(0, iv v3), (1, iv v4), (14, .bool (decide (v4 > 0))), (15, iv v4), (16, iv v3), (17, iv v4)]) [] [] [])) 3 (by kernel_rfl) (by kernel_rfl) (QI.op (q := { val := iv (Int.tmod v3 v4) }) (s1 := (qs (st 20 [(0, iv v3), (1, iv v4), (14, .bool (decide (v4 > 0))), (15, iv v4), (16, iv v3), (17, iv v4), (18, iv (Int.tmod v3 v4))]) [] [] [])) (by decide) (q_int (P := Try.prog) (op := .rem) (ty := 3) (ox := (.tmp 16)) (oy := (.tmp 17)) (k := .i64) (k' := .i64) (y := v3) (z := v4) (by kernel_rfl) (rem_ok hg10)) (by kernel_rfl) (QI.run (s1 := (qs (S93_1 v4 v3) [] [] [])) 1 (by kernel_rfl) (by kernel_rfl) (QI.done (by kernel_rfl))))
   · exact SI.run (a2 := (S93_0 v4 v3)) (h2 := []) 1 (by kernel_rfl) (SI.done (by kernel_rfl))
   refine NX.bk ?_
   exact Rd.again (a2 := (st 20 [(0, iv v4), (1, iv (Int.tmod v3 v4))])) (h2 := []) (Wk.an [] (.nil _) [iv v4, iv (Int.tmod v3 v4)] (.fl (.fl .nil))) (ih v4 (Int.tmod v3 v4) _ hF)
 replace hF := of_neg hF hc9
 refine TS.ex 0 (NX.sqX ?_)
 have hF := sj hF
 subst hF
 exact Rd.out (e := .exit 0) (by intro h; cases h) (And.intro rfl (Wk.an [] (.nil _) [iv v3] (.fl .nil)))
theorem B93 (p0 p1 r : Int) (hF : F93 p0 p1 = some r) : TS Try.prog 0 0 c93 (st 20 [(0, iv p0), (1, iv p1)]) [] (NX Try.prog 0 0 [] (FinP Try.prog Try.f93 0 (V93 0 r) (N93 0 r))) := by
 unfold F93 at hF
 refine TS.sq (TS.rg (TI.ra 1 [0, 1] (st 20 [(0, iv p0), (1, iv p1)]) (TI.dn (NX.sq (TS.sq (TS.rg (TI.ra 10 [0, 1] (st 20 [(0, iv (mx p0 (w64 (0 - p0)))), (1, iv (mx p1 (w64 (0 - p1))))]) (TI.dn ?_))))))))
 refine NX.sq (TS.sq (TS.bk 0 ?_))
 obtain ⟨r11, h12, hF⟩ := of_do hF
 refine TS.lp (TL.weak (a2 := (st 20 [(0, iv (mx p0 (w64 (0 - p0)))), (1, iv (mx p1 (w64 (0 - p1))))])) (h2 := []) (Wk.an [] (.nil _) [iv (mx p0 (w64 (0 - p0))), iv (mx p1 (w64 (0 - p1)))] (.fl (.fl .nil))) (TL.post (L93l0  (mx p0 (w64 (0 - p0))) (mx p1 (w64 (0 - p1))) r11 h12) ?_))
 rintro e a1 h1 hp
 obtain ⟨rfl, hw⟩ := hp
 refine ⟨(st 20 [(0, iv r11)]), [], (NX.bkX (NX.sq (TS.sq (TS.rg (TI.ra 2 [4] (st 20 [(4, iv r11)]) (TI.dn (NX.sq (TS.rt ?_)))))))), hw⟩
 have hF := sj hF
 subst hF
 exact ⟨.inr rfl, rfl, iv r11, by kernel_rfl, WkV.flat0 (by kernel_rfl) (nl rfl)⟩
theorem C93 (p0 p1 r : Int) (hF : F93 p0 p1 = some r) : PureSim Try.prog 93 [iv p0, iv p1] [] (V93 0 r) (N93 0 r) :=
 PureSim.of_Fin Try.func93 (c := c93) (by kernel_rfl) (by kernel_rfl) 0 rfl [0, 1] [] (by kernel_rfl) (B93 p0 p1 r hF)
noncomputable def c67 : Code := Try.f67.code
def F67 (p0 p1 : Int) : Option I2 :=
 (
  if decide (p1 < 0) then
   some (w64 (0 - p0), w64 (0 - p1))
  else
   some (p0, p1)
 : Option I2) >>= fun m6 =>
 F93 m6.1 m6.2 >>= fun r8 =>
 if r8 = 0 then none else
 some (w64 (Int.tdiv m6.1 r8), w64 (Int.tdiv m6.2 r8))
def V67 (b : Nat) (r : I2) : Value := ag [iv r.1, iv r.2]
def N67 (b : Nat) (r : I2) : List Blk := []
theorem B67 (p0 p1 : Int) (r : I2) (hF : F67 p0 p1 = some r) : TS Try.prog 0 0 c67 (st 22 [(0, iv p0), (1, iv p1)]) [] (NX Try.prog 0 0 [] (FinP Try.prog Try.f67 0 (V67 0 r) (N67 0 r))) := by
 unfold F67 at hF
 refine TS.sq (TS.rg (TI.rn 1 [0, 1, 4] [0] (st 22 [(0, iv p0), (1, iv p1), (4, pt 0 0)]) [cl 29 [iv 0, iv 0]] (TI.dn (NX.sq (TS.sq (TS.sq (TS.rg (TI.ra 2 [0, 1, 4, 7] (st 22 [(0, iv p0), (1, iv p1), (4, pt 0 0), (7, .bool (decide (p1 < 0)))]) ?_))))))))
 refine TI.dn (NX.sq ?_)
 obtain ⟨m6, hm7, hF⟩ := of_do hF
 have hK : NX Try.prog 0 0 [.sq c67.s2.s2] (FinP Try.prog Try.f67 0 (V67 0 r) (N67 0 r)) .normal (st 22 [(0, iv m6.1), (1, iv m6.2), (4, pt 0 0)]) [cl 29 [iv 0, iv 0]] := by
  refine NX.sq (TS.sq ?_)
  obtain ⟨r8, h9, hF⟩ := of_do hF
  refine TS.rg (TI.ra 2 [0, 1, 4, 12, 13] (st 22 [(0, iv m6.1), (1, iv m6.2), (4, pt 0 0), (12, iv m6.1), (13, iv m6.2)]) (TI.cf (C93 _ _ _ h9) (TI.ra 1 [0, 1, 4, 5] (st 22 [(0, iv m6.1), (1, iv m6.2), (4, pt 0 0), (5, iv r8)]) (TI.dn (NX.sq (TS.sq ?_))))))
  obtain ⟨hg10, hF⟩ := of_guardn hF
  refine TS.dp [] (fun e he => by cases he) mixed 6 [4] [0] (st 22 [(4, pt 0 0)]) [cl 29 [iv (w64 (Int.tdiv m6.1 r8)), iv (w64 (Int.tdiv m6.2 r8))]] ?_ ?_
  · exact QJ.rn (qs (st 22 [(0, iv m6.1), (1, iv m6.2), (4, pt 0 0), (5, iv r8), (15, iv m6.1), (16, iv r8)]) [cl 29 [iv 0, iv 0]] [] []) 2 (QJ.o { val := iv (w64 (Int.tdiv m6.1 r8)) } (q_int (P := Try.prog) (op := .quo) (ty := 3) (ox := (.tmp 15)) (oy := (.tmp 16)) (k := .i64) (k' := .i64) (y := m6.1) (z := r8) (by kernel_rfl) (quo_ok hg10)) (QJ.rn (qs (st 22 [(0, iv m6.1), (1, iv m6.2), (4, pt 0 0), (5, iv r8), (15, iv m6.1), (16, iv r8), (17, iv (w64 (Int.tdiv m6.1 r8))), (18, iv m6.2), (19, iv r8)]) [cl 29 [iv 0, iv 0]] [] []) 2 (QJ.o { val := iv (w64 (Int.tdiv m6.2 r8)) } (q_int (P := Try.prog) (op := .quo) (ty := 3) (ox := (.tmp 18)) (oy := (.tmp 19)) (k := .i64) (k' := .i64) (y := m6.2) (z := r8) (by kernel_rfl) (quo_ok hg10)) (QJ.dn ⟨rfl, SJ.la⟩))))
  refine TS.rt ?_
  have hF := sj hF
  subst hF
  exact ⟨.inr rfl, rfl, ag [iv (w64 (Int.tdiv m6.1 r8)), iv (w64 (Int.tdiv m6.2 r8))], by kernel_rfl, WkV.flat0 (by kernel_rfl) (nl rfl)⟩
 clear hF
 have hF := hm7
 clear hm7
 refine TS.start ?_
 refine TS.cd (.tmp 7) (decide (p1 < 0)) (fun hc11 => ?_) (fun hc11 => ?_)
 · replace hF := of_pos hF hc11
   refine TS.rg (TI.ra 6 [0, 1, 4] (st 22 [(0, iv (w64 (0 - p0))), (1, iv (w64 (0 - p1))), (4, pt 0 0)]) (TI.dn ?_))
   have hF := sj hF
   subst hF
   exact TS.weak (by exact (Wk.an [0] (.lt (.fl (.fl .nil)) (.nil _)) [iv (w64 (0 - p0)), iv (w64 (0 - p1)), pt 0 0] (.fl (.fl (.pp .nil))))) hK
 replace hF := of_neg hF hc11
 refine TS.sk ?_
 have hF := sj hF
 subst hF
 exact TS.weak (by exact (Wk.an [0] (.lt (.fl (.fl .nil)) (.nil _)) [iv p0, iv p1, pt 0 0] (.fl (.fl (.pp .nil))))) hK
theorem C67 (p0 p1 : Int) (r : I2) (hF : F67 p0 p1 = some r) : PureSim Try.prog 67 [iv p0, iv p1] [] (V67 0 r) (N67 0 r) :=
 PureSim.of_Fin Try.func67 (c := c67) (by kernel_rfl) (by kernel_rfl) 0 rfl [0, 1] [] (by kernel_rfl) (B67 p0 p1 r hF)
noncomputable def c70 : Code := Try.f70.code
def H70_0 (p0 p1 p2 p3 : Int) : List Blk := [cl 29 [iv p0, iv p1], cl 29 [iv p2, iv p3], cl 29 [iv 0, iv 0]]
def F70 (p0 p1 p2 p3 : Int) : Option I2 :=
 F93 p1 p3 >>= fun r1 =>
 if r1 = 0 then none else
 some (w64 ((w64 (p0 * (w64 (Int.tdiv p3 r1)))) + (w64 (p2 * (w64 (Int.tdiv p1 r1)))))) >>= fun o4 =>
 F67 o4 (w64 ((w64 (Int.tdiv p1 r1)) * p3)) >>= fun r6 =>
 some (r6.1, r6.2)
def V70 (b : Nat) (r : I2) : Value := ag [iv r.1, iv r.2]
def N70 (b : Nat) (r : I2) : List Blk := []
theorem B70 (p0 p1 p2 p3 : Int) (r : I2) (hF : F70 p0 p1 p2 p3 = some r) : TS Try.prog 0 0 c70 (st 34 [(0, ag [iv p0, iv p1]), (1, ag [iv p2, iv p3])]) [] (NX Try.prog 0 0 [] (FinP Try.prog Try.f70 0 (V70 0 r) (N70 0 r))) := by
 unfold F70 at hF
 refine TS.sq (TS.rg (TI.rn 3 [2, 3, 4] [0, 1, 2] (st 34 [(2, pt 0 0), (3, pt 1 0), (4, pt 2 0)]) (H70_0 p0 p1 p2 p3) (TI.dn (NX.sq (TS.sq ?_)))))
 obtain ⟨r1, h2, hF⟩ := of_do hF
 refine TS.rg (TI.ra 4 [2, 3, 4, 7, 9] (st 34 [(2, pt 0 0), (3, pt 1 0), (4, pt 2 0), (7, iv p1), (9, iv p3)]) (TI.cf (C93 _ _ _ h2) (TI.ra 1 [2, 3, 4, 5] (st 34 [(2, pt 0 0), (3, pt 1 0), (4, pt 2 0), (5, iv r1)]) (TI.dn (NX.sq (TS.sq ?_))))))
 obtain ⟨hg3, hF⟩ := of_guardn hF
 obtain ⟨o4, h5, hF⟩ := of_do hF
 replace h5 := sj h5
 obtain ⟨r6, h7, hF⟩ := of_do hF
 have hT : ∀ e ∈ ([⟨67, [iv o4, iv (w64 ((w64 (Int.tdiv p1 r1)) * p3))], (H70_0 p0 p1 p2 p3), ag [iv r6.1, iv r6.2], []⟩] : List Entry), PureSim Try.prog e.g e.args e.h e.v e.new := by
  intro e he
  simp only [List.mem_cons, List.not_mem_nil, or_false] at he
  rcases he with rfl
  exact PureSim.ak (C67 _ _ _ h7)
 refine TS.dp [⟨67, [iv o4, iv (w64 ((w64 (Int.tdiv p1 r1)) * p3))], (H70_0 p0 p1 p2 p3), ag [iv r6.1, iv r6.2], []⟩] hT mixed 22 [4] [2] (st 34 [(4, pt 2 0)]) [.dead, .dead, cl 29 [iv r6.1, iv r6.2]] ?_ ?_
 · refine QJ.rn (qs (st 34 [(2, pt 0 0), (3, pt 1 0), (4, pt 2 0), (5, iv r1), (11, pt 0 0), (12, iv p0), (13, pt 1 1), (14, iv p3), (15, iv r1)]) (H70_0 p0 p1 p2 p3) [] []) 5 (QJ.o { val := iv (w64 (Int.tdiv p3 r1)) } (q_int (P := Try.prog) (op := .quo) (ty := 3) (ox := (.tmp 14)) (oy := (.tmp 15)) (k := .i64) (k' := .i64) (y := p3) (z := r1) (by kernel_rfl) (quo_ok hg3)) (QJ.rn (qs (st 34 [(2, pt 0 0), (3, pt 1 0), (4, pt 2 0), (5, iv r1), (11, pt 0 0), (12, iv p0), (13, pt 1 1), (14, iv p3), (15, iv r1), (16, iv (w64 (Int.tdiv p3 r1))), (17, iv (w64 (p0 * (w64 (Int.tdiv p3 r1))))), (18, pt 1 0), (19, iv p2), (20, pt 0 1), (21, iv p1), (22, iv r1)]) (H70_0 p0 p1 p2 p3) [] []) 6 (QJ.o { val := iv (w64 (Int.tdiv p1 r1)) } (q_int (P := Try.prog) (op := .quo) (ty := 3) (ox := (.tmp 21)) (oy := (.tmp 22)) (k := .i64) (k' := .i64) (y := p1) (z := r1) (by kernel_rfl) (quo_ok hg3)) (QJ.rn (qs (st 34 [(2, pt 0 0), (3, pt 1 0), (4, pt 2 0), (5, iv r1), (11, pt 0 0), (12, iv p0), (13, pt 1 1), (14, iv p3), (15, iv r1), (16, iv (w64 (Int.tdiv p3 r1))), (17, iv (w64 (p0 * (w64 (Int.tdiv p3 r1))))), (18, pt 1 0), (19, iv p2), (20, pt 0 1), (21, iv p1), (22, iv r1), (23, iv (w64 (Int.tdiv p1 r1))), (24, iv (w64 (p2 * (w64 (Int.tdiv p1 r1)))))]) (H70_0 p0 p1 p2 p3) [] []) 1 (QJ.o { val := iv o4 } (q_convI (e := w64 ((w64 (p0 * (w64 (Int.tdiv p3 r1)))) + (w64 (p2 * (w64 (Int.tdiv p1 r1)))))) (y := o4) (by kernel_rfl) h5) (QJ.rn (qs (st 34 [(2, pt 0 0), (3, pt 1 0), (4, pt 2 0), (5, iv r1), (11, pt 0 0), (12, iv p0), (13, pt 1 1), (14, iv p3), (15, iv r1), (16, iv (w64 (Int.tdiv p3 r1))), (17, iv (w64 (p0 * (w64 (Int.tdiv p3 r1))))), (18, pt 1 0), (19, iv p2), (20, pt 0 1), (21, iv p1), (22, iv r1), (23, iv (w64 (Int.tdiv p1 r1))), (24, iv (w64 (p2 * (w64 (Int.tdiv p1 r1))))), (25, iv o4), (26, pt 0 1), (27, iv p1), (28, iv r1)]) (H70_0 p0 p1 p2 p3) [] []) 3 (QJ.o { val := iv (w64 (Int.tdiv p1 r1)) } (q_int (P := Try.prog) (op := .quo) (ty := 3) (ox := (.tmp 27)) (oy := (.tmp 28)) (k := .i64) (k' := .i64) (y := p1) (z := r1) (by kernel_rfl) (quo_ok hg3)) (QJ.rn (qs (st 34 [(2, pt 0 0), (3, pt 1 0), (4, pt 2 0), (5, iv r1), (11, pt 0 0), (12, iv p0), (13, pt 1 1), (14, iv p3), (15, iv r1), (16, iv (w64 (Int.tdiv p3 r1))), (17, iv (w64 (p0 * (w64 (Int.tdiv p3 r1))))), (18, pt 1 0), (19, iv p2), (20, pt 0 1), (21, iv p1), (22, iv r1), (23, iv (w64 (Int.tdiv p1 r1))), (24, iv (w64 (p2 * (w64 (Int.tdiv p1 r1))))), (25, iv o4), (26, pt 0 1), (27, iv p1), (28, iv r1), (29, iv (w64 (Int.tdiv p1 r1))), (30, pt 1 1), (31, iv p3), (32, iv (w64 ((w64 (Int.tdiv p1 r1)) * p3)))]) (H70_0 p0 p1 p2 p3) [] []) 3 ?_))))))))
   exact QJ.dn ⟨rfl, (SJ.o { val := ag [iv r6.1, iv r6.2], new := [] } (qOf_call (g := 67) (args := [iv o4, iv (w64 ((w64 (Int.tdiv p1 r1)) * p3))]) (by kernel_rfl) lookC_hit) SJ.la)⟩
 refine TS.rt ?_
 have hF := sj hF
 subst hF
 exact ⟨.inr rfl, rfl, ag [iv r6.1, iv r6.2], by kernel_rfl, WkV.flat0 (by kernel_rfl) (nl rfl)⟩
theorem C70 (p0 p1 p2 p3 : Int) (r : I2) (hF : F70 p0 p1 p2 p3 = some r) : PureSim Try.prog 70 [ag [iv p0, iv p1], ag [iv p2, iv p3]] [] (V70 0 r) (N70 0 r) :=
 PureSim.of_Fin Try.func70 (c := c70) (by kernel_rfl) (by kernel_rfl) 0 rfl [0, 1] [] (by kernel_rfl) (B70 p0 p1 p2 p3 r hF)
noncomputable def c58 : Code := Try.f58.code
def H58_0 (p0 : List I2) (m10 p2 : Int) (r59 : I2 × I2) : List Blk := [ab 54 e54 p0, cl 29 [iv m10, iv p2], cl 29 [iv 0, iv 0], cl 54 [iv r59.1.1, iv r59.1.2], cl 54 [iv r59.2.1, iv r59.2.2]]
def H58_1 (p0 : List I2) (r59 : I2 × I2) (r72 : I2) : List Blk := [ab 54 e54 p0, .dead, cl 29 [iv 0, iv 0], cl 54 [iv r59.1.1, iv r59.1.2], .dead, cl 29 [iv r72.1, iv r72.2]]
def H58_2 (p0 : List I2) (m10 p2 : Int) : List Blk := [ab 54 e54 p0, cl 29 [iv m10, iv p2], cl 29 [iv 0, iv 0]]
def H58_3 (p0 : List I2) (p1 p2 : Int) : List Blk := [ab 54 e54 p0, cl 29 [iv p1, iv p2], cl 29 [iv 0, iv 0]]
def S58_4 (p0 : List I2) : CAct := (st 77 [(0, sv 0 p0.length ANY), (3, pt 1 0), (4, pt 2 0)])
def F58l0 (p0 : List I2) (p2 m10 v33 : Int) : Option (I2 ⊕ Unit) :=
 if decide (v33 < (p0.length : Int)) then
  F66 p0 v33 >>= fun r59 =>
  F59 r59.1.1 >>= fun r61 =>
  F68 m10 p2 r61.1 r61.2 >>= fun r63 =>
  (
   if r63 then
    some (true)
   else
    F59 r59.2.1 >>= fun r65 =>
    F68 m10 p2 r65.1 r65.2 >>= fun r67 =>
    some (!r67)
  : Option Bool) >>= fun m69 =>
  if m69 then
   F58l0 p0 p2 m10 (w64 (v33 + 1))
  else
   some (w64 ((w64 (r59.2.2 - r59.1.2)) * (w64 (m10 - (w64 (r59.1.1 * p2)))))) >>= fun o70 =>
   F67 o70 (w64 ((w64 (r59.2.1 - r59.1.1)) * p2)) >>= fun r72 =>
   F59 r59.1.2 >>= fun r74 =>
   F70 r74.1 r74.2 r72.1 r72.2 >>= fun r76 =>
   some (.inl (r76.1, r76.2))
 else
  some (.inr ())
 partial_fixpoint
def F58 (p0 : List I2) (p1 p2 : Int) : Option I2 :=
 if (0 : Int) ≤ 0 ∧ 0 < (p0.length : Int) then
  some (List.getD p0 (Int.toNat 0) (0, 0)) >>= fun o2 =>
  F59 o2.1 >>= fun r4 =>
  F68 p1 p2 r4.1 r4.2 >>= fun r6 =>
  (
   if r6 then
    some (w64 (p1 + (w64 (3600 * p2))))
   else
    some p1
  : Option Int) >>= fun m10 =>
  F58l0 p0 p2 m10 0 >>= fun r79 =>
  match r79 with
  | .inl o81 =>
   some (o81.1, o81.2)
  | .inr o82 =>
   F59 0 >>= fun r83 =>
   some (r83.1, r83.2)
 else none
def V58 (b : Nat) (r : I2) : Value := ag [iv r.1, iv r.2]
def N58 (b : Nat) (r : I2) : List Blk := []
def P58l0 (p0 : List I2) (p2 m10 : Int) (r : I2 ⊕ Unit) : Post := fun e a h => (match r with | .inl q0 => e = .ret ∧ Wk Try.prog 1 1 a h (st 77 [(4, pt 1 0)]) [ab 54 e54 p0, cl 29 [iv q0.1, iv q0.2]] | .inr q0 => e = .exit 0 ∧ Wk Try.prog 1 1 a h (st 77 [(4, pt 1 0)]) [ab 54 e54 p0, cl 29 [iv 0, iv 0]])
theorem L58l0 (p0 : List I2) (p2 m10 v33 : Int) (r : I2 ⊕ Unit) (hF : F58l0 p0 p2 m10 v33 = some r) : TL Try.prog 1 1 c58.s2.s2.s1.s2.bd.bd (st 77 [(0, sv 0 p0.length ANY), (3, pt 1 0), (4, pt 2 0), (5, iv v33)]) (H58_2 p0 m10 p2) (P58l0 p0 p2 m10 r) := by
 refine F58l0.partial_correctness p0 p2 m10 (motive := fun v33 r => TL Try.prog 1 1 c58.s2.s2.s1.s2.bd.bd (st 77 [(0, sv 0 p0.length ANY), (3, pt 1 0), (4, pt 2 0), (5, iv v33)]) (H58_2 p0 m10 p2) (P58l0 p0 p2 m10 r)) ?_ v33 r hF
 clear hF r v33
 intro again ih v33 r hF
 refine TL.round (TS.sq (TS.sq (TS.rg (TI.ra 4 [0, 3, 4, 5, 26] (st 77 [(0, sv 0 p0.length ANY), (3, pt 1 0), (4, pt 2 0), (5, iv v33), (26, .bool (decide (v33 < (p0.length : Int))))]) (TI.dn (NX.sq ?_))))))
 refine TS.cd (.tmp 26) (decide (v33 < (p0.length : Int))) (fun hc58 => ?_) (fun hc58 => ?_)
 · replace hF := of_pos hF hc58
   refine TS.sk (NX.sq (TS.sq (TS.bk 1 (TS.sq ?_))))
   obtain ⟨r59, h60, hF⟩ := of_do hF
   refine TS.rg (TI.ra 2 [0, 3, 4, 5, 30, 31] (st 77 [(0, sv 0 p0.length ANY), (3, pt 1 0), (4, pt 2 0), (5, iv v33), (30, sv 0 p0.length ANY), (31, iv v33)]) (TI.cp 66 [sv 0 p0.length ANY, iv v33] (.tuple ⟨[ag [iv r59.1.1, iv r59.1.2], ag [iv r59.2.1, iv r59.2.2]]⟩) [] (PureSim.ren (hc := [ab 54 e54 p0]) (fun i => List.getD [(0, 0)] i (0, 0)) (C66 _ _ _ h60) (.ac (.nil _)) (.cons (Rn.any _ _ _ _ _ _ (nl rfl) rfl rfl (by decide)) (.fl .nil)) (.flat (by kernel_rfl)) newflat_nil) (TI.rn 7 [0, 3, 4, 5, 6, 7] [0, 1, 2, 3, 4] (st 77 [(0, sv 0 p0.length ANY), (3, pt 1 0), (4, pt 2 0), (5, iv v33), (6, pt 3 0), (7, pt 4 0)]) (H58_0 p0 m10 p2 r59) (TI.dn (NX.sq (TS.sq (TS.sq ?_)))))))
   obtain ⟨r61, h62, hF⟩ := of_do hF
   obtain ⟨r63, h64, hF⟩ := of_do hF
   obtain ⟨m69, hm78, hF⟩ := of_do hF
   have hK : NX Try.prog 1 1 [.sq c58.s2.s2.s1.s2.bd.bd.s2.s1.bd.s2.s1.s2, .sq c58.s2.s2.s1.s2.bd.bd.s2.s1.bd.s2.s2, .bk 1, .sq c58.s2.s2.s1.s2.bd.bd.s2.s2] (Rd Try.prog 1 1 c58.s2.s2.s1.s2.bd.bd (P58l0 p0 p2 m10 r)) .normal (st 77 [(0, sv 0 p0.length ANY), (3, pt 1 0), (4, pt 2 0), (5, iv v33), (6, pt 3 0), (7, pt 4 0), (47, .bool m69)]) (H58_0 p0 m10 p2 r59) := by
    refine NX.sq ?_
    cases m69 with
    | true =>
     replace hF := of_pos hF rfl
     refine TS.cdT (.tmp 47) (TS.ex 1 (NX.sqX (NX.bkX (NX.sq (TS.rg (TI.rn 3 [0, 3, 4, 5] [0, 1, 2] (st 77 [(0, sv 0 p0.length ANY), (3, pt 1 0), (4, pt 2 0), (5, iv (w64 (v33 + 1)))]) [ab 54 e54 p0, cl 29 [iv m10, iv p2], cl 29 [iv 0, iv 0], .dead, .dead] (TI.dn ?_)))))))
     exact Rd.again (a2 := (st 77 [(0, sv 0 p0.length ANY), (3, pt 1 0), (4, pt 2 0), (5, iv (w64 (v33 + 1)))])) (h2 := (H58_2 p0 m10 p2)) (Wk.an [1, 2] (.ac (.lt (.fl (.fl .nil)) (.lt (.fl (.fl .nil)) (.nil _)))) [sv 0 p0.length ANY, pt 1 0, pt 2 0, iv (w64 (v33 + 1))] (.sl (.pp (.pp (.fl .nil))))) (ih (w64 (v33 + 1)) _ hF)
    | false =>
     replace hF := of_neg hF rfl
     refine TS.cdF (.tmp 47) (TS.sk (NX.sq (TS.sq ?_)))
     obtain ⟨o70, h71, hF⟩ := of_do hF
     replace h71 := sj h71
     obtain ⟨r72, h73, hF⟩ := of_do hF
     refine TS.rg (TI.ra 13 [3, 4, 6, 7, 52, 60] (st 77 [(3, pt 1 0), (4, pt 2 0), (6, pt 3 0), (7, pt 4 0), (52, iv (w64 (r59.2.2 - r59.1.2))), (60, iv (w64 (m10 - (w64 (r59.1.1 * p2)))))]) (TI.o { val := iv o70 } (q_convI (e := w64 ((w64 (r59.2.2 - r59.1.2)) * (w64 (m10 - (w64 (r59.1.1 * p2)))))) (y := o70) (by kernel_rfl) h71) [3, 4, 6, 7, 61] [0, 1, 2, 3, 4] (st 77 [(3, pt 1 0), (4, pt 2 0), (6, pt 3 0), (7, pt 4 0), (61, iv o70)]) (H58_0 p0 m10 p2 r59) (TI.rn 8 [4, 6, 61, 69] [0, 2, 3] (st 77 [(4, pt 2 0), (6, pt 3 0), (61, iv o70), (69, iv (w64 ((w64 (r59.2.1 - r59.1.1)) * p2)))]) [ab 54 e54 p0, .dead, cl 29 [iv 0, iv 0], cl 54 [iv r59.1.1, iv r59.1.2], .dead] (TI.cf (C67 _ _ _ h73) (TI.rn 2 [4, 6, 8] [0, 2, 3, 5] (st 77 [(4, pt 2 0), (6, pt 3 0), (8, pt 5 0)]) (H58_1 p0 r59 r72) (TI.dn (NX.sq (TS.sq ?_))))))))
     obtain ⟨r74, h75, hF⟩ := of_do hF
     obtain ⟨r76, h77, hF⟩ := of_do hF
     have hT : ∀ e ∈ ([⟨59, [iv r59.1.2], (H58_1 p0 r59 r72), ag [iv r74.1, iv r74.2], []⟩, ⟨70, [ag [iv r74.1, iv r74.2], ag [iv r72.1, iv r72.2]], (H58_1 p0 r59 r72), ag [iv r76.1, iv r76.2], []⟩] : List Entry), PureSim Try.prog e.g e.args e.h e.v e.new := by
      intro e he
      simp only [List.mem_cons, List.not_mem_nil, or_false] at he
      rcases he with rfl | rfl
      · exact PureSim.ak (C59 _ _ h75)
      exact PureSim.ak (C70 _ _ _ _ _ h77)
     refine TS.dp [⟨59, [iv r59.1.2], (H58_1 p0 r59 r72), ag [iv r74.1, iv r74.2], []⟩, ⟨70, [ag [iv r74.1, iv r74.2], ag [iv r72.1, iv r72.2]], (H58_1 p0 r59 r72), ag [iv r76.1, iv r76.2], []⟩] hT mixed 4 [4] [0, 2] (st 77 [(4, pt 2 0)]) [ab 54 e54 p0, .dead, cl 29 [iv r76.1, iv r76.2], .dead, .dead, .dead] ?_ ?_
     · exact QJ.rn (qs (st 77 [(4, pt 2 0), (6, pt 3 0), (8, pt 5 0), (71, pt 3 1), (72, iv r59.1.2)]) (H58_1 p0 r59 r72) [] []) 2 (QJ.o { val := ag [iv r74.1, iv r74.2], new := [] } (qOf_call (g := 59) (args := [iv r59.1.2]) (by kernel_rfl) lookC_hit) (QJ.rn (qs (st 77 [(4, pt 2 0), (6, pt 3 0), (8, pt 5 0), (71, pt 3 1), (72, iv r59.1.2), (73, ag [iv r74.1, iv r74.2]), (74, ag [iv r72.1, iv r72.2])]) (H58_1 p0 r59 r72) [] []) 1 (QJ.dn ⟨rfl, (SJ.o { val := ag [iv r76.1, iv r76.2], new := [] } (qOf_call (g := 70) (args := [ag [iv r74.1, iv r74.2], ag [iv r72.1, iv r72.2]]) (by kernel_rfl) (lookC_skip (fun hg => absurd (show (59 : Nat) = 70 from hg) (by decide)) lookC_hit)) SJ.la)⟩)))
     refine TS.rt (NX.bkR (NX.sqR ?_))
     have hF := sj hF
     subst hF
     exact Rd.out (e := .ret) (by intro h; cases h) (And.intro rfl (Wk.an [2] (.ac (.lt (.fl (.fl .nil)) (.nil _))) [pt 2 0] (.pp .nil)))
   cases r63 with
   | true =>
    replace hm78 := of_pos hm78 rfl
    have hm78 := sj hm78
    subst hm78
    have hT : ∀ e ∈ ([⟨59, [iv r59.1.1], (H58_0 p0 m10 p2 r59), ag [iv r61.1, iv r61.2], []⟩, ⟨68, [ag [iv m10, iv p2], ag [iv r61.1, iv r61.2]], (H58_0 p0 m10 p2 r59), .bool true, []⟩] : List Entry), PureSim Try.prog e.g e.args e.h e.v e.new := by
     intro e he
     simp only [List.mem_cons, List.not_mem_nil, or_false] at he
     rcases he with rfl | rfl
     · exact PureSim.ak (C59 _ _ h62)
     exact PureSim.ak (C68 _ _ _ _ _ h64)
    refine TS.dp [⟨59, [iv r59.1.1], (H58_0 p0 m10 p2 r59), ag [iv r61.1, iv r61.2], []⟩, ⟨68, [ag [iv m10, iv p2], ag [iv r61.1, iv r61.2]], (H58_0 p0 m10 p2 r59), .bool true, []⟩] hT mixed 10 [0, 3, 4, 5, 6, 7, 47] [0, 1, 2, 3, 4] (st 77 [(0, sv 0 p0.length ANY), (3, pt 1 0), (4, pt 2 0), (5, iv v33), (6, pt 3 0), (7, pt 4 0), (47, .bool true)]) (H58_0 p0 m10 p2 r59) ?_ ?_
    · exact QJ.rn (qs (st 77 [(0, sv 0 p0.length ANY), (3, pt 1 0), (4, pt 2 0), (5, iv v33), (6, pt 3 0), (7, pt 4 0), (35, ag [iv m10, iv p2]), (36, pt 3 0), (37, iv r59.1.1)]) (H58_0 p0 m10 p2 r59) [] []) 3 (QJ.o { val := ag [iv r61.1, iv r61.2], new := [] } (qOf_call (g := 59) (args := [iv r59.1.1]) (by kernel_rfl) lookC_hit) (QJ.o { val := .bool true, new := [] } (qOf_call (g := 68) (args := [ag [iv m10, iv p2], ag [iv r61.1, iv r61.2]]) (by kernel_rfl) (lookC_skip (fun hg => absurd (show (59 : Nat) = 68 from hg) (by decide)) lookC_hit)) (QJ.rn (qs (st 77 [(0, sv 0 p0.length ANY), (3, pt 1 0), (4, pt 2 0), (5, iv v33), (6, pt 3 0), (7, pt 4 0), (35, ag [iv m10, iv p2]), (36, pt 3 0), (37, iv r59.1.1), (38, ag [iv r61.1, iv r61.2]), (39, .bool true), (40, .bool true), (41, undef), (42, undef), (43, undef), (44, undef)]) (H58_0 p0 m10 p2 r59) [] []) 5 (QJ.dn ⟨rfl, SJ.la⟩))))
    exact hK
   | false =>
    replace hm78 := of_neg hm78 rfl
    have hX := of_do hm78
    clear hm78
    obtain ⟨r65, h66, hm78⟩ := hX
    have hX := of_do hm78
    clear hm78
    obtain ⟨r67, h68, hm78⟩ := hX
    have hm78 := sj hm78
    subst hm78
    have hT : ∀ e ∈ ([⟨59, [iv r59.1.1], (H58_0 p0 m10 p2 r59), ag [iv r61.1, iv r61.2], []⟩, ⟨68, [ag [iv m10, iv p2], ag [iv r61.1, iv r61.2]], (H58_0 p0 m10 p2 r59), .bool false, []⟩, ⟨59, [iv r59.2.1], (H58_0 p0 m10 p2 r59), ag [iv r65.1, iv r65.2], []⟩, ⟨68, [ag [iv m10, iv p2], ag [iv r65.1, iv r65.2]], (H58_0 p0 m10 p2 r59), .bool r67, []⟩] : List Entry), PureSim Try.prog e.g e.args e.h e.v e.new := by
     intro e he
     simp only [List.mem_cons, List.not_mem_nil, or_false] at he
     rcases he with rfl | rfl | rfl | rfl
     · exact PureSim.ak (C59 _ _ h62)
     · exact PureSim.ak (C68 _ _ _ _ _ h64)
     · exact PureSim.ak (C59 _ _ h66)
     exact PureSim.ak (C68 _ _ _ _ _ h68)
    refine TS.dp [⟨59, [iv r59.1.1], (H58_0 p0 m10 p2 r59), ag [iv r61.1, iv r61.2], []⟩, ⟨68, [ag [iv m10, iv p2], ag [iv r61.1, iv r61.2]], (H58_0 p0 m10 p2 r59), .bool false, []⟩, ⟨59, [iv r59.2.1], (H58_0 p0 m10 p2 r59), ag [iv r65.1, iv r65.2], []⟩, ⟨68, [ag [iv m10, iv p2], ag [iv r65.1, iv r65.2]], (H58_0 p0 m10 p2 r59), .bool r67, []⟩] hT mixed 10 [0, 3, 4, 5, 6, 7, 47] [0, 1, 2, 3, 4] (st 77 [(0, sv 0 p0.length ANY), (3, pt 1 0), (4, pt 2 0), (5, iv v33), (6, pt 3 0), (7, pt 4 0), (47, .bool (!r67))]) (H58_0 p0 m10 p2 r59) ?_ ?_
    · refine QJ.rn (qs (st 77 [(0, sv 0 p0.length ANY), (3, pt 1 0), (4, pt 2 0), (5, iv v33), (6, pt 3 0), (7, pt 4 0), (35, ag [iv m10, iv p2]), (36, pt 3 0), (37, iv r59.1.1)]) (H58_0 p0 m10 p2 r59) [] []) 3 (QJ.o { val := ag [iv r61.1, iv r61.2], new := [] } (qOf_call (g := 59) (args := [iv r59.1.1]) (by kernel_rfl) lookC_hit) (QJ.o { val := .bool false, new := [] } (qOf_call (g := 68) (args := [ag [iv m10, iv p2], ag [iv r61.1, iv r61.2]]) (by kernel_rfl) (lookC_skip (fun hg => absurd (show (59 : Nat) = 68 from hg) (by decide)) lookC_hit)) (QJ.rn (qs (st 77 [(0, sv 0 p0.length ANY), (3, pt 1 0), (4, pt 2 0), (5, iv v33), (6, pt 3 0), (7, pt 4 0), (35, ag [iv m10, iv p2]), (36, pt 3 0), (37, iv r59.1.1), (38, ag [iv r61.1, iv r61.2]), (39, .bool false), (40, .bool false), (41, ag [iv m10, iv p2]), (42, pt 4 0), (43, iv r59.2.1)]) (H58_0 p0 m10 p2 r59) [] []) 4 ?_)))
      refine QJ.o { val := ag [iv r65.1, iv r65.2], new := [] } (qOf_call (g := 59) (args := [iv r59.2.1]) (by kernel_rfl) (lookC_skip (by intro _ ha hh; first | (exact absurd (congrArg List.length hh) (Nat.ne_of_beq_eq_false rfl)) | (have hr := sj (h62.symm.trans (Eq.trans (congrArg F59 (show r59.1.1 = r59.2.1 from congrArg (leafI 0) ha)) h66)); first | (subst hr; rfl) | (cases hr; done) | (cases hr; rfl))) (lookC_skip (fun hg => absurd (show (68 : Nat) = 59 from hg) (by decide)) lookC_hit))) (QJ.dn ⟨rfl, ?_⟩)
      exact SJ.o { val := .bool r67, new := [] } (qOf_call (g := 68) (args := [ag [iv m10, iv p2], ag [iv r65.1, iv r65.2]]) (by kernel_rfl) (lookC_skip (fun hg => absurd (show (59 : Nat) = 68 from hg) (by decide)) (lookC_skip (by intro _ ha hh; first | (exact absurd (congrArg List.length hh) (Nat.ne_of_beq_eq_false rfl)) | (have hr := sj (h64.symm.trans (Eq.trans (congr (congr (congr (congrArg F68 (Eq.refl m10)) (Eq.refl p2)) (show r61.1 = r65.1 from congrArg (leafI 2) ha)) (show r61.2 = r65.2 from congrArg (leafI 3) ha)) h68)); first | (subst hr; rfl) | (cases hr; done) | (cases hr; rfl))) (lookC_skip (fun hg => absurd (show (59 : Nat) = 68 from hg) (by decide)) lookC_hit)))) SJ.la
    exact hK
 replace hF := of_neg hF hc58
 refine TS.ex 0 (NX.sqX ?_)
 have hF := sj hF
 subst hF
 exact Rd.out (e := .exit 0) (by intro h; cases h) (And.intro rfl (Wk.an [2] (.ac (.lt (.fl (.fl .nil)) (.nil _))) [pt 2 0] (.pp .nil)))
theorem B58 (p0 : List I2) (p1 p2 : Int) (r : I2) (hF : F58 p0 p1 p2 = some r) : TS Try.prog 1 1 c58 (st 77 [(0, sv 0 p0.length ANY), (1, ag [iv p1, iv p2])]) [ab 54 e54 p0] (NX Try.prog 1 1 [] (FinP Try.prog Try.f58 1 (V58 1 r) (N58 1 r))) := by
 unfold F58 at hF
 refine TS.sq (TS.rg (TI.rn 2 [0, 3, 4] [0, 1, 2] (S58_4 p0) (H58_3 p0 p1 p2) (TI.dn (NX.sq (TS.sq (TS.sq ?_))))))
 obtain ⟨hg1, hF⟩ := of_guard hF
 obtain ⟨o2, h3, hF⟩ := of_do hF
 replace h3 := sj h3
 obtain ⟨r4, h5, hF⟩ := of_do hF
 obtain ⟨r6, h7, hF⟩ := of_do hF
 have hT : ∀ e ∈ ([⟨59, [iv o2.1], (H58_3 p0 p1 p2), ag [iv r4.1, iv r4.2], []⟩, ⟨68, [ag [iv p1, iv p2], ag [iv r4.1, iv r4.2]], (H58_3 p0 p1 p2), .bool r6, []⟩] : List Entry), PureSim Try.prog e.g e.args e.h e.v e.new := by
  intro e he
  simp only [List.mem_cons, List.not_mem_nil, or_false] at he
  rcases he with rfl | rfl
  · exact PureSim.ak (C59 _ _ h5)
  exact PureSim.ak (C68 _ _ _ _ _ h7)
 refine TS.dp [⟨59, [iv o2.1], (H58_3 p0 p1 p2), ag [iv r4.1, iv r4.2], []⟩, ⟨68, [ag [iv p1, iv p2], ag [iv r4.1, iv r4.2]], (H58_3 p0 p1 p2), .bool r6, []⟩] hT mixed 6 [0, 3, 4, 15] [0, 1, 2] (st 77 [(0, sv 0 p0.length ANY), (3, pt 1 0), (4, pt 2 0), (15, .bool r6)]) (H58_3 p0 p1 p2) ?_ ?_
 · exact QJ.rn (qs (st 77 [(0, sv 0 p0.length ANY), (3, pt 1 0), (4, pt 2 0), (9, ag [iv p1, iv p2]), (10, sv 0 p0.length ANY)]) (H58_3 p0 p1 p2) [] []) 2 (QJ.o { val := .pointer (some ⟨0, 0 + (Int.toNat 0) * 2, none⟩) } (q_ixS 0 0 ((Int.toNat 0) * 2) (by kernel_rfl) hg1) (QJ.rn (qs (st 77 [(0, sv 0 p0.length ANY), (3, pt 1 0), (4, pt 2 0), (9, ag [iv p1, iv p2]), (10, sv 0 p0.length ANY), (11, .pointer (some ⟨0, 0 + (Int.toNat 0) * 2, none⟩)), (12, .pointer (some ⟨0, 0 + (Int.toNat 0) * 2, none⟩))]) (H58_3 p0 p1 p2) [] []) 1 (QJ.o { val := iv o2.1 } (q_n1a Try.prog (H58_3 p0 p1 p2) 3 0 (0 + (Int.toNat 0) * 2) p0 e54 2 54 (Int.toNat 0) 0 (0, 0) h3) (QJ.o { val := ag [iv r4.1, iv r4.2], new := [] } (qOf_call (g := 59) (args := [iv o2.1]) (by kernel_rfl) lookC_hit) (QJ.dn ⟨rfl, (SJ.o { val := .bool r6, new := [] } (qOf_call (g := 68) (args := [ag [iv p1, iv p2], ag [iv r4.1, iv r4.2]]) (by kernel_rfl) (lookC_skip (fun hg => absurd (show (59 : Nat) = 68 from hg) (by decide)) lookC_hit)) SJ.dn)⟩)))))
 obtain ⟨m10, hm11, hF⟩ := of_do hF
 have hK : NX Try.prog 1 1 [.sq c58.s2.s2] (FinP Try.prog Try.f58 1 (V58 1 r) (N58 1 r)) .normal (S58_4 p0) (H58_2 p0 m10 p2) := by
  refine NX.sq (TS.sq (TS.sq (TS.rg (TI.ra 1 [0, 3, 4, 5] (st 77 [(0, sv 0 p0.length ANY), (3, pt 1 0), (4, pt 2 0), (5, iv 0)]) (TI.dn (NX.sq (TS.bk 0 ?_)))))))
  obtain ⟨r79, h80, hF⟩ := of_do hF
  refine TS.lp (TL.weak (a2 := (st 77 [(0, sv 0 p0.length ANY), (3, pt 1 0), (4, pt 2 0), (5, iv 0)])) (h2 := (H58_2 p0 m10 p2)) (Wk.an [1, 2] (.ac (.lt (.fl (.fl .nil)) (.lt (.fl (.fl .nil)) (.nil _)))) [sv 0 p0.length ANY, pt 1 0, pt 2 0, iv 0] (.sl (.pp (.pp (.fl .nil))))) (TL.post (L58l0 p0 p2 m10 0 r79 h80) ?_))
  rintro e a1 h1 hp
  rcases r79 with o81 | o82
  · skip
    obtain ⟨rfl, hw⟩ := hp
    refine ⟨(st 77 [(4, pt 1 0)]), [ab 54 e54 p0, cl 29 [iv o81.1, iv o81.2]], (NX.bkR (NX.sqR ?_)), hw⟩
    have hF := sj hF
    subst hF
    exact ⟨.inr rfl, rfl, ag [iv o81.1, iv o81.2], by kernel_rfl, WkV.flat0 (by kernel_rfl) (nl rfl)⟩
  skip
  obtain ⟨rfl, hw⟩ := hp
  refine ⟨(st 77 [(4, pt 1 0)]), [ab 54 e54 p0, cl 29 [iv 0, iv 0]], (NX.bkX (NX.sq (TS.sq ?_))), hw⟩
  obtain ⟨r83, h84, hF⟩ := of_do hF
  refine TS.rg (TI.cf (C59 _ _ h84) (TI.rn 1 [4] [0, 1] (st 77 [(4, pt 1 0)]) [ab 54 e54 p0, cl 29 [iv r83.1, iv r83.2]] (TI.dn (NX.sq (TS.rt ?_)))))
  have hF := sj hF
  subst hF
  exact ⟨.inr rfl, rfl, ag [iv r83.1, iv r83.2], by kernel_rfl, WkV.flat0 (by kernel_rfl) (nl rfl)⟩
 clear hF
 have hF := hm11
 clear hm11
 refine TS.start ?_
 cases r6 with
 | true =>
  replace hF := of_pos hF rfl
  refine TS.cdT (.tmp 15) (TS.rg (TI.rn 8 [0, 3, 4] [0, 1, 2] (S58_4 p0) [ab 54 e54 p0, cl 29 [iv (w64 (p1 + (w64 (3600 * p2)))), iv p2], cl 29 [iv 0, iv 0]] (TI.dn ?_)))
  have hF := sj hF
  subst hF
  exact TS.weak (by exact (Wk.an [1, 2] (.ac (.lt (.fl (.fl .nil)) (.lt (.fl (.fl .nil)) (.nil _)))) [sv 0 p0.length ANY, pt 1 0, pt 2 0] (.sl (.pp (.pp .nil))))) hK
 | false =>
  replace hF := of_neg hF rfl
  refine TS.cdF (.tmp 15) (TS.sk ?_)
  have hF := sj hF
  subst hF
  exact TS.weak (by exact (Wk.an [1, 2] (.ac (.lt (.fl (.fl .nil)) (.lt (.fl (.fl .nil)) (.nil _)))) [sv 0 p0.length ANY, pt 1 0, pt 2 0] (.sl (.pp (.pp .nil))))) hK
theorem C58 (p0 : List I2) (p1 p2 : Int) (r : I2) (hF : F58 p0 p1 p2 = some r) : PureSim Try.prog 58 [sv 0 p0.length ANY, ag [iv p1, iv p2]] [ab 54 e54 p0] (V58 1 r) (N58 1 r) :=
 PureSim.of_Fin Try.func58 (c := c58) (by kernel_rfl) (by kernel_rfl) 1 rfl [0, 1] [0] (by kernel_rfl) (B58 p0 p1 p2 r hF)
noncomputable def c18 : Code := Try.f18.code
def H18_0 (p0 : List I2) : List Blk := [ab 54 e54 p0, cl 29 [iv 0, iv 0]]
def F18 (p0 : List I2) (p1 : Int) : Option (I2 × Int) :=
 F23 p0 >>= fun r1 =>
 (
  if r1 == 0 then
   F57 p1 >>= fun r4 =>
   some (!r4)
  else
   some (false)
 : Option Bool) >>= fun m6 =>
 (
  if m6 then
   some 1
  else
   some r1
 : Option Int) >>= fun m9 =>
 if m9 != 0 then
  some ((0, 0), m9)
 else
  F59 p1 >>= fun r12 =>
  F58 p0 r12.1 r12.2 >>= fun r14 =>
  some ((r14.1, r14.2), 0)
def V18 (b : Nat) (r : I2 × Int) : Value := .tuple ⟨[ag [iv r.1.1, iv r.1.2], iv r.2]⟩
def N18 (b : Nat) (r : I2 × Int) : List Blk := []
theorem B18 (p0 : List I2) (p1 : Int) (r : I2 × Int) (hF : F18 p0 p1 = some r) : TS Try.prog 1 1 c18 (st 24 [(0, sv 0 p0.length ANY), (1, iv p1)]) [ab 54 e54 p0] (NX Try.prog 1 1 [] (FinP Try.prog Try.f18 1 (V18 1 r) (N18 1 r))) := by
 unfold F18 at hF
 refine TS.sq (TS.rg (TI.rn 2 [0, 1, 4] [0, 1] (st 24 [(0, sv 0 p0.length ANY), (1, iv p1), (4, pt 1 0)]) (H18_0 p0) (TI.dn (NX.sq (TS.sq ?_)))))
 obtain ⟨r1, h2, hF⟩ := of_do hF
 refine TS.rg (TI.ra 1 [0, 1, 4, 7] (st 24 [(0, sv 0 p0.length ANY), (1, iv p1), (4, pt 1 0), (7, sv 0 p0.length ANY)]) (TI.cp 23 [sv 0 p0.length ANY] (iv r1) [] (PureSim.ren (hc := [ab 54 e54 p0]) (fun i => List.getD [(0, 0)] i (0, 0)) (C23 _ _ h2) (.ac (.nil _)) (.cons (Rn.any _ _ _ _ _ _ (nl rfl) rfl rfl (by decide)) .nil) (.flat (by kernel_rfl)) newflat_nil) (TI.ra 1 [0, 1, 4, 6] (st 24 [(0, sv 0 p0.length ANY), (1, iv p1), (4, pt 1 0), (6, iv r1)]) (TI.dn (NX.sq (TS.sq (TS.sq ?_)))))))
 obtain ⟨m6, hm16, hF⟩ := of_do hF
 have hK : NX Try.prog 1 1 [.sq c18.s2.s2.s1.s2, .sq c18.s2.s2.s2] (FinP Try.prog Try.f18 1 (V18 1 r) (N18 1 r)) .normal (st 24 [(0, sv 0 p0.length ANY), (1, iv p1), (4, pt 1 0), (6, iv r1), (15, .bool m6)]) (H18_0 p0) := by
  refine NX.sq ?_
  obtain ⟨m9, hm10, hF⟩ := of_do hF
  have hK : NX Try.prog 1 1 [.sq c18.s2.s2.s2] (FinP Try.prog Try.f18 1 (V18 1 r) (N18 1 r)) .normal (st 24 [(0, sv 0 p0.length ANY), (1, iv p1), (4, pt 1 0), (6, iv m9)]) (H18_0 p0) := by
   refine NX.sq (TS.sq (TS.sq (TS.rg (TI.ra 2 [0, 1, 4, 6, 17] (st 24 [(0, sv 0 p0.length ANY), (1, iv p1), (4, pt 1 0), (6, iv m9), (17, .bool (m9 != 0))]) (TI.dn (NX.sq ?_))))))
   refine TS.cd (.tmp 17) (m9 != 0) (fun hc11 => ?_) (fun hc11 => ?_)
   · replace hF := of_pos hF hc11
     refine TS.sq (TS.rg (TI.ra 4 [4, 5] (st 24 [(4, pt 1 0), (5, iv m9)]) (TI.dn (NX.sq (TS.rt (NX.sqR ?_))))))
     have hF := sj hF
     subst hF
     exact ⟨.inr rfl, rfl, .tuple ⟨[ag [iv 0, iv 0], iv m9]⟩, by kernel_rfl, WkV.flat0 (by kernel_rfl) (nl rfl)⟩
   replace hF := of_neg hF hc11
   refine TS.sk (NX.sq (TS.sq ?_))
   obtain ⟨r12, h13, hF⟩ := of_do hF
   obtain ⟨r14, h15, hF⟩ := of_do hF
   refine TS.rg (TI.ra 2 [4, 20, 21] (st 24 [(4, pt 1 0), (20, sv 0 p0.length ANY), (21, iv p1)]) (TI.cm (PureSim.ak (C59 _ _ h13)) [4, 20, 22] [0, 1] (st 24 [(4, pt 1 0), (20, sv 0 p0.length ANY), (22, ag [iv r12.1, iv r12.2])]) (H18_0 p0) (TI.cp 58 [sv 0 p0.length ANY, ag [iv r12.1, iv r12.2]] (ag [iv r14.1, iv r14.2]) [] (PureSim.ren (hc := [ab 54 e54 p0]) (fun i => List.getD [(0, 0)] i (0, 0)) (C58 _ _ _ _ h15) (.ac (.nil _)) (.cons (Rn.any _ _ _ _ _ _ (nl rfl) rfl rfl (by decide)) (.fl .nil)) (.flat (by kernel_rfl)) newflat_nil) (TI.rn 2 [4, 5] [0, 1] (st 24 [(4, pt 1 0), (5, iv 0)]) [ab 54 e54 p0, cl 29 [iv r14.1, iv r14.2]] (TI.dn (NX.sq (TS.rt ?_)))))))
   have hF := sj hF
   subst hF
   exact ⟨.inr rfl, rfl, .tuple ⟨[ag [iv r14.1, iv r14.2], iv 0]⟩, by kernel_rfl, WkV.flat0 (by kernel_rfl) (nl rfl)⟩
  clear hF
  have hF := hm10
  clear hm10
  refine TS.start ?_
  cases m6 with
  | true =>
   replace hF := of_pos hF rfl
   refine TS.cdT (.tmp 15) (TS.rg (TI.ra 1 [0, 1, 4, 6] (st 24 [(0, sv 0 p0.length ANY), (1, iv p1), (4, pt 1 0), (6, iv 1)]) (TI.dn ?_)))
   have hF := sj hF
   subst hF
   exact TS.weak (by exact (Wk.an [1] (.ac (.lt (.fl (.fl .nil)) (.nil _))) [sv 0 p0.length ANY, iv p1, pt 1 0, iv 1] (.sl (.fl (.pp (.fl .nil)))))) hK
  | false =>
   replace hF := of_neg hF rfl
   refine TS.cdF (.tmp 15) (TS.sk ?_)
   have hF := sj hF
   subst hF
   exact TS.weak (by exact (Wk.an [1] (.ac (.lt (.fl (.fl .nil)) (.nil _))) [sv 0 p0.length ANY, iv p1, pt 1 0, iv r1] (.sl (.fl (.pp (.fl .nil)))))) hK
 rcases Bool.eq_false_or_eq_true (r1 == 0) with hc3 | hc3
 · replace hm16 := of_pos hm16 hc3
   have hX := of_do hm16
   clear hm16
   obtain ⟨r4, h5, hm16⟩ := hX
   have hm16 := sj hm16
   subst hm16
   exact TS.rg (TI.ra 1 [0, 1, 4, 6, 9] (st 24 [(0, sv 0 p0.length ANY), (1, iv p1), (4, pt 1 0), (6, iv r1), (9, iv r1)]) (TI.o { val := .bool true } (q_conv (e := r1 == 0) (b := true) (by kernel_rfl) hc3) [0, 1, 4, 6, 10] [0, 1] (st 24 [(0, sv 0 p0.length ANY), (1, iv p1), (4, pt 1 0), (6, iv r1), (10, .bool true)]) (H18_0 p0) (TI.ra 2 [0, 1, 4, 6, 11, 12] (st 24 [(0, sv 0 p0.length ANY), (1, iv p1), (4, pt 1 0), (6, iv r1), (11, .bool true), (12, iv p1)]) (TI.cf (C57 _ _ h5) (TI.ra 2 [0, 1, 4, 6, 15] (st 24 [(0, sv 0 p0.length ANY), (1, iv p1), (4, pt 1 0), (6, iv r1), (15, .bool (!r4))]) (TI.dn hK))))))
 replace hm16 := of_neg hm16 hc3
 have hm16 := sj hm16
 subst hm16
 exact TS.rg (TI.ra 1 [0, 1, 4, 6, 9] (st 24 [(0, sv 0 p0.length ANY), (1, iv p1), (4, pt 1 0), (6, iv r1), (9, iv r1)]) (TI.o { val := .bool false } (q_conv (e := r1 == 0) (b := false) (by kernel_rfl) hc3) [0, 1, 4, 6, 10] [0, 1] (st 24 [(0, sv 0 p0.length ANY), (1, iv p1), (4, pt 1 0), (6, iv r1), (10, .bool false)]) (H18_0 p0) (TI.ra 5 [0, 1, 4, 6, 15] (st 24 [(0, sv 0 p0.length ANY), (1, iv p1), (4, pt 1 0), (6, iv r1), (15, .bool false)]) (TI.dn hK))))
theorem C18 (p0 : List I2) (p1 : Int) (r : I2 × Int) (hF : F18 p0 p1 = some r) : PureSim Try.prog 18 [sv 0 p0.length ANY, iv p1] [ab 54 e54 p0] (V18 1 r) (N18 1 r) :=
 PureSim.of_Fin Try.func18 (c := c18) (by kernel_rfl) (by kernel_rfl) 1 rfl [0, 1] [0] (by kernel_rfl) (B18 p0 p1 r hF)
noncomputable def c61 : Code := Try.f61.code
def F61 (p0 : List I2) (p1 : Int) : Option Int :=
 F66 p0 p1 >>= fun r1 =>
 some (w64 ((w64 ((w64 (r1.2.1 - r1.1.1)) + r1.2.2)) - r1.1.2))
def V61 (b : Nat) (r : Int) : Value := iv r
def N61 (b : Nat) (r : Int) : List Blk := []
theorem B61 (p0 : List I2) (p1 r : Int) (hF : F61 p0 p1 = some r) : TS Try.prog 1 1 c61 (st 24 [(0, sv 0 p0.length ANY), (1, iv p1)]) [ab 54 e54 p0] (NX Try.prog 1 1 [] (FinP Try.prog Try.f61 1 (V61 1 r) (N61 1 r))) := by
 unfold F61 at hF
 refine TS.sq (TS.rg (TI.ra 1 [0, 1] (st 24 [(0, sv 0 p0.length ANY), (1, iv p1)]) (TI.dn (NX.sq (TS.sq ?_)))))
 obtain ⟨r1, h2, hF⟩ := of_do hF
 refine TS.rg (TI.ra 2 [8, 9] (st 24 [(8, sv 0 p0.length ANY), (9, iv p1)]) (TI.cp 66 [sv 0 p0.length ANY, iv p1] (.tuple ⟨[ag [iv r1.1.1, iv r1.1.2], ag [iv r1.2.1, iv r1.2.2]]⟩) [] (PureSim.ren (hc := [ab 54 e54 p0]) (fun i => List.getD [(0, 0)] i (0, 0)) (C66 _ _ _ h2) (.ac (.nil _)) (.cons (Rn.any _ _ _ _ _ _ (nl rfl) rfl rfl (by decide)) (.fl .nil)) (.flat (by kernel_rfl)) newflat_nil) (TI.rn 7 [5, 6] [0, 1, 2] (st 24 [(5, pt 1 0), (6, pt 2 0)]) [ab 54 e54 p0, cl 54 [iv r1.1.1, iv r1.1.2], cl 54 [iv r1.2.1, iv r1.2.2]] (TI.dn (NX.sq (TS.sq (TS.rg (TI.rn 12 [4] [0] (st 24 [(4, iv (w64 ((w64 ((w64 (r1.2.1 - r1.1.1)) + r1.2.2)) - r1.1.2)))]) [ab 54 e54 p0, .dead, .dead] ?_))))))))
 refine TI.dn (NX.sq (TS.rt ?_))
 have hF := sj hF
 subst hF
 exact ⟨.inr rfl, rfl, iv (w64 ((w64 ((w64 (r1.2.1 - r1.1.1)) + r1.2.2)) - r1.1.2)), by kernel_rfl, WkV.flat0 (by kernel_rfl) (nl rfl)⟩
theorem C61 (p0 : List I2) (p1 r : Int) (hF : F61 p0 p1 = some r) : PureSim Try.prog 61 [sv 0 p0.length ANY, iv p1] [ab 54 e54 p0] (V61 1 r) (N61 1 r) :=
 PureSim.of_Fin Try.func61 (c := c61) (by kernel_rfl) (by kernel_rfl) 1 rfl [0, 1] [0] (by kernel_rfl) (B61 p0 p1 r hF)
noncomputable def c20 : Code := Try.f20.code
def F20l0 (p0 : List I2) (v9 : List Int) (v8 : Int) : Option (List Int) :=
 if decide (v8 < (p0.length : Int)) then
  F61 p0 v8 >>= fun r18 =>
  (
   if decide (r18 ≤ 0) then
    if List.length v9 ≤ 1000000000 then
     some (v9 ++ [v8])
    else none
   else
    some v9
  : Option (List Int)) >>= fun m23 =>
  F20l0 p0 m23 (w64 (v8 + 1))
 else
  some v9
 partial_fixpoint
def F20 (p0 : List I2) : Option ((List Int) × Int) :=
 F23 p0 >>= fun r1 =>
 if r1 != 0 then
  some ([], r1)
 else
  F20l0 p0 ([]) 0 >>= fun r27 =>
  some (r27, 0)
def V20 (b : Nat) (r : (List Int) × Int) : Value := .tuple ⟨[accV (b + 0) r.1.length, iv r.2]⟩
def N20 (b : Nat) (r : (List Int) × Int) : List Blk := [ab 3 e3 r.1]
def P20l0 (p0 : List I2) (r : List Int) : Post := fun e a h => e = .exit 0 ∧ Wk Try.prog 1 1 a h (st 27 [(5, accV 1 r.length)]) [ab 54 e54 p0, ab 3 e3 r]
theorem L20l0 (p0 : List I2) (v9 : List Int) (v8 : Int) (r : List Int) (hF : F20l0 p0 v9 v8 = some r) : TL Try.prog 1 1 c20.s2.s2.s2.s2.s1.s2.bd.bd (st 27 [(0, sv 0 p0.length ANY), (5, accV 1 v9.length), (6, iv v8)]) [ab 54 e54 p0, ab 3 e3 v9] (P20l0 p0 r) := by
 refine F20l0.partial_correctness p0 (motive := fun v9 v8 r => TL Try.prog 1 1 c20.s2.s2.s2.s2.s1.s2.bd.bd (st 27 [(0, sv 0 p0.length ANY), (5, accV 1 v9.length), (6, iv v8)]) [ab 54 e54 p0, ab 3 e3 v9] (P20l0 p0 r)) ?_ v9 v8 r hF
 clear hF r v9 v8
 intro again ih v9 v8 r hF
 refine TL.round (TS.sq (TS.sq (TS.rg (TI.ra 4 [0, 5, 6, 15] (st 27 [(0, sv 0 p0.length ANY), (5, accV 1 v9.length), (6, iv v8), (15, .bool (decide (v8 < (p0.length : Int))))]) (TI.dn (NX.sq ?_))))))
 refine TS.cd (.tmp 15) (decide (v8 < (p0.length : Int))) (fun hc17 => ?_) (fun hc17 => ?_)
 · replace hF := of_pos hF hc17
   refine TS.sk (NX.sq (TS.sq (TS.bk 1 (TS.sq ?_))))
   obtain ⟨r18, h19, hF⟩ := of_do hF
   refine TS.rg (TI.ra 2 [0, 5, 6, 18, 19] (st 27 [(0, sv 0 p0.length ANY), (5, accV 1 v9.length), (6, iv v8), (18, sv 0 p0.length ANY), (19, iv v8)]) (TI.cp 61 [sv 0 p0.length ANY, iv v8] (iv r18) [] (PureSim.ren (hc := [ab 54 e54 p0]) (fun i => List.getD [(0, 0)] i (0, 0)) (C61 _ _ _ h19) (.ac (.nil _)) (.cons (Rn.any _ _ _ _ _ _ (nl rfl) rfl rfl (by decide)) (.fl .nil)) (.flat (by kernel_rfl)) newflat_nil) (TI.ra 1 [0, 5, 6, 21] (st 27 [(0, sv 0 p0.length ANY), (5, accV 1 v9.length), (6, iv v8), (21, .bool (decide (r18 ≤ 0)))]) (TI.dn (NX.sq ?_)))))
   obtain ⟨m23, hm24, hF⟩ := of_do hF
   have hK : NX Try.prog 1 1 [.bk 1, .sq c20.s2.s2.s2.s2.s1.s2.bd.bd.s2.s2] (Rd Try.prog 1 1 c20.s2.s2.s2.s2.s1.s2.bd.bd (P20l0 p0 r)) .normal (st 27 [(0, sv 0 p0.length ANY), (5, accV 1 m23.length), (6, iv v8)]) [ab 54 e54 p0, ab 3 e3 m23] := by
    refine NX.bk (NX.sq (TS.rg (TI.ra 3 [0, 5, 6] (st 27 [(0, sv 0 p0.length ANY), (5, accV 1 m23.length), (6, iv (w64 (v8 + 1)))]) (TI.dn ?_))))
    exact Rd.again (a2 := (st 27 [(0, sv 0 p0.length ANY), (5, accV 1 m23.length), (6, iv (w64 (v8 + 1)))])) (h2 := [ab 54 e54 p0, ab 3 e3 m23]) (Wk.an [1] (.ac (.ac (.nil _))) [sv 0 p0.length ANY, accV 1 m23.length, iv (w64 (v8 + 1))] (.sl (.cons (Rn.acc (nl rfl) rfl) (.fl .nil)))) (ih m23 (w64 (v8 + 1)) _ hF)
   clear hF
   have hF := hm24
   clear hm24
   refine TS.start ?_
   refine TS.cd (.tmp 21) (decide (r18 ≤ 0)) (fun hc25 => ?_) (fun hc25 => ?_)
   · replace hF := of_pos hF hc25
     obtain ⟨hg26, hF⟩ := of_guard hF
     refine TS.rg (TI.rn 3 [0, 6, 22, 24] [0, 1, 2] (st 27 [(0, sv 0 p0.length ANY), (6, iv v8), (22, accV 1 v9.length), (24, sv 2 1 1)]) [ab 54 e54 p0, ab 3 e3 v9, cl 3 [iv v8]] (TI.acc (l := v9) (b := 1) (ts := #[34, 34]) (e := 3) (bytes := 8) (z := iv 0) (y := sv 2 1 1) (ys := [v8]) (xs := List.flatMap e3 ([v8])) (m := 1) (s := 1) (enc := e3) (by kernel_rfl) (by kernel_rfl) (by decide) (by kernel_rfl) (by kernel_rfl) (by kernel_rfl) (by kernel_rfl) (by kernel_rfl) (by kernel_rfl) (by kernel_rfl) (by kernel_rfl) (fun _ => rfl) rfl rfl (by omega) [0, 6, 25] [0, 3] (a2 := (st 27 [(0, sv 0 p0.length ANY), (6, iv v8), (25, sv 3 (List.length (v9 ++ [v8])) UNK)])) (h2 := [ab 54 e54 p0, .dead, .dead, .cells 3 (List.flatMap e3 (v9 ++ [v8]))]) (by kernel_rfl) (TI.ra 1 [0, 5, 6] (st 27 [(0, sv 0 p0.length ANY), (5, sv 3 (List.length (v9 ++ [v8])) UNK), (6, iv v8)]) (TI.dn ?_))))
     have hF := sj hF
     subst hF
     exact TS.weak (by exact (Wk.an [3] (.ac (.cons (At.accU (by kernel_rfl) rfl (fun _ => rfl)) (.nil _))) [sv 0 p0.length ANY, sv 3 (List.length (v9 ++ [v8])) UNK, iv v8] (.sl (.cons (Rn.accU (nl rfl) rfl (by simp)) (.fl .nil))))) hK
   replace hF := of_neg hF hc25
   refine TS.sk ?_
   have hF := sj hF
   subst hF
   exact TS.weak (by exact (Wk.an [1] (.ac (.ac (.nil _))) [sv 0 p0.length ANY, accV 1 v9.length, iv v8] (.sl (.cons (Rn.acc (nl rfl) rfl) (.fl .nil))))) hK
 replace hF := of_neg hF hc17
 refine TS.ex 0 (NX.sqX ?_)
 have hF := sj hF
 subst hF
 exact Rd.out (e := .exit 0) (by intro h; cases h) (And.intro rfl (Wk.an [1] (.ac (.ac (.nil _))) [accV 1 v9.length] (.cons (Rn.acc (nl rfl) rfl) .nil)))
theorem B20 (p0 : List I2) (r : (List Int) × Int) (hF : F20 p0 = some r) : TS Try.prog 1 1 c20 (st 27 [(0, sv 0 p0.length ANY)]) [ab 54 e54 p0] (NX Try.prog 1 1 [] (FinP Try.prog Try.f20 1 (V20 1 r) (N20 1 r))) := by
 unfold F20 at hF
 refine TS.sq (TS.rg (TI.ra 2 [0] (st 27 [(0, sv 0 p0.length ANY)]) (TI.dn (NX.sq (TS.sq ?_)))))
 obtain ⟨r1, h2, hF⟩ := of_do hF
 refine TS.rg (TI.ra 1 [0, 7] (st 27 [(0, sv 0 p0.length ANY), (7, sv 0 p0.length ANY)]) (TI.cp 23 [sv 0 p0.length ANY] (iv r1) [] (PureSim.ren (hc := [ab 54 e54 p0]) (fun i => List.getD [(0, 0)] i (0, 0)) (C23 _ _ h2) (.ac (.nil _)) (.cons (Rn.any _ _ _ _ _ _ (nl rfl) rfl rfl (by decide)) .nil) (.flat (by kernel_rfl)) newflat_nil) (TI.ra 1 [0, 4] (st 27 [(0, sv 0 p0.length ANY), (4, iv r1)]) (TI.dn (NX.sq (TS.sq (TS.sq (TS.rg ?_))))))))
 refine TI.ra 2 [0, 4, 10] (st 27 [(0, sv 0 p0.length ANY), (4, iv r1), (10, .bool (r1 != 0))]) (TI.dn (NX.sq ?_))
 refine TS.cd (.tmp 10) (r1 != 0) (fun hc3 => ?_) (fun hc3 => ?_)
 · replace hF := of_pos hF hc3
   refine TS.sq (TS.rg (TI.ra 3 [2, 3] (st 27 [(2, .slice none 0 0), (3, iv r1)]) (TI.dn (NX.sq (TS.rt (NX.sqR ?_))))))
   have hF := sj hF
   subst hF
   exact ⟨.inr rfl, rfl, .tuple ⟨[.slice none 0 0, iv r1]⟩, by kernel_rfl, WkV.made (L := 1) (f := [1]) (by decide) (by decide) rfl (.cons At.accN (.nil _)) (Rn.tuple' (.cons Rn.accN (.fl .nil)))⟩
 replace hF := of_neg hF hc3
 refine TS.sk (NX.sq (TS.sq (TS.rg (TI.ra 1 [0, 5] (st 27 [(0, sv 0 p0.length ANY), (5, .slice none 0 0)]) (TI.dn (NX.sq (TS.sq (TS.sq ?_))))))))
 refine TS.rg (TI.ra 1 [0, 5, 6] (st 27 [(0, sv 0 p0.length ANY), (5, .slice none 0 0), (6, iv 0)]) (TI.dn (NX.sq (TS.bk 0 ?_))))
 obtain ⟨r27, h28, hF⟩ := of_do hF
 refine TS.lp (TL.weak (a2 := (st 27 [(0, sv 0 p0.length ANY), (5, accV 1 (List.length ([]))), (6, iv 0)])) (h2 := [ab 54 e54 p0, accB 3 (List.length ([])) (List.flatMap e3 ([]))]) (Wk.an [1] (.ac (.cons At.accN (.nil _))) [sv 0 p0.length ANY, .slice none 0 0, iv 0] (.sl (.cons (Rn.accN) (.fl .nil)))) (TL.post (L20l0 p0 ([]) 0 r27 h28) ?_))
 rintro e a1 h1 hp
 obtain ⟨rfl, hw⟩ := hp
 refine ⟨(st 27 [(5, accV 1 r27.length)]), [ab 54 e54 p0, ab 3 e3 r27], (NX.bkX (NX.sq (TS.sq (TS.rg (TI.ra 3 [2, 3] (st 27 [(2, accV 1 r27.length), (3, iv 0)]) (TI.dn (NX.sq (TS.rt ?_)))))))), hw⟩
 have hF := sj hF
 subst hF
 exact ⟨.inr rfl, rfl, .tuple ⟨[accV 1 r27.length, iv 0]⟩, by kernel_rfl, WkV.made (L := 1) (f := [1]) (by decide) (by decide) rfl (.ac (.nil _)) (Rn.tuple' (.cons (Rn.acc (nl rfl) rfl) (.fl .nil)))⟩
theorem C20 (p0 : List I2) (r : (List Int) × Int) (hF : F20 p0 = some r) : PureSim Try.prog 20 [sv 0 p0.length ANY] [ab 54 e54 p0] (V20 1 r) (N20 1 r) :=
 PureSim.of_Fin Try.func20 (c := c20) (by kernel_rfl) (by kernel_rfl) 1 rfl [0] [0] (by kernel_rfl) (B20 p0 r hF)
noncomputable def c21 : Code := Try.f21.code
def S21_0 (p0 p1 : List Int) : CAct := (st 26 [(0, sv 0 p0.length ANY), (1, sv 1 p1.length ANY), (5, iv 0)])
def H21_1 (p0 p1 : List Int) : List Blk := [ab 3 e3 p0, ab 3 e3 p1]
def F21l0 (p0 p1 : List Int) (v10 : Int) : Option (Unit ⊕ Unit) :=
 if decide (v10 < (p0.length : Int)) then
  if (0 : Int) ≤ v10 ∧ v10 < (p0.length : Int) then
   some (List.getD p0 (Int.toNat v10) 0) >>= fun o22 =>
   if (0 : Int) ≤ v10 ∧ v10 < (p1.length : Int) then
    some (List.getD p1 (Int.toNat v10) 0) >>= fun o25 =>
    if o22 != o25 then
     some (.inl ())
    else
     F21l0 p0 p1 (w64 (v10 + 1))
   else none
  else none
 else
  some (.inr ())
 partial_fixpoint
def F21 (p0 p1 : List Int) : Option Bool :=
 if (p0.length : Int) != (p1.length : Int) then
  some false
 else
  F21l0 p0 p1 0 >>= fun r28 =>
  match r28 with
  | .inl o30 =>
   some false
  | .inr o31 =>
   some true
def V21 (b : Nat) (r : Bool) : Value := .bool r
def N21 (b : Nat) (r : Bool) : List Blk := []
def P21l0 (p0 p1 : List Int) (r : Unit ⊕ Unit) : Post := fun e a h => (match r with | .inl q0 => e = .ret ∧ Wk Try.prog 2 2 a h (st 26 [(4, .bool false)]) (H21_1 p0 p1) | .inr q0 => e = .exit 0 ∧ Wk Try.prog 2 2 a h (st 26 []) (H21_1 p0 p1))
theorem L21l0 (p0 p1 : List Int) (v10 : Int) (r : Unit ⊕ Unit) (hF : F21l0 p0 p1 v10 = some r) : TL Try.prog 2 2 c21.s2.s2.s1.s2.bd.bd (st 26 [(0, sv 0 p0.length ANY), (1, sv 1 p1.length ANY), (5, iv v10)]) (H21_1 p0 p1) (P21l0 p0 p1 r) := by
 refine F21l0.partial_correctness p0 p1 (motive := fun v10 r => TL Try.prog 2 2 c21.s2.s2.s1.s2.bd.bd (st 26 [(0, sv 0 p0.length ANY), (1, sv 1 p1.length ANY), (5, iv v10)]) (H21_1 p0 p1) (P21l0 p0 p1 r)) ?_ v10 r hF
 clear hF r v10
 intro again ih v10 r hF
 refine TL.round (TS.sq (TS.sq (TS.rg (TI.ra 4 [0, 1, 5, 14] (st 26 [(0, sv 0 p0.length ANY), (1, sv 1 p1.length ANY), (5, iv v10), (14, .bool (decide (v10 < (p0.length : Int))))]) (TI.dn (NX.sq ?_))))))
 refine TS.cd (.tmp 14) (decide (v10 < (p0.length : Int))) (fun hc20 => ?_) (fun hc20 => ?_)
 · replace hF := of_pos hF hc20
   refine TS.sk (NX.sq (TS.sq (TS.bk 1 (TS.sq ?_))))
   obtain ⟨hg21, hF⟩ := of_guard hF
   obtain ⟨o22, h23, hF⟩ := of_do hF
   replace h23 := sj h23
   obtain ⟨hg24, hF⟩ := of_guard hF
   obtain ⟨o25, h26, hF⟩ := of_do hF
   replace h26 := sj h26
   refine TS.dp [] (fun e he => by cases he) mixed 8 [0, 1, 5, 25] [0, 1] (st 26 [(0, sv 0 p0.length ANY), (1, sv 1 p1.length ANY), (5, iv v10), (25, .bool (o22 != o25))]) (H21_1 p0 p1) ?_ ?_
   · exact QJ.rn (qs (st 26 [(0, sv 0 p0.length ANY), (1, sv 1 p1.length ANY), (5, iv v10), (14, .bool (decide (v10 < (p0.length : Int)))), (17, sv 0 p0.length ANY), (18, iv v10)]) (H21_1 p0 p1) [] []) 2 (QJ.o { val := .pointer (some ⟨0, 0 + (Int.toNat v10) * 1, none⟩) } (q_ixS 0 0 ((Int.toNat v10) * 1) (by kernel_rfl) hg21) (QJ.o { val := iv o22 } (q_n1a Try.prog (H21_1 p0 p1) 3 0 (0 + (Int.toNat v10) * 1) p0 e3 1 3 (Int.toNat v10) 0 0 h23) (QJ.rn (qs (st 26 [(0, sv 0 p0.length ANY), (1, sv 1 p1.length ANY), (5, iv v10), (14, .bool (decide (v10 < (p0.length : Int)))), (17, sv 0 p0.length ANY), (18, iv v10), (19, .pointer (some ⟨0, 0 + (Int.toNat v10) * 1, none⟩)), (20, iv o22), (21, sv 1 p1.length ANY), (22, iv v10)]) (H21_1 p0 p1) [] []) 2 (QJ.o { val := .pointer (some ⟨1, 0 + (Int.toNat v10) * 1, none⟩) } (q_ixS 1 0 ((Int.toNat v10) * 1) (by kernel_rfl) hg24) (QJ.o { val := iv o25 } (q_n1a Try.prog (H21_1 p0 p1) 3 1 (0 + (Int.toNat v10) * 1) p1 e3 1 3 (Int.toNat v10) 0 0 h26) (QJ.dn ⟨rfl, SJ.la⟩))))))
   refine TS.cd (.tmp 25) (o22 != o25) (fun hc27 => ?_) (fun hc27 => ?_)
   · replace hF := of_pos hF hc27
     refine TS.sq (TS.rg (TI.ra 1 [4] (st 26 [(4, .bool false)]) (TI.dn (NX.sq (TS.rt (NX.bkR (NX.sqR ?_)))))))
     have hF := sj hF
     subst hF
     exact Rd.out (e := .ret) (by intro h; cases h) (And.intro rfl (Wk.an [] (.ac (.ac (.nil _))) [.bool false] (.fl .nil)))
   replace hF := of_neg hF hc27
   refine TS.sk (NX.bk (NX.sq (TS.rg (TI.ra 3 [0, 1, 5] (st 26 [(0, sv 0 p0.length ANY), (1, sv 1 p1.length ANY), (5, iv (w64 (v10 + 1)))]) (TI.dn ?_)))))
   exact Rd.again (a2 := (st 26 [(0, sv 0 p0.length ANY), (1, sv 1 p1.length ANY), (5, iv (w64 (v10 + 1)))])) (h2 := (H21_1 p0 p1)) (Wk.an [] (.ac (.ac (.nil _))) [sv 0 p0.length ANY, sv 1 p1.length ANY, iv (w64 (v10 + 1))] (.sl (.sl (.fl .nil)))) (ih (w64 (v10 + 1)) _ hF)
 replace hF := of_neg hF hc20
 refine TS.ex 0 (NX.sqX ?_)
 have hF := sj hF
 subst hF
 exact Rd.out (e := .exit 0) (by intro h; cases h) (And.intro rfl (Wk.an [] (.ac (.ac (.nil _))) [] .nil))
theorem B21 (p0 p1 : List Int) (r : Bool) (hF : F21 p0 p1 = some r) : TS Try.prog 2 2 c21 (st 26 [(0, sv 0 p0.length ANY), (1, sv 1 p1.length ANY)]) (H21_1 p0 p1) (NX Try.prog 2 2 [] (FinP Try.prog Try.f21 2 (V21 2 r) (N21 2 r))) := by
 unfold F21 at hF
 refine TS.sq (TS.rg (TI.ra 1 [0, 1] (st 26 [(0, sv 0 p0.length ANY), (1, sv 1 p1.length ANY)]) (TI.dn (NX.sq (TS.sq (TS.sq (TS.rg (TI.ra 5 [0, 1, 10] (st 26 [(0, sv 0 p0.length ANY), (1, sv 1 p1.length ANY), (10, .bool ((p0.length : Int) != (p1.length : Int)))]) ?_))))))))
 refine TI.dn (NX.sq ?_)
 refine TS.cd (.tmp 10) ((p0.length : Int) != (p1.length : Int)) (fun hc1 => ?_) (fun hc1 => ?_)
 · replace hF := of_pos hF hc1
   refine TS.sq (TS.rg (TI.ra 1 [4] (st 26 [(4, .bool false)]) (TI.dn (NX.sq (TS.rt (NX.sqR ?_))))))
   have hF := sj hF
   subst hF
   exact ⟨.inr rfl, rfl, .bool false, by kernel_rfl, WkV.flat0 (by kernel_rfl) (nl rfl)⟩
 replace hF := of_neg hF hc1
 refine TS.sk (NX.sq (TS.sq (TS.sq (TS.rg (TI.ra 1 [0, 1, 5] (S21_0 p0 p1) (TI.dn (NX.sq (TS.bk 0 ?_))))))))
 obtain ⟨r28, h29, hF⟩ := of_do hF
 refine TS.lp (TL.weak (a2 := (S21_0 p0 p1)) (h2 := (H21_1 p0 p1)) (Wk.an [] (.ac (.ac (.nil _))) [sv 0 p0.length ANY, sv 1 p1.length ANY, iv 0] (.sl (.sl (.fl .nil)))) (TL.post (L21l0 p0 p1 0 r28 h29) ?_))
 rintro e a1 h1 hp
 rcases r28 with o30 | o31
 · skip
   obtain ⟨rfl, hw⟩ := hp
   refine ⟨(st 26 [(4, .bool false)]), (H21_1 p0 p1), (NX.bkR (NX.sqR ?_)), hw⟩
   have hF := sj hF
   subst hF
   exact ⟨.inr rfl, rfl, .bool false, by kernel_rfl, WkV.flat0 (by kernel_rfl) (nl rfl)⟩
 skip
 obtain ⟨rfl, hw⟩ := hp
 refine ⟨(st 26 []), (H21_1 p0 p1), (NX.bkX (NX.sq (TS.sq (TS.rg (TI.ra 1 [4] (st 26 [(4, .bool true)]) (TI.dn (NX.sq (TS.rt ?_)))))))), hw⟩
 have hF := sj hF
 subst hF
 exact ⟨.inr rfl, rfl, .bool true, by kernel_rfl, WkV.flat0 (by kernel_rfl) (nl rfl)⟩
theorem C21 (p0 p1 : List Int) (r : Bool) (hF : F21 p0 p1 = some r) : PureSim Try.prog 21 [sv 0 p0.length ANY, sv 1 p1.length ANY] (H21_1 p0 p1) (V21 2 r) (N21 2 r) :=
 PureSim.of_Fin Try.func21 (c := c21) (by kernel_rfl) (by kernel_rfl) 2 rfl [0, 1] [0, 1] (by kernel_rfl) (B21 p0 p1 r hF)
noncomputable def c3 : Code := Try.f3.code
def S3_0 (p0 r4 : List I2) (r6 r8 : I2 × Int) (r10 r12 : (List Int) × Int) : CAct := (st 70 [(0, sv 0 p0.length ANY), (5, accV 1 r4.length), (7, iv r6.2), (9, iv r8.2), (10, accV 4 r10.1.length), (11, iv r10.2), (12, accV 5 r12.1.length), (13, iv r12.2), (42, ag [iv r6.1.1, iv r6.1.2]), (43, ag [iv r8.1.1, iv r8.1.2])])
def S3_1 (p0 r4 : List I2) (r10 r12 : (List Int) × Int) (r6 r8 : I2 × Int) : CAct := (st 70 [(0, sv 0 p0.length ANY), (5, accV 1 r4.length), (10, accV 4 r10.1.length), (11, iv r10.2), (12, accV 5 r12.1.length), (13, iv r12.2), (45, .bool true), (46, iv r6.2), (47, iv r8.2)])
def S3_2 (p0 r4 : List I2) (r6 r8 : I2 × Int) (r10 r12 : (List Int) × Int) : CAct := (st 70 [(0, sv 0 p0.length ANY), (5, accV 1 r4.length), (7, iv r6.2), (9, iv r8.2), (10, accV 4 r10.1.length), (11, iv r10.2), (12, accV 5 r12.1.length), (13, iv r12.2), (44, .bool true)])
def S3_3 (p0 r4 : List I2) (r10 r12 : (List Int) × Int) : CAct := (st 70 [(0, sv 0 p0.length ANY), (5, accV 1 r4.length), (10, accV 4 r10.1.length), (11, iv r10.2), (12, accV 5 r12.1.length), (13, iv r12.2), (45, .bool true), (48, .bool true)])
def H3_4 (p0 r4 : List I2) (r10 r12 : (List Int) × Int) : List Blk := [ab 55 e55 p0, ab 54 e54 r4, .dead, .dead, ab 3 e3 r10.1, ab 3 e3 r12.1]
def S3_5 (p0 r4 : List I2) (r10 r12 : (List Int) × Int) : CAct := (st 70 [(0, sv 0 p0.length ANY), (5, accV 1 r4.length), (11, iv r10.2), (13, iv r12.2), (50, .bool true), (51, accV 4 r10.1.length), (52, accV 5 r12.1.length)])
def S3_6 (p0 r4 : List I2) (r10 r12 : (List Int) × Int) : CAct := (st 70 [(0, sv 0 p0.length ANY), (5, accV 1 r4.length), (55, .bool true), (56, iv r10.2), (57, iv r12.2)])
def H3_7 (p0 r4 : List I2) : List Blk := [ab 55 e55 p0, ab 54 e54 r4, .dead, .dead, .dead, .dead]
def H3_8 (r10 r12 : (List Int) × Int) : List Blk := [ab 3 e3 r10.1, ab 3 e3 r12.1]
def H3_9 (p0 : List I2) : List Blk := [ab 55 e55 p0, .dead, .dead, .dead, .dead, .dead]
def F3 (p0 : List I2) (p1 : Int) : Option Bool :=
 if decide ((p0.length : Int) > 60) then
  F15 >>= fun r2 =>
  some r2
 else
  F16 p0 >>= fun r4 =>
  F17 p0 p1 >>= fun r6 =>
  F18 r4 p1 >>= fun r8 =>
  F19 p0 >>= fun r10 =>
  F20 r4 >>= fun r12 =>
  (
   if ((r6.1.1 == r8.1.1) && ((r6.1.2 == r8.1.2) && true)) then
    if r6.2 == r8.2 then
     F21 r10.1 r12.1 >>= fun r16 =>
     if r16 then
      if r10.2 == r12.2 then
       F22 p0 >>= fun r19 =>
       F23 r4 >>= fun r21 =>
       if r19 == r21 then
        F15 >>= fun r24 =>
        some (r24)
       else
        some (false)
      else
       some (false)
     else
      some (false)
    else
     some (false)
   else
    some (false)
  : Option Bool) >>= fun m26 =>
  some m26
def V3 (b : Nat) (r : Bool) : Value := .bool r
def N3 (b : Nat) (r : Bool) : List Blk := []
theorem B3 (p0 : List I2) (p1 : Int) (r : Bool) (hF : F3 p0 p1 = some r) : TS Try.prog 1 1 c3 (st 70 [(0, sv 0 p0.length ANY), (1, iv p1)]) [ab 55 e55 p0] (NX Try.prog 1 1 [] (FinP Try.prog Try.f3 1 (V3 1 r) (N3 1 r))) := by
 unfold F3 at hF
 refine TS.sq (TS.rg (TI.ra 1 [0, 1] (st 70 [(0, sv 0 p0.length ANY), (1, iv p1)]) (TI.dn (NX.sq (TS.sq (TS.sq (TS.rg (TI.ra 3 [0, 1, 16] (st 70 [(0, sv 0 p0.length ANY), (1, iv p1), (16, .bool (decide ((p0.length : Int) > 60)))]) ?_))))))))
 refine TI.dn (NX.sq ?_)
 refine TS.cd (.tmp 16) (decide ((p0.length : Int) > 60)) (fun hc1 => ?_) (fun hc1 => ?_)
 · replace hF := of_pos hF hc1
   refine TS.sq ?_
   obtain ⟨r2, h3, hF⟩ := of_do hF
   refine TS.rg (TI.cf (C15 _ h3) (TI.ra 1 [4] (st 70 [(4, .bool r2)]) (TI.dn (NX.sq (TS.rt (NX.sqR ?_))))))
   have hF := sj hF
   subst hF
   exact ⟨.inr rfl, rfl, .bool r2, by kernel_rfl, WkV.flat0 (by kernel_rfl) (nl rfl)⟩
 replace hF := of_neg hF hc1
 refine TS.sk (NX.sq (TS.sq ?_))
 obtain ⟨r4, h5, hF⟩ := of_do hF
 refine TS.rg (TI.ra 1 [0, 1, 18] (st 70 [(0, sv 0 p0.length ANY), (1, iv p1), (18, sv 0 p0.length ANY)]) (TI.cp 16 [sv 0 p0.length ANY] (accV 1 r4.length) [ab 54 e54 r4] (PureSim.ren (hc := [ab 55 e55 p0]) (fun i => List.getD [(0, 0)] i (0, 0)) (C16 _ _ h5) (.ac (.nil _)) (.cons (Rn.any _ _ _ _ _ _ (nl rfl) rfl rfl (by decide)) .nil) (Rn.acc (i' := 1) (nl rfl) rfl) (newflat_cons (accB_flat (fun _ => rfl)) newflat_nil)) (TI.rn 1 [0, 1, 5] [0, 1] (st 70 [(0, sv 0 p0.length ANY), (1, iv p1), (5, accV 1 r4.length)]) [ab 55 e55 p0, ab 54 e54 r4] (TI.dn (NX.sq (TS.sq ?_))))))
 obtain ⟨r6, h7, hF⟩ := of_do hF
 refine TS.rg (TI.ra 2 [0, 1, 5, 21, 22] (st 70 [(0, sv 0 p0.length ANY), (1, iv p1), (5, accV 1 r4.length), (21, sv 0 p0.length ANY), (22, iv p1)]) (TI.cp 17 [sv 0 p0.length ANY, iv p1] (.tuple ⟨[ag [iv r6.1.1, iv r6.1.2], iv r6.2]⟩) [] (PureSim.ren (hc := [ab 55 e55 p0]) (fun i => List.getD [(0, 0)] i (0, 0)) (C17 _ _ _ h7) (.ac (.nil _)) (.cons (Rn.any _ _ _ _ _ _ (nl rfl) rfl rfl (by decide)) (.fl .nil)) (.flat (by kernel_rfl)) newflat_nil) (TI.rn 6 [0, 1, 5, 6, 7] [0, 1, 2] (st 70 [(0, sv 0 p0.length ANY), (1, iv p1), (5, accV 1 r4.length), (6, pt 2 0), (7, iv r6.2)]) [ab 55 e55 p0, ab 54 e54 r4, cl 29 [iv r6.1.1, iv r6.1.2]] (TI.dn (NX.sq (TS.sq ?_))))))
 obtain ⟨r8, h9, hF⟩ := of_do hF
 refine TS.rg (TI.ra 2 [0, 5, 6, 7, 27, 28] (st 70 [(0, sv 0 p0.length ANY), (5, accV 1 r4.length), (6, pt 2 0), (7, iv r6.2), (27, accV 1 r4.length), (28, iv p1)]) (TI.cp 18 [accV 1 r4.length, iv p1] (.tuple ⟨[ag [iv r8.1.1, iv r8.1.2], iv r8.2]⟩) [] (PureSim.ren (hc := [ab 54 e54 r4]) (fun i => List.getD [(1, 0)] i (0, 0)) (C18 _ _ _ h9) (.ac (.nil _)) (.cons (Rn.accA (i' := 1) (nl rfl) rfl) (.fl .nil)) (.flat (by kernel_rfl)) newflat_nil) (TI.rn 6 [0, 5, 6, 7, 8, 9] [0, 1, 2, 3] (st 70 [(0, sv 0 p0.length ANY), (5, accV 1 r4.length), (6, pt 2 0), (7, iv r6.2), (8, pt 3 0), (9, iv r8.2)]) [ab 55 e55 p0, ab 54 e54 r4, cl 29 [iv r6.1.1, iv r6.1.2], cl 29 [iv r8.1.1, iv r8.1.2]] (TI.dn (NX.sq (TS.sq ?_))))))
 obtain ⟨r10, h11, hF⟩ := of_do hF
 refine TS.rg (TI.ra 1 [0, 5, 6, 7, 8, 9, 33] (st 70 [(0, sv 0 p0.length ANY), (5, accV 1 r4.length), (6, pt 2 0), (7, iv r6.2), (8, pt 3 0), (9, iv r8.2), (33, sv 0 p0.length ANY)]) (TI.cp 19 [sv 0 p0.length ANY] (.tuple ⟨[accV 4 r10.1.length, iv r10.2]⟩) [ab 3 e3 r10.1] (PureSim.ren (hc := [ab 55 e55 p0]) (fun i => List.getD [(0, 0)] i (0, 0)) (C19 _ _ h11) (.ac (.nil _)) (.cons (Rn.any _ _ _ _ _ _ (nl rfl) rfl rfl (by decide)) .nil) (Rn.tuple' (.cons (Rn.acc (i' := 4) (nl rfl) rfl) (.fl .nil))) (newflat_cons (accB_flat (fun _ => rfl)) newflat_nil)) (TI.rn 5 [0, 5, 6, 7, 8, 9, 10, 11] [0, 1, 2, 3, 4] (st 70 [(0, sv 0 p0.length ANY), (5, accV 1 r4.length), (6, pt 2 0), (7, iv r6.2), (8, pt 3 0), (9, iv r8.2), (10, accV 4 r10.1.length), (11, iv r10.2)]) [ab 55 e55 p0, ab 54 e54 r4, cl 29 [iv r6.1.1, iv r6.1.2], cl 29 [iv r8.1.1, iv r8.1.2], ab 3 e3 r10.1] (TI.dn (NX.sq (TS.sq ?_))))))
 obtain ⟨r12, h13, hF⟩ := of_do hF
 refine TS.rg (TI.ra 1 [0, 5, 6, 7, 8, 9, 10, 11, 38] (st 70 [(0, sv 0 p0.length ANY), (5, accV 1 r4.length), (6, pt 2 0), (7, iv r6.2), (8, pt 3 0), (9, iv r8.2), (10, accV 4 r10.1.length), (11, iv r10.2), (38, accV 1 r4.length)]) (TI.cp 20 [accV 1 r4.length] (.tuple ⟨[accV 5 r12.1.length, iv r12.2]⟩) [ab 3 e3 r12.1] (PureSim.ren (hc := [ab 54 e54 r4]) (fun i => List.getD [(1, 0)] i (0, 0)) (C20 _ _ h13) (.ac (.nil _)) (.cons (Rn.accA (i' := 1) (nl rfl) rfl) .nil) (Rn.tuple' (.cons (Rn.acc (i' := 5) (nl rfl) rfl) (.fl .nil))) (newflat_cons (accB_flat (fun _ => rfl)) newflat_nil)) (TI.rn 5 [0, 5, 6, 7, 8, 9, 10, 11, 12, 13] [0, 1, 2, 3, 4, 5] (st 70 [(0, sv 0 p0.length ANY), (5, accV 1 r4.length), (6, pt 2 0), (7, iv r6.2), (8, pt 3 0), (9, iv r8.2), (10, accV 4 r10.1.length), (11, iv r10.2), (12, accV 5 r12.1.length), (13, iv r12.2)]) [ab 55 e55 p0, ab 54 e54 r4, cl 29 [iv r6.1.1, iv r6.1.2], cl 29 [iv r8.1.1, iv r8.1.2], ab 3 e3 r10.1, ab 3 e3 r12.1] (TI.dn (NX.sq (TS.sq ?_))))))
 obtain ⟨m26, hm27, hF⟩ := of_do hF
 have hK : NX Try.prog 1 1 [.sq c3.s2.s2.s2.s2.s2.s2.s2.s2] (FinP Try.prog Try.f3 1 (V3 1 r) (N3 1 r)) .normal (st 70 [(4, .bool m26)]) (H3_9 p0) := by
  refine NX.sq (TS.rt ?_)
  have hF := sj hF
  subst hF
  exact ⟨.inr rfl, rfl, .bool m26, by kernel_rfl, WkV.flat0 (by kernel_rfl) (nl rfl)⟩
 rcases Bool.eq_false_or_eq_true (((r6.1.1 == r8.1.1) && ((r6.1.2 == r8.1.2) && true))) with hc14 | hc14
 · replace hm27 := of_pos hm27 hc14
   rcases Bool.eq_false_or_eq_true (r6.2 == r8.2) with hc15 | hc15
   · replace hm27 := of_pos hm27 hc15
     have hX := of_do hm27
     clear hm27
     obtain ⟨r16, h17, hm27⟩ := hX
     cases r16 with
     | true =>
      replace hm27 := of_pos hm27 rfl
      rcases Bool.eq_false_or_eq_true (r10.2 == r12.2) with hc18 | hc18
      · replace hm27 := of_pos hm27 hc18
        have hX := of_do hm27
        clear hm27
        obtain ⟨r19, h20, hm27⟩ := hX
        have hX := of_do hm27
        clear hm27
        obtain ⟨r21, h22, hm27⟩ := hX
        rcases Bool.eq_false_or_eq_true (r19 == r21) with hc23 | hc23
        · replace hm27 := of_pos hm27 hc23
          have hX := of_do hm27
          clear hm27
          obtain ⟨r24, h25, hm27⟩ := hX
          have hm27 := sj hm27
          subst hm27
          refine TS.rg (TI.rn 2 [0, 5, 7, 9, 10, 11, 12, 13, 42, 43] [0, 1, 4, 5] (S3_0 p0 r4 r6 r8 r10 r12) (H3_4 p0 r4 r10 r12) (TI.o { val := .bool true } (q_conv (e := ((r6.1.1 == r8.1.1) && ((r6.1.2 == r8.1.2) && true))) (b := true) (by kernel_rfl) hc14) [0, 5, 7, 9, 10, 11, 12, 13, 44] [0, 1, 4, 5] (S3_2 p0 r4 r6 r8 r10 r12) (H3_4 p0 r4 r10 r12) (TI.ra 3 [0, 5, 10, 11, 12, 13, 45, 46, 47] (S3_1 p0 r4 r10 r12 r6 r8) (TI.o { val := .bool true } (q_conv (e := r6.2 == r8.2) (b := true) (by kernel_rfl) hc15) [0, 5, 10, 11, 12, 13, 45, 48] [0, 1, 4, 5] (S3_3 p0 r4 r10 r12) (H3_4 p0 r4 r10 r12) (TI.ra 4 [0, 5, 11, 13, 50, 51, 52] (S3_5 p0 r4 r10 r12) (TI.cp 21 [accV 4 r10.1.length, accV 5 r12.1.length] (.bool true) [] (PureSim.ren (hc := (H3_8 r10 r12)) (fun i => List.getD [(4, 0), (5, 0)] i (0, 0)) (C21 _ _ _ h17) (.ac (.ac (.nil _))) (.cons (Rn.accA (i' := 4) (nl rfl) rfl) (.cons (Rn.accA (i' := 5) (nl rfl) rfl) .nil)) (.flat (by kernel_rfl)) newflat_nil) (TI.rn 4 [0, 5, 55, 56, 57] [0, 1] (S3_6 p0 r4 r10 r12) (H3_7 p0 r4) (TI.o { val := .bool true } (q_conv (e := r10.2 == r12.2) (b := true) (by kernel_rfl) hc18) [0, 5, 55, 58] [0, 1] (st 70 [(0, sv 0 p0.length ANY), (5, accV 1 r4.length), (55, .bool true), (58, .bool true)]) (H3_7 p0 r4) ?_))))))))
          refine TI.ra 3 [5, 60, 61] (st 70 [(5, accV 1 r4.length), (60, .bool true), (61, sv 0 p0.length ANY)]) (TI.cp 22 [sv 0 p0.length ANY] (iv r19) [] (PureSim.ren (hc := [ab 55 e55 p0]) (fun i => List.getD [(0, 0)] i (0, 0)) (C22 _ _ h20) (.ac (.nil _)) (.cons (Rn.any _ _ _ _ _ _ (nl rfl) rfl rfl (by decide)) .nil) (.flat (by kernel_rfl)) newflat_nil) (TI.ra 1 [60, 62, 63] (st 70 [(60, .bool true), (62, iv r19), (63, accV 1 r4.length)]) (TI.callM (g := 23) (args := [accV 1 r4.length]) (v := iv r21) (new := []) (by kernel_rfl) (PureSim.ren (hc := [ab 54 e54 r4]) (fun i => List.getD [(1, 0)] i (0, 0)) (C23 _ _ h22) (.ac (.nil _)) (.cons (Rn.accA (i' := 1) (nl rfl) rfl) .nil) (.flat (by kernel_rfl)) newflat_nil) [60, 62, 64] [0] (a2 := (st 70 [(60, .bool true), (62, iv r19), (64, iv r21)])) (h2 := (H3_9 p0)) (by kernel_rfl) (TI.o { val := .bool true } (q_conv (e := r19 == r21) (b := true) (by kernel_rfl) hc23) [60, 65] [0] (st 70 [(60, .bool true), (65, .bool true)]) (H3_9 p0) (TI.ra 2 [67] (st 70 [(67, .bool true)]) (TI.cf (C15 _ h25) (TI.ra 2 [4] (st 70 [(4, .bool r24)]) (TI.dn ?_))))))))
          exact hK
        replace hm27 := of_neg hm27 hc23
        have hm27 := sj hm27
        subst hm27
        refine TS.rg (TI.rn 2 [0, 5, 7, 9, 10, 11, 12, 13, 42, 43] [0, 1, 4, 5] (S3_0 p0 r4 r6 r8 r10 r12) (H3_4 p0 r4 r10 r12) (TI.o { val := .bool true } (q_conv (e := ((r6.1.1 == r8.1.1) && ((r6.1.2 == r8.1.2) && true))) (b := true) (by kernel_rfl) hc14) [0, 5, 7, 9, 10, 11, 12, 13, 44] [0, 1, 4, 5] (S3_2 p0 r4 r6 r8 r10 r12) (H3_4 p0 r4 r10 r12) (TI.ra 3 [0, 5, 10, 11, 12, 13, 45, 46, 47] (S3_1 p0 r4 r10 r12 r6 r8) (TI.o { val := .bool true } (q_conv (e := r6.2 == r8.2) (b := true) (by kernel_rfl) hc15) [0, 5, 10, 11, 12, 13, 45, 48] [0, 1, 4, 5] (S3_3 p0 r4 r10 r12) (H3_4 p0 r4 r10 r12) (TI.ra 4 [0, 5, 11, 13, 50, 51, 52] (S3_5 p0 r4 r10 r12) (TI.cp 21 [accV 4 r10.1.length, accV 5 r12.1.length] (.bool true) [] (PureSim.ren (hc := (H3_8 r10 r12)) (fun i => List.getD [(4, 0), (5, 0)] i (0, 0)) (C21 _ _ _ h17) (.ac (.ac (.nil _))) (.cons (Rn.accA (i' := 4) (nl rfl) rfl) (.cons (Rn.accA (i' := 5) (nl rfl) rfl) .nil)) (.flat (by kernel_rfl)) newflat_nil) (TI.rn 4 [0, 5, 55, 56, 57] [0, 1] (S3_6 p0 r4 r10 r12) (H3_7 p0 r4) (TI.o { val := .bool true } (q_conv (e := r10.2 == r12.2) (b := true) (by kernel_rfl) hc18) [0, 5, 55, 58] [0, 1] (st 70 [(0, sv 0 p0.length ANY), (5, accV 1 r4.length), (55, .bool true), (58, .bool true)]) (H3_7 p0 r4) ?_))))))))
        exact TI.ra 3 [5, 60, 61] (st 70 [(5, accV 1 r4.length), (60, .bool true), (61, sv 0 p0.length ANY)]) (TI.cp 22 [sv 0 p0.length ANY] (iv r19) [] (PureSim.ren (hc := [ab 55 e55 p0]) (fun i => List.getD [(0, 0)] i (0, 0)) (C22 _ _ h20) (.ac (.nil _)) (.cons (Rn.any _ _ _ _ _ _ (nl rfl) rfl rfl (by decide)) .nil) (.flat (by kernel_rfl)) newflat_nil) (TI.ra 1 [60, 62, 63] (st 70 [(60, .bool true), (62, iv r19), (63, accV 1 r4.length)]) (TI.callM (g := 23) (args := [accV 1 r4.length]) (v := iv r21) (new := []) (by kernel_rfl) (PureSim.ren (hc := [ab 54 e54 r4]) (fun i => List.getD [(1, 0)] i (0, 0)) (C23 _ _ h22) (.ac (.nil _)) (.cons (Rn.accA (i' := 1) (nl rfl) rfl) .nil) (.flat (by kernel_rfl)) newflat_nil) [60, 62, 64] [0] (a2 := (st 70 [(60, .bool true), (62, iv r19), (64, iv r21)])) (h2 := (H3_9 p0)) (by kernel_rfl) (TI.o { val := .bool false } (q_conv (e := r19 == r21) (b := false) (by kernel_rfl) hc23) [60, 65] [0] (st 70 [(60, .bool true), (65, .bool false)]) (H3_9 p0) (TI.ra 5 [4] (st 70 [(4, .bool false)]) (TI.dn hK))))))
      replace hm27 := of_neg hm27 hc18
      have hm27 := sj hm27
      subst hm27
      refine TS.rg (TI.rn 2 [0, 5, 7, 9, 10, 11, 12, 13, 42, 43] [0, 1, 4, 5] (S3_0 p0 r4 r6 r8 r10 r12) (H3_4 p0 r4 r10 r12) (TI.o { val := .bool true } (q_conv (e := ((r6.1.1 == r8.1.1) && ((r6.1.2 == r8.1.2) && true))) (b := true) (by kernel_rfl) hc14) [0, 5, 7, 9, 10, 11, 12, 13, 44] [0, 1, 4, 5] (S3_2 p0 r4 r6 r8 r10 r12) (H3_4 p0 r4 r10 r12) (TI.ra 3 [0, 5, 10, 11, 12, 13, 45, 46, 47] (S3_1 p0 r4 r10 r12 r6 r8) (TI.o { val := .bool true } (q_conv (e := r6.2 == r8.2) (b := true) (by kernel_rfl) hc15) [0, 5, 10, 11, 12, 13, 45, 48] [0, 1, 4, 5] (S3_3 p0 r4 r10 r12) (H3_4 p0 r4 r10 r12) (TI.ra 4 [0, 5, 11, 13, 50, 51, 52] (S3_5 p0 r4 r10 r12) (TI.cp 21 [accV 4 r10.1.length, accV 5 r12.1.length] (.bool true) [] (PureSim.ren (hc := (H3_8 r10 r12)) (fun i => List.getD [(4, 0), (5, 0)] i (0, 0)) (C21 _ _ _ h17) (.ac (.ac (.nil _))) (.cons (Rn.accA (i' := 4) (nl rfl) rfl) (.cons (Rn.accA (i' := 5) (nl rfl) rfl) .nil)) (.flat (by kernel_rfl)) newflat_nil) (TI.rn 4 [0, 5, 55, 56, 57] [0, 1] (S3_6 p0 r4 r10 r12) (H3_7 p0 r4) (TI.o { val := .bool false } (q_conv (e := r10.2 == r12.2) (b := false) (by kernel_rfl) hc18) [0, 5, 55, 58] [0, 1] (st 70 [(0, sv 0 p0.length ANY), (5, accV 1 r4.length), (55, .bool true), (58, .bool false)]) (H3_7 p0 r4) ?_))))))))
      exact TI.rn 12 [4] [0] (st 70 [(4, .bool false)]) (H3_9 p0) (TI.dn hK)
     | false =>
      replace hm27 := of_neg hm27 rfl
      have hm27 := sj hm27
      subst hm27
      refine TS.rg (TI.rn 2 [0, 5, 7, 9, 10, 11, 12, 13, 42, 43] [0, 1, 4, 5] (S3_0 p0 r4 r6 r8 r10 r12) (H3_4 p0 r4 r10 r12) (TI.o { val := .bool true } (q_conv (e := ((r6.1.1 == r8.1.1) && ((r6.1.2 == r8.1.2) && true))) (b := true) (by kernel_rfl) hc14) [0, 5, 7, 9, 10, 11, 12, 13, 44] [0, 1, 4, 5] (S3_2 p0 r4 r6 r8 r10 r12) (H3_4 p0 r4 r10 r12) (TI.ra 3 [0, 5, 10, 11, 12, 13, 45, 46, 47] (S3_1 p0 r4 r10 r12 r6 r8) (TI.o { val := .bool true } (q_conv (e := r6.2 == r8.2) (b := true) (by kernel_rfl) hc15) [0, 5, 10, 11, 12, 13, 45, 48] [0, 1, 4, 5] (S3_3 p0 r4 r10 r12) (H3_4 p0 r4 r10 r12) (TI.ra 4 [0, 5, 11, 13, 50, 51, 52] (S3_5 p0 r4 r10 r12) (TI.cp 21 [accV 4 r10.1.length, accV 5 r12.1.length] (.bool false) [] (PureSim.ren (hc := (H3_8 r10 r12)) (fun i => List.getD [(4, 0), (5, 0)] i (0, 0)) (C21 _ _ _ h17) (.ac (.ac (.nil _))) (.cons (Rn.accA (i' := 4) (nl rfl) rfl) (.cons (Rn.accA (i' := 5) (nl rfl) rfl) .nil)) (.flat (by kernel_rfl)) newflat_nil) (TI.rn 17 [4] [0] (st 70 [(4, .bool false)]) (H3_9 p0) (TI.dn ?_))))))))
      exact hK
   replace hm27 := of_neg hm27 hc15
   have hm27 := sj hm27
   subst hm27
   exact TS.rg (TI.rn 2 [0, 5, 7, 9, 10, 11, 12, 13, 42, 43] [0, 1, 4, 5] (S3_0 p0 r4 r6 r8 r10 r12) (H3_4 p0 r4 r10 r12) (TI.o { val := .bool true } (q_conv (e := ((r6.1.1 == r8.1.1) && ((r6.1.2 == r8.1.2) && true))) (b := true) (by kernel_rfl) hc14) [0, 5, 7, 9, 10, 11, 12, 13, 44] [0, 1, 4, 5] (S3_2 p0 r4 r6 r8 r10 r12) (H3_4 p0 r4 r10 r12) (TI.ra 3 [0, 5, 10, 11, 12, 13, 45, 46, 47] (S3_1 p0 r4 r10 r12 r6 r8) (TI.o { val := .bool false } (q_conv (e := r6.2 == r8.2) (b := false) (by kernel_rfl) hc15) [0, 5, 10, 11, 12, 13, 45, 48] [0, 1, 4, 5] (st 70 [(0, sv 0 p0.length ANY), (5, accV 1 r4.length), (10, accV 4 r10.1.length), (11, iv r10.2), (12, accV 5 r12.1.length), (13, iv r12.2), (45, .bool true), (48, .bool false)]) (H3_4 p0 r4 r10 r12) (TI.rn 22 [4] [0] (st 70 [(4, .bool false)]) (H3_9 p0) (TI.dn hK))))))
 replace hm27 := of_neg hm27 hc14
 have hm27 := sj hm27
 subst hm27
 exact TS.rg (TI.rn 2 [0, 5, 7, 9, 10, 11, 12, 13, 42, 43] [0, 1, 4, 5] (S3_0 p0 r4 r6 r8 r10 r12) (H3_4 p0 r4 r10 r12) (TI.o { val := .bool false } (q_conv (e := ((r6.1.1 == r8.1.1) && ((r6.1.2 == r8.1.2) && true))) (b := false) (by kernel_rfl) hc14) [0, 5, 7, 9, 10, 11, 12, 13, 44] [0, 1, 4, 5] (st 70 [(0, sv 0 p0.length ANY), (5, accV 1 r4.length), (7, iv r6.2), (9, iv r8.2), (10, accV 4 r10.1.length), (11, iv r10.2), (12, accV 5 r12.1.length), (13, iv r12.2), (44, .bool false)]) (H3_4 p0 r4 r10 r12) (TI.rn 26 [4] [0] (st 70 [(4, .bool false)]) (H3_9 p0) (TI.dn hK))))
theorem C3 (p0 : List I2) (p1 : Int) (r : Bool) (hF : F3 p0 p1 = some r) : PureSim Try.prog 3 [sv 0 p0.length ANY, iv p1] [ab 55 e55 p0] (V3 1 r) (N3 1 r) :=
 PureSim.of_Fin Try.func3 (c := c3) (by kernel_rfl) (by kernel_rfl) 1 rfl [0, 1] [0] (by kernel_rfl) (B3 p0 p1 r hF)
end
end Go.Proofs.Ythpfffijnkmdgaa
