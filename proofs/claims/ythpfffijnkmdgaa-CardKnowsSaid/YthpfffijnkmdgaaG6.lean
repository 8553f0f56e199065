/- What functions of the program compute, and that they do. -/
import Derived.Test.YthpfffijnkmdgaaCW
import Derived.Test.YthpfffijnkmdgaaGiven
set_option linter.unusedVariables false
set_option linter.unusedSimpArgs false
set_option maxRecDepth 100000
set_option maxHeartbeats 4000000
namespace Go.Proofs.Ythpfffijnkmdgaa
open Go Go.Cl
noncomputable section
def e124 (x : Int × I2) : List Value := [.int .i64 x.1, .int .i64 x.2.1, .int .i64 x.2.2]
def e54 (x : I2) : List Value := [.int .i64 x.1, .int .i64 x.2]
noncomputable def c33 : Code := Try.f33.code
def H33_0 (p0 v6 : List (Int × I2)) : List Blk := [ab 92 e92 p0, ab 124 e124 v6]
def F33l0 (p0 v6 : List (Int × I2)) (v5 : Int) : Option (List (Int × I2)) :=
 if decide (v5 < (p0.length : Int)) then
  if (0 : Int) ≤ v5 ∧ v5 < (p0.length : Int) then
   some (List.getD p0 (Int.toNat v5) (0, (0, 0))) >>= fun o16 =>
   if List.length v6 ≤ 1000000000 then
    F33l0 p0 (v6 ++ [(o16.1, (o16.2.1, o16.2.2))]) (w64 (v5 + 1))
   else none
  else none
 else
  some v6
 partial_fixpoint
def F33 (p0 : List (Int × I2)) : Option (List (Int × I2)) :=
 F33l0 p0 ([]) 0 >>= fun r19 =>
 some r19
def V33 (b : Nat) (r : List (Int × I2)) : Value := accV (b + 0) r.length
def N33 (b : Nat) (r : List (Int × I2)) : List Blk := [ab 124 e124 r]
def P33l0 (p0 r : List (Int × I2)) : Post := fun e a h => e = .exit 0 ∧ Wk Try.prog 1 1 a h (st 19 [(3, accV 1 r.length)]) [ab 92 e92 p0, ab 124 e124 r]
theorem L33l0 (p0 v6 : List (Int × I2)) (v5 : Int) (r : List (Int × I2)) (hF : F33l0 p0 v6 v5 = some r) : TL Try.prog 1 1 c33.s2.s2.s1.s2.bd.bd (st 19 [(0, sv 0 p0.length ANY), (3, accV 1 v6.length), (4, iv v5)]) (H33_0 p0 v6) (P33l0 p0 r) := by
 refine F33l0.partial_correctness p0 (motive := fun v6 v5 r => TL Try.prog 1 1 c33.s2.s2.s1.s2.bd.bd (st 19 [(0, sv 0 p0.length ANY), (3, accV 1 v6.length), (4, iv v5)]) (H33_0 p0 v6) (P33l0 p0 r)) ?_ v6 v5 r hF
 clear hF r v6 v5
 intro again ih v6 v5 r hF
 refine TL.round (TS.sq (TS.sq (TS.rg (TI.ra 4 [0, 3, 4, 8] (st 19 [(0, sv 0 p0.length ANY), (3, accV 1 v6.length), (4, iv v5), (8, .bool (decide (v5 < (p0.length : Int))))]) (TI.dn (NX.sq ?_))))))
 refine TS.cd (.tmp 8) (decide (v5 < (p0.length : Int))) (fun hc14 => ?_) (fun hc14 => ?_)
 · replace hF := of_pos hF hc14
   refine TS.sk (NX.sq (TS.sq (TS.bk 1 ?_)))
   obtain ⟨hg15, hF⟩ := of_guard hF
   obtain ⟨o16, h17, hF⟩ := of_do hF
   replace h17 := sj h17
   obtain ⟨hg18, hF⟩ := of_guard hF
   refine TS.rg (TI.ra 3 [0, 4, 11, 12, 13] (st 19 [(0, sv 0 p0.length ANY), (4, iv v5), (11, accV 1 v6.length), (12, sv 0 p0.length ANY), (13, iv v5)]) (TI.o { val := .pointer (some ⟨0, 0 + (Int.toNat v5) * 3, none⟩) } (q_ixS 0 0 ((Int.toNat v5) * 3) (by kernel_rfl) hg15) [0, 4, 11, 14] [0, 1] (st 19 [(0, sv 0 p0.length ANY), (4, iv v5), (11, accV 1 v6.length), (14, .pointer (some ⟨0, 0 + (Int.toNat v5) * 3, none⟩))]) (H33_0 p0 v6) (TI.o { val := ag [iv o16.1, iv o16.2.1, iv o16.2.2] } (q_nAa Try.prog (H33_0 p0 v6) 92 0 (0 + (Int.toNat v5) * 3) p0 e92 3 92 (Int.toNat v5) (0, (0, 0)) h17) [0, 4, 11, 15] [0, 1] (st 19 [(0, sv 0 p0.length ANY), (4, iv v5), (11, accV 1 v6.length), (15, ag [iv o16.1, iv o16.2.1, iv o16.2.2])]) (H33_0 p0 v6) (TI.rn 1 [0, 4, 11, 16] [0, 1, 2] (st 19 [(0, sv 0 p0.length ANY), (4, iv v5), (11, accV 1 v6.length), (16, sv 2 1 1)]) [ab 92 e92 p0, ab 124 e124 v6, cl 124 [iv o16.1, iv o16.2.1, iv o16.2.2]] (TI.acc (l := v6) (b := 1) (ts := #[62, 62]) (e := 124) (bytes := 24) (z := ag [iv 0, iv 0, iv 0]) (y := sv 2 1 1) (ys := [(o16.1, (o16.2.1, o16.2.2))]) (xs := List.flatMap e124 ([(o16.1, (o16.2.1, o16.2.2))])) (m := 1) (s := 3) (enc := e124) (by kernel_rfl) (by kernel_rfl) (by decide) (by kernel_rfl) (by kernel_rfl) (by kernel_rfl) (by kernel_rfl) (by kernel_rfl) (by kernel_rfl) (by kernel_rfl) (by kernel_rfl) (fun _ => rfl) rfl rfl (by omega) [0, 4, 17] [0, 3] (a2 := (st 19 [(0, sv 0 p0.length ANY), (4, iv v5), (17, sv 3 (List.length (v6 ++ [(o16.1, (o16.2.1, o16.2.2))])) UNK)])) (h2 := [ab 92 e92 p0, .dead, .dead, .cells 124 (List.flatMap e124 (v6 ++ [(o16.1, (o16.2.1, o16.2.2))]))]) (by kernel_rfl) (TI.ra 1 [0, 3, 4] (st 19 [(0, sv 0 p0.length ANY), (3, sv 3 (List.length (v6 ++ [(o16.1, (o16.2.1, o16.2.2))])) UNK), (4, iv v5)]) (TI.dn (NX.bk ?_))))))))
   refine NX.sq (TS.rg (TI.ra 3 [0, 3, 4] (st 19 [(0, sv 0 p0.length ANY), (3, sv 3 (List.length (v6 ++ [(o16.1, (o16.2.1, o16.2.2))])) UNK), (4, iv (w64 (v5 + 1)))]) (TI.dn ?_)))
   exact Rd.again (a2 := (st 19 [(0, sv 0 p0.length ANY), (3, accV 1 (List.length (v6 ++ [(o16.1, (o16.2.1, o16.2.2))]))), (4, iv (w64 (v5 + 1)))])) (h2 := [ab 92 e92 p0, accB 124 (List.length (v6 ++ [(o16.1, (o16.2.1, o16.2.2))])) (List.flatMap e124 (v6 ++ [(o16.1, (o16.2.1, o16.2.2))]))]) (Wk.an [3] (.ac (.cons (At.accU (by kernel_rfl) rfl (fun _ => rfl)) (.nil _))) [sv 0 p0.length ANY, sv 3 (List.length (v6 ++ [(o16.1, (o16.2.1, o16.2.2))])) UNK, iv (w64 (v5 + 1))] (.sl (.cons (Rn.accU (nl rfl) rfl (by simp)) (.fl .nil)))) (ih (v6 ++ [(o16.1, (o16.2.1, o16.2.2))]) (w64 (v5 + 1)) _ hF)
 replace hF := of_neg hF hc14
 refine TS.ex 0 (NX.sqX ?_)
 have hF := sj hF
 subst hF
 exact Rd.out (e := .exit 0) (by intro h; cases h) (And.intro rfl (Wk.an [1] (.ac (.ac (.nil _))) [accV 1 v6.length] (.cons (Rn.acc (nl rfl) rfl) .nil)))
theorem B33 (p0 r : List (Int × I2)) (hF : F33 p0 = some r) : TS Try.prog 1 1 c33 (st 19 [(0, sv 0 p0.length ANY)]) [ab 92 e92 p0] (NX Try.prog 1 1 [] (FinP Try.prog Try.f33 1 (V33 1 r) (N33 1 r))) := by
 unfold F33 at hF
 refine TS.sq (TS.rg (TI.ra 1 [0] (st 19 [(0, sv 0 p0.length ANY)]) (TI.dn (NX.sq (TS.sq (TS.rg (TI.ra 1 [0, 3] (st 19 [(0, sv 0 p0.length ANY), (3, .slice none 0 0)]) (TI.dn ?_))))))))
 refine NX.sq (TS.sq (TS.sq (TS.rg (TI.ra 1 [0, 3, 4] (st 19 [(0, sv 0 p0.length ANY), (3, .slice none 0 0), (4, iv 0)]) (TI.dn (NX.sq (TS.bk 0 ?_)))))))
 obtain ⟨r19, h20, hF⟩ := of_do hF
 refine TS.lp (TL.weak (a2 := (st 19 [(0, sv 0 p0.length ANY), (3, accV 1 (List.length ([]))), (4, iv 0)])) (h2 := [ab 92 e92 p0, accB 124 (List.length ([])) (List.flatMap e124 ([]))]) (Wk.an [1] (.ac (.cons At.accN (.nil _))) [sv 0 p0.length ANY, .slice none 0 0, iv 0] (.sl (.cons (Rn.accN) (.fl .nil)))) (TL.post (L33l0 p0 ([]) 0 r19 h20) ?_))
 rintro e a1 h1 hp
 obtain ⟨rfl, hw⟩ := hp
 refine ⟨(st 19 [(3, accV 1 r19.length)]), [ab 92 e92 p0, ab 124 e124 r19], (NX.bkX (NX.sq (TS.sq (TS.rg (TI.ra 2 [2] (st 19 [(2, accV 1 r19.length)]) (TI.dn (NX.sq (TS.rt ?_)))))))), hw⟩
 have hF := sj hF
 subst hF
 exact ⟨.inr rfl, rfl, accV 1 r19.length, by kernel_rfl, WkV.made (L := 1) (f := [1]) (by decide) (by decide) rfl (.ac (.nil _)) (Rn.acc (nl rfl) rfl)⟩
theorem C33 (p0 r : List (Int × I2)) (hF : F33 p0 = some r) : PureSim Try.prog 33 [sv 0 p0.length ANY] [ab 92 e92 p0] (V33 1 r) (N33 1 r) :=
 PureSim.of_Fin Try.func33 (c := c33) (by kernel_rfl) (by kernel_rfl) 1 rfl [0] [0] (by kernel_rfl) (B33 p0 r hF)
noncomputable def c91 : Code := Try.f91.code
def F91 (p0 p1 p2 : Int) : Option Bool :=
 (
  if decide (p0 ≥ p1) then
   some (decide (p0 ≤ p2))
  else
   some (false)
 : Option Bool) >>= fun m2 =>
 some m2
def V91 (b : Nat) (r : Bool) : Value := .bool r
def N91 (b : Nat) (r : Bool) : List Blk := []
theorem B91 (p0 p1 p2 : Int) (r : Bool) (hF : F91 p0 p1 p2 = some r) : TS Try.prog 0 0 c91 (st 15 [(0, iv p0), (1, iv p1), (2, iv p2)]) [] (NX Try.prog 0 0 [] (FinP Try.prog Try.f91 0 (V91 0 r) (N91 0 r))) := by
 unfold F91 at hF
 refine TS.sq (TS.rg (TI.ra 1 [0, 1, 2] (st 15 [(0, iv p0), (1, iv p1), (2, iv p2)]) (TI.dn (NX.sq (TS.sq ?_)))))
 obtain ⟨m2, hm3, hF⟩ := of_do hF
 have hK : NX Try.prog 0 0 [.sq c91.s2.s2] (FinP Try.prog Try.f91 0 (V91 0 r) (N91 0 r)) .normal (st 15 [(6, .bool m2)]) [] := by
  refine NX.sq (TS.rt ?_)
  have hF := sj hF
  subst hF
  exact ⟨.inr rfl, rfl, .bool m2, by kernel_rfl, WkV.flat0 (by kernel_rfl) (nl rfl)⟩
 rcases Bool.eq_false_or_eq_true (decide (p0 ≥ p1)) with hc1 | hc1
 · replace hm3 := of_pos hm3 hc1
   have hm3 := sj hm3
   subst hm3
   exact TS.rg (TI.ra 2 [0, 2, 7, 8] (st 15 [(0, iv p0), (2, iv p2), (7, iv p0), (8, iv p1)]) (TI.o { val := .bool true } (q_conv (e := decide (p0 ≥ p1)) (b := true) (by kernel_rfl) hc1) [0, 2, 9] [] (st 15 [(0, iv p0), (2, iv p2), (9, .bool true)]) [] (TI.ra 6 [6] (st 15 [(6, .bool (decide (p0 ≤ p2)))]) (TI.dn hK))))
 replace hm3 := of_neg hm3 hc1
 have hm3 := sj hm3
 subst hm3
 exact TS.rg (TI.ra 2 [0, 2, 7, 8] (st 15 [(0, iv p0), (2, iv p2), (7, iv p0), (8, iv p1)]) (TI.o { val := .bool false } (q_conv (e := decide (p0 ≥ p1)) (b := false) (by kernel_rfl) hc1) [0, 2, 9] [] (st 15 [(0, iv p0), (2, iv p2), (9, .bool false)]) [] (TI.ra 6 [6] (st 15 [(6, .bool false)]) (TI.dn hK))))
theorem C91 (p0 p1 p2 : Int) (r : Bool) (hF : F91 p0 p1 p2 = some r) : PureSim Try.prog 91 [iv p0, iv p1, iv p2] [] (V91 0 r) (N91 0 r) :=
 PureSim.of_Fin Try.func91 (c := c91) (by kernel_rfl) (by kernel_rfl) 0 rfl [0, 1, 2] [] (by kernel_rfl) (B91 p0 p1 p2 r hF)
noncomputable def c64 : Code := Try.f64.code
def F64 (p0 p1 p2 : Int) : Option Bool :=
 F91 p0 p1 p2 >>= fun r1 =>
 some r1
def V64 (b : Nat) (r : Bool) : Value := .bool r
def N64 (b : Nat) (r : Bool) : List Blk := []
theorem B64 (p0 p1 p2 : Int) (r : Bool) (hF : F64 p0 p1 p2 = some r) : TS Try.prog 0 0 c64 (st 11 [(0, iv p0), (1, iv p1), (2, iv p2)]) [] (NX Try.prog 0 0 [] (FinP Try.prog Try.f64 0 (V64 0 r) (N64 0 r))) := by
 unfold F64 at hF
 refine TS.sq (TS.rg (TI.ra 1 [0, 1, 2] (st 11 [(0, iv p0), (1, iv p1), (2, iv p2)]) (TI.dn (NX.sq (TS.sq ?_)))))
 obtain ⟨r1, h2, hF⟩ := of_do hF
 refine TS.rg (TI.ra 3 [7, 8, 9] (st 11 [(7, iv p0), (8, iv p1), (9, iv p2)]) (TI.cf (C91 _ _ _ _ h2) (TI.ra 1 [6] (st 11 [(6, .bool r1)]) (TI.dn (NX.sq (TS.rt ?_))))))
 have hF := sj hF
 subst hF
 exact ⟨.inr rfl, rfl, .bool r1, by kernel_rfl, WkV.flat0 (by kernel_rfl) (nl rfl)⟩
theorem C64 (p0 p1 p2 : Int) (r : Bool) (hF : F64 p0 p1 p2 = some r) : PureSim Try.prog 64 [iv p0, iv p1, iv p2] [] (V64 0 r) (N64 0 r) :=
 PureSim.of_Fin Try.func64 (c := c64) (by kernel_rfl) (by kernel_rfl) 0 rfl [0, 1, 2] [] (by kernel_rfl) (B64 p0 p1 p2 r hF)
noncomputable def c57 : Code := Try.f57.code
def F57 (p0 : Int) : Option Bool :=
 F64 p0 0 3599 >>= fun r1 =>
 some r1
def V57 (b : Nat) (r : Bool) : Value := .bool r
def N57 (b : Nat) (r : Bool) : List Blk := []
theorem B57 (p0 : Int) (r : Bool) (hF : F57 p0 = some r) : TS Try.prog 0 0 c57 (st 5 [(0, iv p0)]) [] (NX Try.prog 0 0 [] (FinP Try.prog Try.f57 0 (V57 0 r) (N57 0 r))) := by
 unfold F57 at hF
 refine TS.sq (TS.rg (TI.ra 1 [0] (st 5 [(0, iv p0)]) (TI.dn (NX.sq (TS.sq ?_)))))
 obtain ⟨r1, h2, hF⟩ := of_do hF
 refine TS.rg (TI.ra 1 [3] (st 5 [(3, iv p0)]) (TI.cf (C64 _ _ _ _ h2) (TI.ra 1 [2] (st 5 [(2, .bool r1)]) (TI.dn (NX.sq (TS.rt ?_))))))
 have hF := sj hF
 subst hF
 exact ⟨.inr rfl, rfl, .bool r1, by kernel_rfl, WkV.flat0 (by kernel_rfl) (nl rfl)⟩
theorem C57 (p0 : Int) (r : Bool) (hF : F57 p0 = some r) : PureSim Try.prog 57 [iv p0] [] (V57 0 r) (N57 0 r) :=
 PureSim.of_Fin Try.func57 (c := c57) (by kernel_rfl) (by kernel_rfl) 0 rfl [0] [] (by kernel_rfl) (B57 p0 r hF)
noncomputable def c84 : Code := Try.f84.code
def S84_0 (p0 : List (Int × I2)) (v15 : Int) : CAct := (st 74 [(0, sv 0 p0.length ANY), (3, iv v15), (4, pt 1 0), (22, sv 0 p0.length ANY), (23, iv v15)])
def S84_1 (p0 : List (Int × I2)) (v15 : Int) : CAct := (st 74 [(0, sv 0 p0.length ANY), (3, iv v15), (4, pt 1 0), (24, .pointer (some ⟨0, 0 + (Int.toNat v15) * 3, none⟩))])
def S84_2 (p0 : List (Int × I2)) (v15 : Int) : CAct := (st 74 [(0, sv 0 p0.length ANY), (3, iv v15), (4, pt 1 0), (25, .pointer (some ⟨0, 0 + (Int.toNat v15) * 3, none⟩))])
def S84_3 (p0 : List (Int × I2)) (v15 : Int) (r47 : Bool) : CAct := (st 74 [(0, sv 0 p0.length ANY), (3, iv v15), (4, pt 1 0), (27, .bool r47)])
def S84_4 (p0 : List (Int × I2)) (v15 : Int) (o45 : Int × I2) : CAct := (st 74 [(0, sv 0 p0.length ANY), (3, iv v15), (4, pt 1 0), (26, iv o45.1)])
def H84_5 (p0 : List (Int × I2)) (o45 : Int × I2) : List Blk := [ab 124 e124 p0, cl 90 [iv o45.2.1, iv o45.2.2]]
def F84l0 (p0 : List (Int × I2)) (v15 : Int) : Option (Int ⊕ Unit) :=
 if decide (v15 < (p0.length : Int)) then
  if (0 : Int) ≤ v15 ∧ v15 < (p0.length : Int) then
   some (List.getD p0 (Int.toNat v15) (0, (0, 0))) >>= fun o45 =>
   F57 o45.1 >>= fun r47 =>
   (
    if !r47 then
     some (true)
    else
     F64 o45.2.1 (-900) o45.2.2 >>= fun r50 =>
     if !r50 then
      some (true)
     else
      some (decide (o45.2.2 > 900))
   : Option Bool) >>= fun m53 =>
   if m53 then
    some (.inl 1)
   else
    (
     if decide (v15 > 0) then
      if (0 : Int) ≤ w64 (v15 - 1) ∧ w64 (v15 - 1) < (p0.length : Int) then
       some (List.getD p0 (Int.toNat (w64 (v15 - 1))) (0, (0, 0))) >>= fun o56 =>
       some (o45.1 == o56.1)
      else none
     else
      some (false)
    : Option Bool) >>= fun m58 =>
    if m58 then
     some (.inl 7)
    else
     (
      if decide (v15 > 0) then
       if (0 : Int) ≤ w64 (v15 - 1) ∧ w64 (v15 - 1) < (p0.length : Int) then
        some (List.getD p0 (Int.toNat (w64 (v15 - 1))) (0, (0, 0))) >>= fun o61 =>
        some (decide (o45.1 < o61.1))
       else none
      else
       some (false)
     : Option Bool) >>= fun m63 =>
     if m63 then
      some (.inl 5)
     else
      F84l0 p0 (w64 (v15 + 1))
  else none
 else
  some (.inr ())
 partial_fixpoint
def F84 (p0 : List (Int × I2)) : Option Int :=
 if (p0.length : Int) == 0 then
  some 2
 else
  if decide ((p0.length : Int) > 36) then
   some 3
  else
   F84l0 p0 0 >>= fun r67 =>
   match r67 with
   | .inl o69 =>
    some o69
   | .inr o70 =>
    some 0
def V84 (b : Nat) (r : Int) : Value := iv r
def N84 (b : Nat) (r : Int) : List Blk := []
def P84l0 (p0 : List (Int × I2)) (r : Int ⊕ Unit) : Post := fun e a h => (match r with | .inl q0 => e = .ret ∧ Wk Try.prog 1 1 a h (st 74 [(2, iv q0)]) [ab 124 e124 p0] | .inr q0 => e = .exit 0 ∧ Wk Try.prog 1 1 a h (st 74 []) [ab 124 e124 p0])
theorem L84l0 (p0 : List (Int × I2)) (v15 : Int) (r : Int ⊕ Unit) (hF : F84l0 p0 v15 = some r) : TL Try.prog 1 1 c84.s2.s2.s2.s1.s2.bd.bd (st 74 [(0, sv 0 p0.length ANY), (3, iv v15)]) [ab 124 e124 p0] (P84l0 p0 r) := by
 refine F84l0.partial_correctness p0 (motive := fun v15 r => TL Try.prog 1 1 c84.s2.s2.s2.s1.s2.bd.bd (st 74 [(0, sv 0 p0.length ANY), (3, iv v15)]) [ab 124 e124 p0] (P84l0 p0 r)) ?_ v15 r hF
 clear hF r v15
 intro again ih v15 r hF
 refine TL.round (TS.sq (TS.sq (TS.rg (TI.ra 4 [0, 3, 14] (st 74 [(0, sv 0 p0.length ANY), (3, iv v15), (14, .bool (decide (v15 < (p0.length : Int))))]) (TI.dn (NX.sq ?_))))))
 refine TS.cd (.tmp 14) (decide (v15 < (p0.length : Int))) (fun hc43 => ?_) (fun hc43 => ?_)
 · replace hF := of_pos hF hc43
   refine TS.sk (NX.sq (TS.sq (TS.bk 1 (TS.sq ?_))))
   obtain ⟨hg44, hF⟩ := of_guard hF
   obtain ⟨o45, h46, hF⟩ := of_do hF
   replace h46 := sj h46
   refine TS.rg (TI.ra 2 [0, 3, 17, 18] (st 74 [(0, sv 0 p0.length ANY), (3, iv v15), (17, sv 0 p0.length ANY), (18, iv v15)]) (TI.o { val := .pointer (some ⟨0, 0 + (Int.toNat v15) * 3, none⟩) } (q_ixS 0 0 ((Int.toNat v15) * 3) (by kernel_rfl) hg44) [0, 3, 19] [0] (st 74 [(0, sv 0 p0.length ANY), (3, iv v15), (19, .pointer (some ⟨0, 0 + (Int.toNat v15) * 3, none⟩))]) [ab 124 e124 p0] (TI.ra 1 [0, 3, 20] (st 74 [(0, sv 0 p0.length ANY), (3, iv v15), (20, .pointer (some ⟨0, 0 + (Int.toNat v15) * 3 + 1, none⟩))]) ?_)))
   refine TI.o { val := ag [iv o45.2.1, iv o45.2.2] } (q_eqv (q_ldPW (P := Try.prog) (hp := [ab 124 e124 p0]) (t := 90) (b := 0) (o := 0 + (Int.toNat v15) * 3 + 1) (off := 0) (L := p0) (ys := p0) (enc := e124) (s := 3) (T := 124) (i := Int.toNat v15) (k := 1) (m := 2) win_all (holds_acc (hp := [ab 124 e124 p0]) (b := 0) (T := 124) (enc := e124) (L := p0) (by kernel_rfl)) (by kernel_rfl) (by kernel_rfl) (by kernel_rfl) (fun _ => rfl) rfl (by decide) (by first | omega | (simp <;> omega)) (0, (0, 0))) (congrArg (fun (z : (Int × I2)) => ({ val := ag [iv z.2.1, iv z.2.2] } : QRes)) h46)) [0, 3, 21] [0] (st 74 [(0, sv 0 p0.length ANY), (3, iv v15), (21, ag [iv o45.2.1, iv o45.2.2])]) [ab 124 e124 p0] (TI.rn 2 [0, 3, 4] [0, 1] (st 74 [(0, sv 0 p0.length ANY), (3, iv v15), (4, pt 1 0)]) (H84_5 p0 o45) (TI.dn (NX.sq (TS.sq (TS.sq ?_)))))
   obtain ⟨r47, h48, hF⟩ := of_do hF
   obtain ⟨m53, hm66, hF⟩ := of_do hF
   have hK : NX Try.prog 1 1 [.sq c84.s2.s2.s2.s1.s2.bd.bd.s2.s1.bd.s2.s1.s2, .sq c84.s2.s2.s2.s1.s2.bd.bd.s2.s1.bd.s2.s2, .bk 1, .sq c84.s2.s2.s2.s1.s2.bd.bd.s2.s2] (Rd Try.prog 1 1 c84.s2.s2.s2.s1.s2.bd.bd (P84l0 p0 r)) .normal (st 74 [(0, sv 0 p0.length ANY), (3, iv v15), (41, .bool m53)]) [ab 124 e124 p0, .dead] := by
    refine NX.sq ?_
    cases m53 with
    | true =>
     replace hF := of_pos hF rfl
     refine TS.cdT (.tmp 41) (TS.sq (TS.rg (TI.ra 1 [2] (st 74 [(2, iv 1)]) (TI.dn (NX.sq (TS.rt (NX.sqR (NX.bkR ?_))))))))
     refine NX.sqR ?_
     have hF := sj hF
     subst hF
     exact Rd.out (e := .ret) (by intro h; cases h) (And.intro rfl (Wk.an [] (.ac (.nil _)) [iv 1] (.fl .nil)))
    | false =>
     replace hF := of_neg hF rfl
     refine TS.cdF (.tmp 41) (TS.sk (NX.sq (TS.sq (TS.sq ?_))))
     obtain ⟨m58, hm65, hF⟩ := of_do hF
     have hK : NX Try.prog 1 1 [.sq c84.s2.s2.s2.s1.s2.bd.bd.s2.s1.bd.s2.s2.s1.s2, .sq c84.s2.s2.s2.s1.s2.bd.bd.s2.s1.bd.s2.s2.s2, .bk 1, .sq c84.s2.s2.s2.s1.s2.bd.bd.s2.s2] (Rd Try.prog 1 1 c84.s2.s2.s2.s1.s2.bd.bd (P84l0 p0 r)) .normal (st 74 [(0, sv 0 p0.length ANY), (3, iv v15), (57, .bool m58)]) [ab 124 e124 p0, .dead] := by
      refine NX.sq ?_
      cases m58 with
      | true =>
       replace hF := of_pos hF rfl
       refine TS.cdT (.tmp 57) (TS.sq (TS.rg (TI.ra 1 [2] (st 74 [(2, iv 7)]) (TI.dn (NX.sq (TS.rt (NX.sqR (NX.bkR ?_))))))))
       refine NX.sqR ?_
       have hF := sj hF
       subst hF
       exact Rd.out (e := .ret) (by intro h; cases h) (And.intro rfl (Wk.an [] (.ac (.nil _)) [iv 7] (.fl .nil)))
      | false =>
       replace hF := of_neg hF rfl
       refine TS.cdF (.tmp 57) (TS.sk (NX.sq (TS.sq ?_)))
       obtain ⟨m63, hm64, hF⟩ := of_do hF
       have hK : NX Try.prog 1 1 [.sq c84.s2.s2.s2.s1.s2.bd.bd.s2.s1.bd.s2.s2.s2.s2, .bk 1, .sq c84.s2.s2.s2.s1.s2.bd.bd.s2.s2] (Rd Try.prog 1 1 c84.s2.s2.s2.s1.s2.bd.bd (P84l0 p0 r)) .normal (st 74 [(0, sv 0 p0.length ANY), (3, iv v15), (73, .bool m63)]) [ab 124 e124 p0, .dead] := by
        refine NX.sq ?_
        cases m63 with
        | true =>
         replace hF := of_pos hF rfl
         refine TS.cdT (.tmp 73) (TS.sq (TS.rg (TI.ra 1 [2] (st 74 [(2, iv 5)]) (TI.dn (NX.sq (TS.rt (NX.bkR (NX.sqR ?_))))))))
         have hF := sj hF
         subst hF
         exact Rd.out (e := .ret) (by intro h; cases h) (And.intro rfl (Wk.an [] (.ac (.nil _)) [iv 5] (.fl .nil)))
        | false =>
         replace hF := of_neg hF rfl
         refine TS.cdF (.tmp 73) (TS.sk (NX.bk (NX.sq (TS.rg (TI.ra 3 [0, 3] (st 74 [(0, sv 0 p0.length ANY), (3, iv (w64 (v15 + 1)))]) (TI.dn ?_))))))
         exact Rd.again (a2 := (st 74 [(0, sv 0 p0.length ANY), (3, iv (w64 (v15 + 1)))])) (h2 := [ab 124 e124 p0]) (Wk.an [] (.ac (.nil _)) [sv 0 p0.length ANY, iv (w64 (v15 + 1))] (.sl (.fl .nil))) (ih (w64 (v15 + 1)) _ hF)
       rcases Bool.eq_false_or_eq_true (decide (v15 > 0)) with hc59 | hc59
       · replace hm64 := of_pos hm64 hc59
         have hX := of_guard hm64
         clear hm64
         obtain ⟨hg60, hm64⟩ := hX
         have hX := of_do hm64
         clear hm64
         obtain ⟨o61, h62, hm64⟩ := hX
         replace h62 := sj h62
         have hm64 := sj hm64
         subst hm64
         refine TS.dp [] (fun e he => by cases he) mixed 14 [0, 3, 73] [0] (st 74 [(0, sv 0 p0.length ANY), (3, iv v15), (73, .bool (decide (o45.1 < o61.1)))]) [ab 124 e124 p0, .dead] ?_ ?_
         · refine QJ.rn (qs (st 74 [(0, sv 0 p0.length ANY), (3, iv v15), (57, .bool false), (58, iv v15)]) [ab 124 e124 p0, .dead] [] []) 1 (QJ.o { val := .bool true } (q_conv (e := decide (v15 > 0)) (b := true) (by kernel_rfl) hc59) (QJ.rn (qs (st 74 [(0, sv 0 p0.length ANY), (3, iv v15), (57, .bool false), (58, iv v15), (59, .bool true), (60, .bool true), (61, sv 0 p0.length ANY), (62, iv v15)]) [ab 124 e124 p0, .dead] [] []) 3 (QJ.o { val := .pointer (some ⟨0, 0 + (Int.toNat v15) * 3, none⟩) } (q_ixS 0 0 ((Int.toNat v15) * 3) (by kernel_rfl) hg44) (QJ.rn (qs (st 74 [(0, sv 0 p0.length ANY), (3, iv v15), (57, .bool false), (58, iv v15), (59, .bool true), (60, .bool true), (61, sv 0 p0.length ANY), (62, iv v15), (63, .pointer (some ⟨0, 0 + (Int.toNat v15) * 3, none⟩)), (64, .pointer (some ⟨0, 0 + (Int.toNat v15) * 3, none⟩))]) [ab 124 e124 p0, .dead] [] []) 1 (QJ.o { val := iv o45.1 } (q_n1a Try.prog [ab 124 e124 p0, .dead] 3 0 (0 + (Int.toNat v15) * 3) p0 e124 3 124 (Int.toNat v15) 0 (0, (0, 0)) h46) (QJ.rn (qs (st 74 [(0, sv 0 p0.length ANY), (3, iv v15), (57, .bool false), (58, iv v15), (59, .bool true), (60, .bool true), (61, sv 0 p0.length ANY), (62, iv v15), (63, .pointer (some ⟨0, 0 + (Int.toNat v15) * 3, none⟩)), (64, .pointer (some ⟨0, 0 + (Int.toNat v15) * 3, none⟩)), (65, iv o45.1), (66, sv 0 p0.length ANY), (67, iv v15), (68, iv (w64 (v15 - 1)))]) [ab 124 e124 p0, .dead] [] []) 3 (QJ.o { val := .pointer (some ⟨0, 0 + (Int.toNat (w64 (v15 - 1))) * 3, none⟩) } (q_ixS 0 0 ((Int.toNat (w64 (v15 - 1))) * 3) (by kernel_rfl) hg60) (QJ.rn (qs (st 74 [(0, sv 0 p0.length ANY), (3, iv v15), (57, .bool false), (58, iv v15), (59, .bool true), (60, .bool true), (61, sv 0 p0.length ANY), (62, iv v15), (63, .pointer (some ⟨0, 0 + (Int.toNat v15) * 3, none⟩)), (64, .pointer (some ⟨0, 0 + (Int.toNat v15) * 3, none⟩)), (65, iv o45.1), (66, sv 0 p0.length ANY), (67, iv v15), (68, iv (w64 (v15 - 1))), (69, .pointer (some ⟨0, 0 + (Int.toNat (w64 (v15 - 1))) * 3, none⟩)), (70, .pointer (some ⟨0, 0 + (Int.toNat (w64 (v15 - 1))) * 3, none⟩))]) [ab 124 e124 p0, .dead] [] []) 1 ?_))))))))
           exact QJ.o { val := iv o61.1 } (q_n1a Try.prog [ab 124 e124 p0, .dead] 3 0 (0 + (Int.toNat (w64 (v15 - 1))) * 3) p0 e124 3 124 (Int.toNat (w64 (v15 - 1))) 0 (0, (0, 0)) h62) (QJ.dn ⟨rfl, SJ.la⟩)
         exact hK
       replace hm64 := of_neg hm64 hc59
       have hm64 := sj hm64
       subst hm64
       refine TS.dp [] (fun e he => by cases he) mixed 14 [0, 3, 73] [0] (st 74 [(0, sv 0 p0.length ANY), (3, iv v15), (73, .bool false)]) [ab 124 e124 p0, .dead] ?_ ?_
       · exact QJ.rn (qs (st 74 [(0, sv 0 p0.length ANY), (3, iv v15), (57, .bool false), (58, iv v15)]) [ab 124 e124 p0, .dead] [] []) 1 (QJ.o { val := .bool false } (q_conv (e := decide (v15 > 0)) (b := false) (by kernel_rfl) hc59) (QJ.rn (qs (st 74 [(0, sv 0 p0.length ANY), (3, iv v15), (57, .bool false), (58, iv v15), (59, .bool false), (60, .bool false), (61, undef), (62, undef), (63, undef), (64, undef), (65, undef), (66, undef), (67, undef), (68, undef), (69, undef), (70, undef), (71, undef)]) [ab 124 e124 p0, .dead] [] []) 12 (QJ.dn ⟨rfl, SJ.la⟩)))
       exact hK
     rcases Bool.eq_false_or_eq_true (decide (v15 > 0)) with hc54 | hc54
     · replace hm65 := of_pos hm65 hc54
       have hX := of_guard hm65
       clear hm65
       obtain ⟨hg55, hm65⟩ := hX
       have hX := of_do hm65
       clear hm65
       obtain ⟨o56, h57, hm65⟩ := hX
       replace h57 := sj h57
       have hm65 := sj hm65
       subst hm65
       refine TS.dp [] (fun e he => by cases he) mixed 14 [0, 3, 57] [0] (st 74 [(0, sv 0 p0.length ANY), (3, iv v15), (57, .bool (o45.1 == o56.1))]) [ab 124 e124 p0, .dead] ?_ ?_
       · refine QJ.rn (qs (st 74 [(0, sv 0 p0.length ANY), (3, iv v15), (41, .bool false), (42, iv v15)]) [ab 124 e124 p0, .dead] [] []) 1 (QJ.o { val := .bool true } (q_conv (e := decide (v15 > 0)) (b := true) (by kernel_rfl) hc54) (QJ.rn (qs (st 74 [(0, sv 0 p0.length ANY), (3, iv v15), (41, .bool false), (42, iv v15), (43, .bool true), (44, .bool true), (45, sv 0 p0.length ANY), (46, iv v15)]) [ab 124 e124 p0, .dead] [] []) 3 (QJ.o { val := .pointer (some ⟨0, 0 + (Int.toNat v15) * 3, none⟩) } (q_ixS 0 0 ((Int.toNat v15) * 3) (by kernel_rfl) hg44) (QJ.rn (qs (st 74 [(0, sv 0 p0.length ANY), (3, iv v15), (41, .bool false), (42, iv v15), (43, .bool true), (44, .bool true), (45, sv 0 p0.length ANY), (46, iv v15), (47, .pointer (some ⟨0, 0 + (Int.toNat v15) * 3, none⟩)), (48, .pointer (some ⟨0, 0 + (Int.toNat v15) * 3, none⟩))]) [ab 124 e124 p0, .dead] [] []) 1 (QJ.o { val := iv o45.1 } (q_n1a Try.prog [ab 124 e124 p0, .dead] 3 0 (0 + (Int.toNat v15) * 3) p0 e124 3 124 (Int.toNat v15) 0 (0, (0, 0)) h46) (QJ.rn (qs (st 74 [(0, sv 0 p0.length ANY), (3, iv v15), (41, .bool false), (42, iv v15), (43, .bool true), (44, .bool true), (45, sv 0 p0.length ANY), (46, iv v15), (47, .pointer (some ⟨0, 0 + (Int.toNat v15) * 3, none⟩)), (48, .pointer (some ⟨0, 0 + (Int.toNat v15) * 3, none⟩)), (49, iv o45.1), (50, sv 0 p0.length ANY), (51, iv v15), (52, iv (w64 (v15 - 1)))]) [ab 124 e124 p0, .dead] [] []) 3 (QJ.o { val := .pointer (some ⟨0, 0 + (Int.toNat (w64 (v15 - 1))) * 3, none⟩) } (q_ixS 0 0 ((Int.toNat (w64 (v15 - 1))) * 3) (by kernel_rfl) hg55) (QJ.rn (qs (st 74 [(0, sv 0 p0.length ANY), (3, iv v15), (41, .bool false), (42, iv v15), (43, .bool true), (44, .bool true), (45, sv 0 p0.length ANY), (46, iv v15), (47, .pointer (some ⟨0, 0 + (Int.toNat v15) * 3, none⟩)), (48, .pointer (some ⟨0, 0 + (Int.toNat v15) * 3, none⟩)), (49, iv o45.1), (50, sv 0 p0.length ANY), (51, iv v15), (52, iv (w64 (v15 - 1))), (53, .pointer (some ⟨0, 0 + (Int.toNat (w64 (v15 - 1))) * 3, none⟩)), (54, .pointer (some ⟨0, 0 + (Int.toNat (w64 (v15 - 1))) * 3, none⟩))]) [ab 124 e124 p0, .dead] [] []) 1 ?_))))))))
         exact QJ.o { val := iv o56.1 } (q_n1a Try.prog [ab 124 e124 p0, .dead] 3 0 (0 + (Int.toNat (w64 (v15 - 1))) * 3) p0 e124 3 124 (Int.toNat (w64 (v15 - 1))) 0 (0, (0, 0)) h57) (QJ.dn ⟨rfl, SJ.la⟩)
       exact hK
     replace hm65 := of_neg hm65 hc54
     have hm65 := sj hm65
     subst hm65
     refine TS.dp [] (fun e he => by cases he) mixed 14 [0, 3, 57] [0] (st 74 [(0, sv 0 p0.length ANY), (3, iv v15), (57, .bool false)]) [ab 124 e124 p0, .dead] ?_ ?_
     · exact QJ.rn (qs (st 74 [(0, sv 0 p0.length ANY), (3, iv v15), (41, .bool false), (42, iv v15)]) [ab 124 e124 p0, .dead] [] []) 1 (QJ.o { val := .bool false } (q_conv (e := decide (v15 > 0)) (b := false) (by kernel_rfl) hc54) (QJ.rn (qs (st 74 [(0, sv 0 p0.length ANY), (3, iv v15), (41, .bool false), (42, iv v15), (43, .bool false), (44, .bool false), (45, undef), (46, undef), (47, undef), (48, undef), (49, undef), (50, undef), (51, undef), (52, undef), (53, undef), (54, undef), (55, undef)]) [ab 124 e124 p0, .dead] [] []) 12 (QJ.dn ⟨rfl, SJ.la⟩)))
     exact hK
   rcases Bool.eq_false_or_eq_true (!r47) with hc49 | hc49
   · replace hm66 := of_pos hm66 hc49
     have hm66 := sj hm66
     subst hm66
     refine TS.rg (TI.ra 2 [0, 3, 4, 22, 23] (S84_0 p0 v15) (TI.o { val := .pointer (some ⟨0, 0 + (Int.toNat v15) * 3, none⟩) } (q_ixS 0 0 ((Int.toNat v15) * 3) (by kernel_rfl) hg44) [0, 3, 4, 24] [0, 1] (S84_1 p0 v15) (H84_5 p0 o45) (TI.ra 1 [0, 3, 4, 25] (S84_2 p0 v15) (TI.o { val := iv o45.1 } (q_n1a Try.prog (H84_5 p0 o45) 3 0 (0 + (Int.toNat v15) * 3) p0 e124 3 124 (Int.toNat v15) 0 (0, (0, 0)) h46) [0, 3, 4, 26] [0, 1] (S84_4 p0 v15 o45) (H84_5 p0 o45) (TI.cm (PureSim.ak (C57 _ _ h48)) [0, 3, 4, 27] [0, 1] (S84_3 p0 v15 r47) (H84_5 p0 o45) (TI.o { val := .bool true } (q_conv (e := !r47) (b := true) (by kernel_rfl) hc49) [0, 3, 4, 28] [0, 1] (st 74 [(0, sv 0 p0.length ANY), (3, iv v15), (4, pt 1 0), (28, .bool true)]) (H84_5 p0 o45) (TI.rn 13 [0, 3, 41] [0] (st 74 [(0, sv 0 p0.length ANY), (3, iv v15), (41, .bool true)]) [ab 124 e124 p0, .dead] (TI.dn ?_))))))))
     exact hK
   replace hm66 := of_neg hm66 hc49
   have hX := of_do hm66
   clear hm66
   obtain ⟨r50, h51, hm66⟩ := hX
   rcases Bool.eq_false_or_eq_true (!r50) with hc52 | hc52
   · replace hm66 := of_pos hm66 hc52
     have hm66 := sj hm66
     subst hm66
     refine TS.rg (TI.ra 2 [0, 3, 4, 22, 23] (S84_0 p0 v15) (TI.o { val := .pointer (some ⟨0, 0 + (Int.toNat v15) * 3, none⟩) } (q_ixS 0 0 ((Int.toNat v15) * 3) (by kernel_rfl) hg44) [0, 3, 4, 24] [0, 1] (S84_1 p0 v15) (H84_5 p0 o45) (TI.ra 1 [0, 3, 4, 25] (S84_2 p0 v15) (TI.o { val := iv o45.1 } (q_n1a Try.prog (H84_5 p0 o45) 3 0 (0 + (Int.toNat v15) * 3) p0 e124 3 124 (Int.toNat v15) 0 (0, (0, 0)) h46) [0, 3, 4, 26] [0, 1] (S84_4 p0 v15 o45) (H84_5 p0 o45) (TI.cm (PureSim.ak (C57 _ _ h48)) [0, 3, 4, 27] [0, 1] (S84_3 p0 v15 r47) (H84_5 p0 o45) (TI.o { val := .bool false } (q_conv (e := !r47) (b := false) (by kernel_rfl) hc49) [0, 3, 4, 28] [0, 1] (st 74 [(0, sv 0 p0.length ANY), (3, iv v15), (4, pt 1 0), (28, .bool false)]) (H84_5 p0 o45) (TI.ra 5 [0, 3, 4, 29, 31, 33] (st 74 [(0, sv 0 p0.length ANY), (3, iv v15), (4, pt 1 0), (29, .bool false), (31, iv o45.2.1), (33, iv o45.2.2)]) (TI.cm (PureSim.ak (C64 _ _ _ _ h51)) [0, 3, 4, 29, 34] [0, 1] (st 74 [(0, sv 0 p0.length ANY), (3, iv v15), (4, pt 1 0), (29, .bool false), (34, .bool r50)]) (H84_5 p0 o45) ?_))))))))
     exact TI.o { val := .bool true } (q_conv (e := !r50) (b := true) (by kernel_rfl) hc52) [0, 3, 4, 29, 35] [0, 1] (st 74 [(0, sv 0 p0.length ANY), (3, iv v15), (4, pt 1 0), (29, .bool false), (35, .bool true)]) (H84_5 p0 o45) (TI.rn 6 [0, 3, 41] [0] (st 74 [(0, sv 0 p0.length ANY), (3, iv v15), (41, .bool true)]) [ab 124 e124 p0, .dead] (TI.dn hK))
   replace hm66 := of_neg hm66 hc52
   have hm66 := sj hm66
   subst hm66
   refine TS.rg (TI.ra 2 [0, 3, 4, 22, 23] (S84_0 p0 v15) (TI.o { val := .pointer (some ⟨0, 0 + (Int.toNat v15) * 3, none⟩) } (q_ixS 0 0 ((Int.toNat v15) * 3) (by kernel_rfl) hg44) [0, 3, 4, 24] [0, 1] (S84_1 p0 v15) (H84_5 p0 o45) (TI.ra 1 [0, 3, 4, 25] (S84_2 p0 v15) (TI.o { val := iv o45.1 } (q_n1a Try.prog (H84_5 p0 o45) 3 0 (0 + (Int.toNat v15) * 3) p0 e124 3 124 (Int.toNat v15) 0 (0, (0, 0)) h46) [0, 3, 4, 26] [0, 1] (S84_4 p0 v15 o45) (H84_5 p0 o45) (TI.cm (PureSim.ak (C57 _ _ h48)) [0, 3, 4, 27] [0, 1] (S84_3 p0 v15 r47) (H84_5 p0 o45) (TI.o { val := .bool false } (q_conv (e := !r47) (b := false) (by kernel_rfl) hc49) [0, 3, 4, 28] [0, 1] (st 74 [(0, sv 0 p0.length ANY), (3, iv v15), (4, pt 1 0), (28, .bool false)]) (H84_5 p0 o45) (TI.ra 5 [0, 3, 4, 29, 31, 33] (st 74 [(0, sv 0 p0.length ANY), (3, iv v15), (4, pt 1 0), (29, .bool false), (31, iv o45.2.1), (33, iv o45.2.2)]) (TI.cm (PureSim.ak (C64 _ _ _ _ h51)) [0, 3, 4, 29, 34] [0, 1] (st 74 [(0, sv 0 p0.length ANY), (3, iv v15), (4, pt 1 0), (29, .bool false), (34, .bool r50)]) (H84_5 p0 o45) ?_))))))))
   exact TI.o { val := .bool false } (q_conv (e := !r50) (b := false) (by kernel_rfl) hc52) [0, 3, 4, 29, 35] [0, 1] (st 74 [(0, sv 0 p0.length ANY), (3, iv v15), (4, pt 1 0), (29, .bool false), (35, .bool false)]) (H84_5 p0 o45) (TI.rn 6 [0, 3, 41] [0] (st 74 [(0, sv 0 p0.length ANY), (3, iv v15), (41, .bool (decide (o45.2.2 > 900)))]) [ab 124 e124 p0, .dead] (TI.dn hK))
 replace hF := of_neg hF hc43
 refine TS.ex 0 (NX.sqX ?_)
 have hF := sj hF
 subst hF
 exact Rd.out (e := .exit 0) (by intro h; cases h) (And.intro rfl (Wk.an [] (.ac (.nil _)) [] .nil))
theorem B84 (p0 : List (Int × I2)) (r : Int) (hF : F84 p0 = some r) : TS Try.prog 1 1 c84 (st 74 [(0, sv 0 p0.length ANY)]) [ab 124 e124 p0] (NX Try.prog 1 1 [] (FinP Try.prog Try.f84 1 (V84 1 r) (N84 1 r))) := by
 unfold F84 at hF
 refine TS.sq (TS.rg (TI.ra 1 [0] (st 74 [(0, sv 0 p0.length ANY)]) (TI.dn (NX.sq (TS.sq (TS.sq (TS.rg (TI.ra 3 [0, 7] (st 74 [(0, sv 0 p0.length ANY), (7, .bool ((p0.length : Int) == 0))]) ?_))))))))
 refine TI.dn (NX.sq ?_)
 refine TS.cd (.tmp 7) ((p0.length : Int) == 0) (fun hc1 => ?_) (fun hc1 => ?_)
 · replace hF := of_pos hF hc1
   refine TS.sq (TS.rg (TI.ra 1 [2] (st 74 [(2, iv 2)]) (TI.dn (NX.sq (TS.rt (NX.sqR ?_))))))
   have hF := sj hF
   subst hF
   exact ⟨.inr rfl, rfl, iv 2, by kernel_rfl, WkV.flat0 (by kernel_rfl) (nl rfl)⟩
 replace hF := of_neg hF hc1
 refine TS.sk (NX.sq (TS.sq (TS.sq (TS.rg (TI.ra 3 [0, 10] (st 74 [(0, sv 0 p0.length ANY), (10, .bool (decide ((p0.length : Int) > 36)))]) (TI.dn (NX.sq ?_)))))))
 refine TS.cd (.tmp 10) (decide ((p0.length : Int) > 36)) (fun hc2 => ?_) (fun hc2 => ?_)
 · replace hF := of_pos hF hc2
   refine TS.sq (TS.rg (TI.ra 1 [2] (st 74 [(2, iv 3)]) (TI.dn (NX.sq (TS.rt (NX.sqR ?_))))))
   have hF := sj hF
   subst hF
   exact ⟨.inr rfl, rfl, iv 3, by kernel_rfl, WkV.flat0 (by kernel_rfl) (nl rfl)⟩
 replace hF := of_neg hF hc2
 refine TS.sk (NX.sq (TS.sq (TS.sq (TS.rg (TI.ra 1 [0, 3] (st 74 [(0, sv 0 p0.length ANY), (3, iv 0)]) (TI.dn (NX.sq (TS.bk 0 ?_))))))))
 obtain ⟨r67, h68, hF⟩ := of_do hF
 refine TS.lp (TL.weak (a2 := (st 74 [(0, sv 0 p0.length ANY), (3, iv 0)])) (h2 := [ab 124 e124 p0]) (Wk.an [] (.ac (.nil _)) [sv 0 p0.length ANY, iv 0] (.sl (.fl .nil))) (TL.post (L84l0 p0 0 r67 h68) ?_))
 rintro e a1 h1 hp
 rcases r67 with o69 | o70
 · skip
   obtain ⟨rfl, hw⟩ := hp
   refine ⟨(st 74 [(2, iv o69)]), [ab 124 e124 p0], (NX.bkR (NX.sqR ?_)), hw⟩
   have hF := sj hF
   subst hF
   exact ⟨.inr rfl, rfl, iv o69, by kernel_rfl, WkV.flat0 (by kernel_rfl) (nl rfl)⟩
 skip
 obtain ⟨rfl, hw⟩ := hp
 refine ⟨(st 74 []), [ab 124 e124 p0], (NX.bkX (NX.sq (TS.sq (TS.rg (TI.ra 1 [2] (st 74 [(2, iv 0)]) (TI.dn (NX.sq (TS.rt ?_)))))))), hw⟩
 have hF := sj hF
 subst hF
 exact ⟨.inr rfl, rfl, iv 0, by kernel_rfl, WkV.flat0 (by kernel_rfl) (nl rfl)⟩
theorem C84 (p0 : List (Int × I2)) (r : Int) (hF : F84 p0 = some r) : PureSim Try.prog 84 [sv 0 p0.length ANY] [ab 124 e124 p0] (V84 1 r) (N84 1 r) :=
 PureSim.of_Fin Try.func84 (c := c84) (by kernel_rfl) (by kernel_rfl) 1 rfl [0] [0] (by kernel_rfl) (B84 p0 r hF)
noncomputable def c86 : Code := Try.f86.code
def H86_0 (p0 : List (Int × I2)) (v7 : List I2) (o18 : Int × I2) : List Blk := [ab 124 e124 p0, ab 54 e54 v7, cl 54 [iv o18.1, iv o18.2.1]]
def H86_1 (p0 : List (Int × I2)) (v7 : List I2) : List Blk := [ab 124 e124 p0, ab 54 e54 v7]
def F86l0 (p0 : List (Int × I2)) (v5 : Bool) (v7 : List I2) (v6 : Int) : Option (List I2) :=
 if decide (v6 < (p0.length : Int)) then
  if (0 : Int) ≤ v6 ∧ v6 < (p0.length : Int) then
   some (List.getD p0 (Int.toNat v6) (0, (0, 0))) >>= fun o18 =>
   (
    if v5 then
     some (true, o18.2.2)
    else
     some (false, o18.2.1)
   : Option (Bool × Int)) >>= fun m24 =>
   if List.length v7 ≤ 1000000000 then
    F86l0 p0 m24.1 (v7 ++ [(o18.1, m24.2)]) (w64 (v6 + 1))
   else none
  else none
 else
  some v7
 partial_fixpoint
def F86 (p0 : List (Int × I2)) (p1 : Bool) : Option (List I2) :=
 F86l0 p0 p1 ([]) 0 >>= fun r27 =>
 some r27
def V86 (b : Nat) (r : List I2) : Value := accV (b + 0) r.length
def N86 (b : Nat) (r : List I2) : List Blk := [ab 54 e54 r]
def P86l0 (p0 : List (Int × I2)) (r : List I2) : Post := fun e a h => e = .exit 0 ∧ Wk Try.prog 1 1 a h (st 39 [(5, accV 1 r.length)]) [ab 124 e124 p0, ab 54 e54 r]
theorem L86l0 (p0 : List (Int × I2)) (v5 : Bool) (v7 : List I2) (v6 : Int) (r : List I2) (hF : F86l0 p0 v5 v7 v6 = some r) : TL Try.prog 1 1 c86.s2.s2.s1.s2.bd.bd (st 39 [(0, sv 0 p0.length ANY), (1, .bool v5), (5, accV 1 v7.length), (6, iv v6)]) (H86_1 p0 v7) (P86l0 p0 r) := by
 refine F86l0.partial_correctness p0 (motive := fun v5 v7 v6 r => TL Try.prog 1 1 c86.s2.s2.s1.s2.bd.bd (st 39 [(0, sv 0 p0.length ANY), (1, .bool v5), (5, accV 1 v7.length), (6, iv v6)]) (H86_1 p0 v7) (P86l0 p0 r)) ?_ v5 v7 v6 r hF
 clear hF r v5 v7 v6
 intro again ih v5 v7 v6 r hF
 refine TL.round (TS.sq (TS.sq (TS.rg (TI.ra 4 [0, 1, 5, 6, 11] (st 39 [(0, sv 0 p0.length ANY), (1, .bool v5), (5, accV 1 v7.length), (6, iv v6), (11, .bool (decide (v6 < (p0.length : Int))))]) (TI.dn (NX.sq ?_))))))
 refine TS.cd (.tmp 11) (decide (v6 < (p0.length : Int))) (fun hc16 => ?_) (fun hc16 => ?_)
 · replace hF := of_pos hF hc16
   refine TS.sk (NX.sq (TS.sq (TS.bk 1 (TS.sq ?_))))
   obtain ⟨hg17, hF⟩ := of_guard hF
   obtain ⟨o18, h19, hF⟩ := of_do hF
   replace h19 := sj h19
   refine TS.dp [] (fun e he => by cases he) mixed 13 [0, 1, 5, 6, 7] [0, 1, 2] (st 39 [(0, sv 0 p0.length ANY), (1, .bool v5), (5, accV 1 v7.length), (6, iv v6), (7, pt 2 0)]) (H86_0 p0 v7 o18) ?_ ?_
   · refine QJ.rn (qs (st 39 [(0, sv 0 p0.length ANY), (1, .bool v5), (5, accV 1 v7.length), (6, iv v6), (11, .bool (decide (v6 < (p0.length : Int)))), (14, sv 0 p0.length ANY), (15, iv v6)]) (H86_1 p0 v7) [] []) 2 (QJ.o { val := .pointer (some ⟨0, 0 + (Int.toNat v6) * 3, none⟩) } (q_ixS 0 0 ((Int.toNat v6) * 3) (by kernel_rfl) hg17) (QJ.rn (qs (st 39 [(0, sv 0 p0.length ANY), (1, .bool v5), (5, accV 1 v7.length), (6, iv v6), (11, .bool (decide (v6 < (p0.length : Int)))), (14, sv 0 p0.length ANY), (15, iv v6), (16, .pointer (some ⟨0, 0 + (Int.toNat v6) * 3, none⟩)), (17, .pointer (some ⟨0, 0 + (Int.toNat v6) * 3, none⟩))]) (H86_1 p0 v7) [] []) 1 (QJ.o { val := iv o18.1 } (q_n1a Try.prog (H86_1 p0 v7) 3 0 (0 + (Int.toNat v6) * 3) p0 e124 3 124 (Int.toNat v6) 0 (0, (0, 0)) h19) (QJ.rn (qs (st 39 [(0, sv 0 p0.length ANY), (1, .bool v5), (5, accV 1 v7.length), (6, iv v6), (11, .bool (decide (v6 < (p0.length : Int)))), (14, sv 0 p0.length ANY), (15, iv v6), (16, .pointer (some ⟨0, 0 + (Int.toNat v6) * 3, none⟩)), (17, .pointer (some ⟨0, 0 + (Int.toNat v6) * 3, none⟩)), (18, iv o18.1), (19, sv 0 p0.length ANY), (20, iv v6)]) (H86_1 p0 v7) [] []) 2 (QJ.o { val := .pointer (some ⟨0, 0 + (Int.toNat v6) * 3, none⟩) } (q_ixS 0 0 ((Int.toNat v6) * 3) (by kernel_rfl) hg17) (QJ.rn (qs (st 39 [(0, sv 0 p0.length ANY), (1, .bool v5), (5, accV 1 v7.length), (6, iv v6), (11, .bool (decide (v6 < (p0.length : Int)))), (14, sv 0 p0.length ANY), (15, iv v6), (16, .pointer (some ⟨0, 0 + (Int.toNat v6) * 3, none⟩)), (17, .pointer (some ⟨0, 0 + (Int.toNat v6) * 3, none⟩)), (18, iv o18.1), (19, sv 0 p0.length ANY), (20, iv v6), (21, .pointer (some ⟨0, 0 + (Int.toNat v6) * 3, none⟩)), (22, .pointer (some ⟨0, 0 + (Int.toNat v6) * 3 + 1, none⟩)), (23, .pointer (some ⟨0, 0 + (Int.toNat v6) * 3 + 1, none⟩))]) (H86_1 p0 v7) [] []) 2 (QJ.o { val := iv o18.2.1 } (q_n1a Try.prog (H86_1 p0 v7) 3 0 (0 + (Int.toNat v6) * 3 + 1) p0 e124 3 124 (Int.toNat v6) 1 (0, (0, 0)) h19) (QJ.rn (qs (st 39 [(0, sv 0 p0.length ANY), (1, .bool v5), (5, accV 1 v7.length), (6, iv v6), (7, pt 2 0), (11, .bool (decide (v6 < (p0.length : Int)))), (14, sv 0 p0.length ANY), (15, iv v6), (16, .pointer (some ⟨0, 0 + (Int.toNat v6) * 3, none⟩)), (17, .pointer (some ⟨0, 0 + (Int.toNat v6) * 3, none⟩)), (18, iv o18.1), (19, sv 0 p0.length ANY), (20, iv v6), (21, .pointer (some ⟨0, 0 + (Int.toNat v6) * 3, none⟩)), (22, .pointer (some ⟨0, 0 + (Int.toNat v6) * 3 + 1, none⟩)), (23, .pointer (some ⟨0, 0 + (Int.toNat v6) * 3 + 1, none⟩)), (24, iv o18.2.1), (25, ag [iv o18.1, iv o18.2.1])]) [ab 124 e124 p0, ab 54 e54 v7, cl 54 [iv 0, iv 0]] [(12, 2, 3)] []) 2 ?_))))))))
     exact QJ.dn ⟨rfl, SJ.la⟩
   refine TS.sq (TS.sq (TS.rg (TI.ra 1 [0, 1, 5, 6, 7, 26] (st 39 [(0, sv 0 p0.length ANY), (1, .bool v5), (5, accV 1 v7.length), (6, iv v6), (7, pt 2 0), (26, .bool v5)]) (TI.dn (NX.sq ?_)))))
   obtain ⟨m24, hm25, hF⟩ := of_do hF
   have hK : NX Try.prog 1 1 [.sq c86.s2.s2.s1.s2.bd.bd.s2.s1.bd.s2.s2, .bk 1, .sq c86.s2.s2.s1.s2.bd.bd.s2.s2] (Rd Try.prog 1 1 c86.s2.s2.s1.s2.bd.bd (P86l0 p0 r)) .normal (st 39 [(0, sv 0 p0.length ANY), (1, .bool m24.1), (5, accV 1 v7.length), (6, iv v6), (7, pt 2 0)]) [ab 124 e124 p0, ab 54 e54 v7, cl 54 [iv o18.1, iv m24.2]] := by
    refine NX.sq ?_
    obtain ⟨hg26, hF⟩ := of_guard hF
    refine TS.rg (TI.rn 3 [0, 1, 6, 34, 36] [0, 1, 3] (st 39 [(0, sv 0 p0.length ANY), (1, .bool m24.1), (6, iv v6), (34, accV 1 v7.length), (36, sv 3 1 1)]) [ab 124 e124 p0, ab 54 e54 v7, .dead, cl 54 [iv o18.1, iv m24.2]] (TI.acc (l := v7) (b := 1) (ts := #[26, 26]) (e := 54) (bytes := 16) (z := ag [iv 0, iv 0]) (y := sv 3 1 1) (ys := [(o18.1, m24.2)]) (xs := List.flatMap e54 ([(o18.1, m24.2)])) (m := 1) (s := 2) (enc := e54) (by kernel_rfl) (by kernel_rfl) (by decide) (by kernel_rfl) (by kernel_rfl) (by kernel_rfl) (by kernel_rfl) (by kernel_rfl) (by kernel_rfl) (by kernel_rfl) (by kernel_rfl) (fun _ => rfl) rfl rfl (by omega) [0, 1, 6, 37] [0, 4] (a2 := (st 39 [(0, sv 0 p0.length ANY), (1, .bool m24.1), (6, iv v6), (37, sv 4 (List.length (v7 ++ [(o18.1, m24.2)])) UNK)])) (h2 := [ab 124 e124 p0, .dead, .dead, .dead, .cells 54 (List.flatMap e54 (v7 ++ [(o18.1, m24.2)]))]) (by kernel_rfl) (TI.ra 1 [0, 1, 5, 6] (st 39 [(0, sv 0 p0.length ANY), (1, .bool m24.1), (5, sv 4 (List.length (v7 ++ [(o18.1, m24.2)])) UNK), (6, iv v6)]) (TI.dn (NX.bk (NX.sq (TS.rg (TI.ra 3 [0, 1, 5, 6] (st 39 [(0, sv 0 p0.length ANY), (1, .bool m24.1), (5, sv 4 (List.length (v7 ++ [(o18.1, m24.2)])) UNK), (6, iv (w64 (v6 + 1)))]) ?_))))))))
    refine TI.dn ?_
    exact Rd.again (a2 := (st 39 [(0, sv 0 p0.length ANY), (1, .bool m24.1), (5, accV 1 (List.length (v7 ++ [(o18.1, m24.2)]))), (6, iv (w64 (v6 + 1)))])) (h2 := [ab 124 e124 p0, accB 54 (List.length (v7 ++ [(o18.1, m24.2)])) (List.flatMap e54 (v7 ++ [(o18.1, m24.2)]))]) (Wk.an [4] (.ac (.cons (At.accU (by kernel_rfl) rfl (fun _ => rfl)) (.nil _))) [sv 0 p0.length ANY, .bool m24.1, sv 4 (List.length (v7 ++ [(o18.1, m24.2)])) UNK, iv (w64 (v6 + 1))] (.sl (.fl (.cons (Rn.accU (nl rfl) rfl (by simp)) (.fl .nil))))) (ih m24.1 (v7 ++ [(o18.1, m24.2)]) (w64 (v6 + 1)) _ hF)
   clear hF
   have hF := hm25
   clear hm25
   refine TS.start ?_
   cases v5 with
   | true =>
    replace hF := of_pos hF rfl
    refine TS.cdT (.tmp 26) (TS.rg (TI.ra 2 [0, 1, 5, 6, 7, 27, 28] (st 39 [(0, sv 0 p0.length ANY), (1, .bool true), (5, accV 1 v7.length), (6, iv v6), (7, pt 2 0), (27, sv 0 p0.length ANY), (28, iv v6)]) (TI.o { val := .pointer (some ⟨0, 0 + (Int.toNat v6) * 3, none⟩) } (q_ixS 0 0 ((Int.toNat v6) * 3) (by kernel_rfl) hg17) [0, 1, 5, 6, 7, 29] [0, 1, 2] (st 39 [(0, sv 0 p0.length ANY), (1, .bool true), (5, accV 1 v7.length), (6, iv v6), (7, pt 2 0), (29, .pointer (some ⟨0, 0 + (Int.toNat v6) * 3, none⟩))]) (H86_0 p0 v7 o18) (TI.ra 2 [0, 1, 5, 6, 7, 31] (st 39 [(0, sv 0 p0.length ANY), (1, .bool true), (5, accV 1 v7.length), (6, iv v6), (7, pt 2 0), (31, .pointer (some ⟨0, 0 + (Int.toNat v6) * 3 + 2, none⟩))]) (TI.o { val := iv o18.2.2 } (q_n1a Try.prog (H86_0 p0 v7 o18) 3 0 (0 + (Int.toNat v6) * 3 + 2) p0 e124 3 124 (Int.toNat v6) 2 (0, (0, 0)) h19) [0, 1, 5, 6, 7, 32] [0, 1, 2] (st 39 [(0, sv 0 p0.length ANY), (1, .bool true), (5, accV 1 v7.length), (6, iv v6), (7, pt 2 0), (32, iv o18.2.2)]) (H86_0 p0 v7 o18) (TI.rn 2 [0, 1, 5, 6, 7] [0, 1, 2] (st 39 [(0, sv 0 p0.length ANY), (1, .bool true), (5, accV 1 v7.length), (6, iv v6), (7, pt 2 0)]) [ab 124 e124 p0, ab 54 e54 v7, cl 54 [iv o18.1, iv o18.2.2]] (TI.dn ?_)))))))
    have hF := sj hF
    subst hF
    exact TS.weak (by exact (Wk.an [1, 2] (.ac (.ac (.lt (.fl (.fl .nil)) (.nil _)))) [sv 0 p0.length ANY, .bool true, accV 1 v7.length, iv v6, pt 2 0] (.sl (.fl (.cons (Rn.acc (nl rfl) rfl) (.fl (.pp .nil))))))) hK
   | false =>
    replace hF := of_neg hF rfl
    refine TS.cdF (.tmp 26) (TS.sk ?_)
    have hF := sj hF
    subst hF
    exact TS.weak (by exact (Wk.an [1, 2] (.ac (.ac (.lt (.fl (.fl .nil)) (.nil _)))) [sv 0 p0.length ANY, .bool false, accV 1 v7.length, iv v6, pt 2 0] (.sl (.fl (.cons (Rn.acc (nl rfl) rfl) (.fl (.pp .nil))))))) hK
 replace hF := of_neg hF hc16
 refine TS.ex 0 (NX.sqX ?_)
 have hF := sj hF
 subst hF
 exact Rd.out (e := .exit 0) (by intro h; cases h) (And.intro rfl (Wk.an [1] (.ac (.ac (.nil _))) [accV 1 v7.length] (.cons (Rn.acc (nl rfl) rfl) .nil)))
theorem B86 (p0 : List (Int × I2)) (p1 : Bool) (r : List I2) (hF : F86 p0 p1 = some r) : TS Try.prog 1 1 c86 (st 39 [(0, sv 0 p0.length ANY), (1, .bool p1)]) [ab 124 e124 p0] (NX Try.prog 1 1 [] (FinP Try.prog Try.f86 1 (V86 1 r) (N86 1 r))) := by
 unfold F86 at hF
 refine TS.sq (TS.rg (TI.ra 1 [0, 1] (st 39 [(0, sv 0 p0.length ANY), (1, .bool p1)]) (TI.dn (NX.sq (TS.sq (TS.rg (TI.ra 1 [0, 1, 5] (st 39 [(0, sv 0 p0.length ANY), (1, .bool p1), (5, .slice none 0 0)]) (TI.dn ?_))))))))
 refine NX.sq (TS.sq (TS.sq (TS.rg (TI.ra 1 [0, 1, 5, 6] (st 39 [(0, sv 0 p0.length ANY), (1, .bool p1), (5, .slice none 0 0), (6, iv 0)]) (TI.dn (NX.sq (TS.bk 0 ?_)))))))
 obtain ⟨r27, h28, hF⟩ := of_do hF
 refine TS.lp (TL.weak (a2 := (st 39 [(0, sv 0 p0.length ANY), (1, .bool p1), (5, accV 1 (List.length ([]))), (6, iv 0)])) (h2 := [ab 124 e124 p0, accB 54 (List.length ([])) (List.flatMap e54 ([]))]) (Wk.an [1] (.ac (.cons At.accN (.nil _))) [sv 0 p0.length ANY, .bool p1, .slice none 0 0, iv 0] (.sl (.fl (.cons (Rn.accN) (.fl .nil))))) (TL.post (L86l0 p0 p1 ([]) 0 r27 h28) ?_))
 rintro e a1 h1 hp
 obtain ⟨rfl, hw⟩ := hp
 refine ⟨(st 39 [(5, accV 1 r27.length)]), [ab 124 e124 p0, ab 54 e54 r27], (NX.bkX (NX.sq (TS.sq (TS.rg (TI.ra 2 [4] (st 39 [(4, accV 1 r27.length)]) (TI.dn (NX.sq (TS.rt ?_)))))))), hw⟩
 have hF := sj hF
 subst hF
 exact ⟨.inr rfl, rfl, accV 1 r27.length, by kernel_rfl, WkV.made (L := 1) (f := [1]) (by decide) (by decide) rfl (.ac (.nil _)) (Rn.acc (nl rfl) rfl)⟩
theorem C86 (p0 : List (Int × I2)) (p1 : Bool) (r : List I2) (hF : F86 p0 p1 = some r) : PureSim Try.prog 86 [sv 0 p0.length ANY, .bool p1] [ab 124 e124 p0] (V86 1 r) (N86 1 r) :=
 PureSim.of_Fin Try.func86 (c := c86) (by kernel_rfl) (by kernel_rfl) 1 rfl [0, 1] [0] (by kernel_rfl) (B86 p0 p1 r hF)
noncomputable def c66 : Code := Try.f66.code
def S66_0 (p0 : List I2) (p1 : Int) (o9 o12 : I2) : CAct := (st 34 [(0, sv 0 p0.length ANY), (1, iv p1), (4, pt 1 0), (5, pt 2 0), (10, .bool (decide ((w64 (p1 + 1)) < (p0.length : Int)))), (20, sv 0 p0.length ANY), (21, iv p1), (22, .pointer (some ⟨0, 0 + (Int.toNat p1) * 2, none⟩)), (23, ag [iv o9.1, iv o9.2]), (24, sv 0 p0.length ANY), (25, .pointer (some ⟨0, 0 + (Int.toNat 0) * 2, none⟩)), (26, .pointer (some ⟨0, 0 + (Int.toNat 0) * 2, none⟩)), (27, iv o12.1), (28, iv (w64 (o12.1 + 3600))), (29, sv 0 p0.length ANY), (30, .pointer (some ⟨0, 0 + (Int.toNat 0) * 2, none⟩)), (31, .pointer (some ⟨0, 0 + (Int.toNat 0) * 2 + 1, none⟩)), (32, iv o12.2), (33, ag [iv (w64 (o12.1 + 3600)), iv o12.2])])
def S66_1 (p0 : List I2) (p1 : Int) (o9 o12 : I2) : CAct := (st 34 [(0, sv 0 p0.length ANY), (1, iv p1), (4, pt 1 0), (5, pt 2 0), (10, .bool (decide ((w64 (p1 + 1)) < (p0.length : Int)))), (20, sv 0 p0.length ANY), (21, iv p1), (22, .pointer (some ⟨0, 0 + (Int.toNat p1) * 2, none⟩)), (23, ag [iv o9.1, iv o9.2]), (24, sv 0 p0.length ANY), (25, .pointer (some ⟨0, 0 + (Int.toNat 0) * 2, none⟩)), (26, .pointer (some ⟨0, 0 + (Int.toNat 0) * 2, none⟩)), (27, iv o12.1), (28, iv (w64 (o12.1 + 3600))), (29, sv 0 p0.length ANY), (30, .pointer (some ⟨0, 0 + (Int.toNat 0) * 2, none⟩)), (31, .pointer (some ⟨0, 0 + (Int.toNat 0) * 2 + 1, none⟩)), (32, iv o12.2)])
def S66_2 (p0 : List I2) (p1 : Int) (o9 o12 : I2) : CAct := (st 34 [(0, sv 0 p0.length ANY), (1, iv p1), (4, pt 1 0), (5, pt 2 0), (10, .bool (decide ((w64 (p1 + 1)) < (p0.length : Int)))), (20, sv 0 p0.length ANY), (21, iv p1), (22, .pointer (some ⟨0, 0 + (Int.toNat p1) * 2, none⟩)), (23, ag [iv o9.1, iv o9.2]), (24, sv 0 p0.length ANY), (25, .pointer (some ⟨0, 0 + (Int.toNat 0) * 2, none⟩)), (26, .pointer (some ⟨0, 0 + (Int.toNat 0) * 2, none⟩)), (27, iv o12.1), (28, iv (w64 (o12.1 + 3600))), (29, sv 0 p0.length ANY), (30, .pointer (some ⟨0, 0 + (Int.toNat 0) * 2, none⟩)), (31, .pointer (some ⟨0, 0 + (Int.toNat 0) * 2 + 1, none⟩))])
def S66_3 (p0 : List I2) (p1 : Int) (o9 o12 : I2) : CAct := (st 34 [(0, sv 0 p0.length ANY), (1, iv p1), (4, pt 1 0), (5, pt 2 0), (10, .bool (decide ((w64 (p1 + 1)) < (p0.length : Int)))), (20, sv 0 p0.length ANY), (21, iv p1), (22, .pointer (some ⟨0, 0 + (Int.toNat p1) * 2, none⟩)), (23, ag [iv o9.1, iv o9.2]), (24, sv 0 p0.length ANY), (25, .pointer (some ⟨0, 0 + (Int.toNat 0) * 2, none⟩)), (26, .pointer (some ⟨0, 0 + (Int.toNat 0) * 2, none⟩)), (27, iv o12.1), (28, iv (w64 (o12.1 + 3600))), (29, sv 0 p0.length ANY), (30, .pointer (some ⟨0, 0 + (Int.toNat 0) * 2, none⟩))])
def S66_4 (p0 : List I2) (p1 : Int) (o9 o12 : I2) : CAct := (st 34 [(0, sv 0 p0.length ANY), (1, iv p1), (4, pt 1 0), (5, pt 2 0), (10, .bool (decide ((w64 (p1 + 1)) < (p0.length : Int)))), (20, sv 0 p0.length ANY), (21, iv p1), (22, .pointer (some ⟨0, 0 + (Int.toNat p1) * 2, none⟩)), (23, ag [iv o9.1, iv o9.2]), (24, sv 0 p0.length ANY), (25, .pointer (some ⟨0, 0 + (Int.toNat 0) * 2, none⟩)), (26, .pointer (some ⟨0, 0 + (Int.toNat 0) * 2, none⟩)), (27, iv o12.1), (28, iv (w64 (o12.1 + 3600))), (29, sv 0 p0.length ANY)])
def S66_5 (p0 : List I2) (p1 : Int) (o3 o6 : I2) : CAct := (st 34 [(0, sv 0 p0.length ANY), (1, iv p1), (4, pt 1 0), (5, pt 2 0), (10, .bool (decide ((w64 (p1 + 1)) < (p0.length : Int)))), (11, sv 0 p0.length ANY), (12, iv p1), (13, .pointer (some ⟨0, 0 + (Int.toNat p1) * 2, none⟩)), (14, ag [iv o3.1, iv o3.2]), (15, sv 0 p0.length ANY), (16, iv p1), (17, iv (w64 (p1 + 1))), (18, .pointer (some ⟨0, 0 + (Int.toNat (w64 (p1 + 1))) * 2, none⟩)), (19, ag [iv o6.1, iv o6.2])])
def S66_6 (p0 : List I2) (p1 : Int) (o9 o12 : I2) : CAct := (st 34 [(0, sv 0 p0.length ANY), (1, iv p1), (4, pt 1 0), (5, pt 2 0), (10, .bool (decide ((w64 (p1 + 1)) < (p0.length : Int)))), (20, sv 0 p0.length ANY), (21, iv p1), (22, .pointer (some ⟨0, 0 + (Int.toNat p1) * 2, none⟩)), (23, ag [iv o9.1, iv o9.2]), (24, sv 0 p0.length ANY), (25, .pointer (some ⟨0, 0 + (Int.toNat 0) * 2, none⟩)), (26, .pointer (some ⟨0, 0 + (Int.toNat 0) * 2, none⟩)), (27, iv o12.1)])
def S66_7 (p0 : List I2) (p1 : Int) (o9 : I2) : CAct := (st 34 [(0, sv 0 p0.length ANY), (1, iv p1), (4, pt 1 0), (5, pt 2 0), (10, .bool (decide ((w64 (p1 + 1)) < (p0.length : Int)))), (20, sv 0 p0.length ANY), (21, iv p1), (22, .pointer (some ⟨0, 0 + (Int.toNat p1) * 2, none⟩)), (23, ag [iv o9.1, iv o9.2]), (24, sv 0 p0.length ANY), (25, .pointer (some ⟨0, 0 + (Int.toNat 0) * 2, none⟩)), (26, .pointer (some ⟨0, 0 + (Int.toNat 0) * 2, none⟩))])
def S66_8 (p0 : List I2) (p1 : Int) (o3 : I2) : CAct := (st 34 [(0, sv 0 p0.length ANY), (1, iv p1), (4, pt 1 0), (5, pt 2 0), (10, .bool (decide ((w64 (p1 + 1)) < (p0.length : Int)))), (11, sv 0 p0.length ANY), (12, iv p1), (13, .pointer (some ⟨0, 0 + (Int.toNat p1) * 2, none⟩)), (14, ag [iv o3.1, iv o3.2]), (15, sv 0 p0.length ANY), (16, iv p1), (17, iv (w64 (p1 + 1))), (18, .pointer (some ⟨0, 0 + (Int.toNat (w64 (p1 + 1))) * 2, none⟩))])
def S66_9 (p0 : List I2) (p1 : Int) (o9 : I2) : CAct := (st 34 [(0, sv 0 p0.length ANY), (1, iv p1), (4, pt 1 0), (5, pt 2 0), (10, .bool (decide ((w64 (p1 + 1)) < (p0.length : Int)))), (20, sv 0 p0.length ANY), (21, iv p1), (22, .pointer (some ⟨0, 0 + (Int.toNat p1) * 2, none⟩)), (23, ag [iv o9.1, iv o9.2]), (24, sv 0 p0.length ANY), (25, .pointer (some ⟨0, 0 + (Int.toNat 0) * 2, none⟩))])
def S66_10 (p0 : List I2) (p1 : Int) (o3 : I2) : CAct := (st 34 [(0, sv 0 p0.length ANY), (1, iv p1), (4, pt 1 0), (5, pt 2 0), (10, .bool (decide ((w64 (p1 + 1)) < (p0.length : Int)))), (11, sv 0 p0.length ANY), (12, iv p1), (13, .pointer (some ⟨0, 0 + (Int.toNat p1) * 2, none⟩)), (14, ag [iv o3.1, iv o3.2]), (15, sv 0 p0.length ANY), (16, iv p1), (17, iv (w64 (p1 + 1)))])
def S66_11 (p0 : List I2) (p1 : Int) (o9 : I2) : CAct := (st 34 [(0, sv 0 p0.length ANY), (1, iv p1), (4, pt 1 0), (5, pt 2 0), (10, .bool (decide ((w64 (p1 + 1)) < (p0.length : Int)))), (20, sv 0 p0.length ANY), (21, iv p1), (22, .pointer (some ⟨0, 0 + (Int.toNat p1) * 2, none⟩)), (23, ag [iv o9.1, iv o9.2]), (24, sv 0 p0.length ANY)])
def S66_12 (p0 : List I2) (p1 : Int) (o3 : I2) : CAct := (st 34 [(0, sv 0 p0.length ANY), (1, iv p1), (4, pt 1 0), (5, pt 2 0), (10, .bool (decide ((w64 (p1 + 1)) < (p0.length : Int)))), (11, sv 0 p0.length ANY), (12, iv p1), (13, .pointer (some ⟨0, 0 + (Int.toNat p1) * 2, none⟩)), (14, ag [iv o3.1, iv o3.2])])
def S66_13 (p0 : List I2) (p1 : Int) (o9 : I2) : CAct := (st 34 [(0, sv 0 p0.length ANY), (1, iv p1), (4, pt 1 0), (5, pt 2 0), (10, .bool (decide ((w64 (p1 + 1)) < (p0.length : Int)))), (20, sv 0 p0.length ANY), (21, iv p1), (22, .pointer (some ⟨0, 0 + (Int.toNat p1) * 2, none⟩)), (23, ag [iv o9.1, iv o9.2])])
def S66_14 (p0 : List I2) (p1 : Int) : CAct := (st 34 [(0, sv 0 p0.length ANY), (1, iv p1), (4, pt 1 0), (5, pt 2 0), (10, .bool (decide ((w64 (p1 + 1)) < (p0.length : Int)))), (11, sv 0 p0.length ANY), (12, iv p1), (13, .pointer (some ⟨0, 0 + (Int.toNat p1) * 2, none⟩))])
def S66_15 (p0 : List I2) (p1 : Int) : CAct := (st 34 [(0, sv 0 p0.length ANY), (1, iv p1), (4, pt 1 0), (5, pt 2 0), (10, .bool (decide ((w64 (p1 + 1)) < (p0.length : Int)))), (20, sv 0 p0.length ANY), (21, iv p1), (22, .pointer (some ⟨0, 0 + (Int.toNat p1) * 2, none⟩))])
def S66_16 (p0 : List I2) (p1 : Int) : CAct := (st 34 [(0, sv 0 p0.length ANY), (1, iv p1), (4, pt 1 0), (5, pt 2 0), (10, .bool (decide ((w64 (p1 + 1)) < (p0.length : Int)))), (11, sv 0 p0.length ANY), (12, iv p1)])
def S66_17 (p0 : List I2) (p1 : Int) : CAct := (st 34 [(0, sv 0 p0.length ANY), (1, iv p1), (4, pt 1 0), (5, pt 2 0), (10, .bool (decide ((w64 (p1 + 1)) < (p0.length : Int)))), (20, sv 0 p0.length ANY), (21, iv p1)])
def H66_18 (p0 : List I2) (o9 o12 : I2) : List Blk := [ab 54 e54 p0, cl 54 [iv o9.1, iv o9.2], cl 54 [iv (w64 (o12.1 + 3600)), iv o12.2]]
def H66_19 (p0 : List I2) (o3 o6 : I2) : List Blk := [ab 54 e54 p0, cl 54 [iv o3.1, iv o3.2], cl 54 [iv o6.1, iv o6.2]]
def H66_20 (p0 : List I2) (o3 : I2) : List Blk := [ab 54 e54 p0, cl 54 [iv o3.1, iv o3.2], cl 54 [iv 0, iv 0]]
def H66_21 (p0 : List I2) (o9 : I2) : List Blk := [ab 54 e54 p0, cl 54 [iv o9.1, iv o9.2], cl 54 [iv 0, iv 0]]
def H66_22 (p0 : List I2) : List Blk := [ab 54 e54 p0, cl 54 [iv 0, iv 0], cl 54 [iv 0, iv 0]]
def H66_23 (p0 : List I2) : List Blk := [ab 54 e54 p0, .dead, cl 54 [iv 0, iv 0]]
def F66 (p0 : List I2) (p1 : Int) : Option (I2 × I2) :=
 if decide ((w64 (p1 + 1)) < (p0.length : Int)) then
  if (0 : Int) ≤ p1 ∧ p1 < (p0.length : Int) then
   some (List.getD p0 (Int.toNat p1) (0, 0)) >>= fun o3 =>
   if (0 : Int) ≤ w64 (p1 + 1) ∧ w64 (p1 + 1) < (p0.length : Int) then
    some (List.getD p0 (Int.toNat (w64 (p1 + 1))) (0, 0)) >>= fun o6 =>
    some ((o3.1, o3.2), (o6.1, o6.2))
   else none
  else none
 else
  if (0 : Int) ≤ p1 ∧ p1 < (p0.length : Int) then
   some (List.getD p0 (Int.toNat p1) (0, 0)) >>= fun o9 =>
   if (0 : Int) ≤ 0 ∧ 0 < (p0.length : Int) then
    some (List.getD p0 (Int.toNat 0) (0, 0)) >>= fun o12 =>
    some ((o9.1, o9.2), (w64 (o12.1 + 3600), o12.2))
   else none
  else none
def V66 (b : Nat) (r : I2 × I2) : Value := .tuple ⟨[ag [iv r.1.1, iv r.1.2], ag [iv r.2.1, iv r.2.2]]⟩
def N66 (b : Nat) (r : I2 × I2) : List Blk := []
theorem B66 (p0 : List I2) (p1 : Int) (r : I2 × I2) (hF : F66 p0 p1 = some r) : TS Try.prog 1 1 c66 (st 34 [(0, sv 0 p0.length ANY), (1, iv p1)]) [ab 54 e54 p0] (NX Try.prog 1 1 [] (FinP Try.prog Try.f66 1 (V66 1 r) (N66 1 r))) := by
 unfold F66 at hF
 refine TS.sq (TS.rg (TI.rn 2 [0, 1, 4, 5] [0, 1, 2] (st 34 [(0, sv 0 p0.length ANY), (1, iv p1), (4, pt 1 0), (5, pt 2 0)]) (H66_22 p0) (TI.dn (NX.sq (TS.sq (TS.sq (TS.rg (TI.ra 5 [0, 1, 4, 5, 10] (st 34 [(0, sv 0 p0.length ANY), (1, iv p1), (4, pt 1 0), (5, pt 2 0), (10, .bool (decide ((w64 (p1 + 1)) < (p0.length : Int))))]) ?_))))))))
 refine TI.dn (NX.sq ?_)
 refine TS.cd (.tmp 10) (decide ((w64 (p1 + 1)) < (p0.length : Int))) (fun hc1 => ?_) (fun hc1 => ?_)
 · replace hF := of_pos hF hc1
   refine TS.sq ?_
   obtain ⟨hg2, hF⟩ := of_guard hF
   obtain ⟨o3, h4, hF⟩ := of_do hF
   replace h4 := sj h4
   obtain ⟨hg5, hF⟩ := of_guard hF
   obtain ⟨o6, h7, hF⟩ := of_do hF
   replace h7 := sj h7
   refine TS.draw' (id := 2) (b := true) (ops := c66.s2.s1.s2.th.s1.rops) (fin := (qs (S66_5 p0 p1 o3 o6) (H66_20 p0 o3) [] [(9, 1)])) (fin2 := (qs (S66_5 p0 p1 o3 o6) (H66_20 p0 o3) [] [(9, 1)])) (a1 := (S66_5 p0 p1 o3 o6)) (h1 := (H66_19 p0 o3 o6)) (a2 := (st 34 [(4, pt 1 0), (5, pt 2 0)])) (h2 := (H66_19 p0 o3 o6)) [] (fun e he => by cases he) mixed (by kernel_rfl) rfl 10 (by kernel_rfl) [(9, 1)] ?_ rfl (.inr ⟨?_, (by kernel_rfl)⟩) ?_ [4, 5] [0, 1, 2] (by kernel_rfl) ?_
   · exact QI.run (s1 := (qs (S66_16 p0 p1) (H66_22 p0) [] [])) 2 (by kernel_rfl) (by kernel_rfl) (QI.op (q := { val := .pointer (some ⟨0, 0 + (Int.toNat p1) * 2, none⟩) }) (s1 := (qs (S66_14 p0 p1) (H66_22 p0) [] [])) (by decide) (q_ixS 0 0 ((Int.toNat p1) * 2) (by kernel_rfl) hg2) (by kernel_rfl) (QI.op (q := { val := ag [iv o3.1, iv o3.2] }) (s1 := (qs (S66_12 p0 p1 o3) (H66_22 p0) [] [])) (by decide) (q_nAa Try.prog (H66_22 p0) 54 0 (0 + (Int.toNat p1) * 2) p0 e54 2 54 (Int.toNat p1) (0, 0) h4) (by kernel_rfl) (QI.run (s1 := (qs (S66_10 p0 p1 o3) (H66_22 p0) [] [])) 3 (by kernel_rfl) (by kernel_rfl) (QI.op (q := { val := .pointer (some ⟨0, 0 + (Int.toNat (w64 (p1 + 1))) * 2, none⟩) }) (s1 := (qs (S66_8 p0 p1 o3) (H66_22 p0) [] [])) (by decide) (q_ixS 0 0 ((Int.toNat (w64 (p1 + 1))) * 2) (by kernel_rfl) hg5) (by kernel_rfl) (QI.op (q := { val := ag [iv o6.1, iv o6.2] }) (s1 := (qs (S66_5 p0 p1 o3 o6) (H66_22 p0) [] [])) (by decide) (q_nAa Try.prog (H66_22 p0) 54 0 (0 + (Int.toNat (w64 (p1 + 1))) * 2) p0 e54 2 54 (Int.toNat (w64 (p1 + 1))) (0, 0) h7) (by kernel_rfl) (QI.run (s1 := (qs (S66_5 p0 p1 o3 o6) (H66_20 p0 o3) [] [(9, 1)])) 1 (by kernel_rfl) (by kernel_rfl) (QI.done (by kernel_rfl))))))))
   · exact QI.run (s1 := (qs (S66_16 p0 p1) (H66_22 p0) [] [])) 2 (by kernel_rfl) (by kernel_rfl) (QI.op (q := { val := .pointer (some ⟨0, 0 + (Int.toNat p1) * 2, none⟩) }) (s1 := (qs (S66_14 p0 p1) (H66_22 p0) [] [])) (by decide) (q_ixS 0 0 ((Int.toNat p1) * 2) (by kernel_rfl) hg2) (by kernel_rfl) (QI.op (q := { val := ag [iv o3.1, iv o3.2] }) (s1 := (qs (S66_12 p0 p1 o3) (H66_22 p0) [] [])) (by decide) (q_nAa Try.prog (H66_22 p0) 54 0 (0 + (Int.toNat p1) * 2) p0 e54 2 54 (Int.toNat p1) (0, 0) h4) (by kernel_rfl) (QI.run (s1 := (qs (S66_10 p0 p1 o3) (H66_22 p0) [] [])) 3 (by kernel_rfl) (by kernel_rfl) (QI.op (q := { val := .pointer (some ⟨0, 0 + (Int.toNat (w64 (p1 + 1))) * 2, none⟩) }) (s1 := (qs (S66_8 p0 p1 o3) (H66_22 p0) [] [])) (by decide) (q_ixS 0 0 ((Int.toNat (w64 (p1 + 1))) * 2) (by kernel_rfl) hg5) (by kernel_rfl) (QI.op (q := { val := ag [iv o6.1, iv o6.2] }) (s1 := (qs (S66_5 p0 p1 o3 o6) (H66_22 p0) [] [])) (by decide) (q_nAa Try.prog (H66_23 p0) 54 0 (0 + (Int.toNat (w64 (p1 + 1))) * 2) p0 e54 2 54 (Int.toNat (w64 (p1 + 1))) (0, 0) h7) (by kernel_rfl) (QI.run (s1 := (qs (S66_5 p0 p1 o3 o6) (H66_20 p0 o3) [] [(9, 1)])) 1 (by kernel_rfl) (by kernel_rfl) (QI.done (by kernel_rfl))))))))
   · exact SI.run (a2 := (S66_5 p0 p1 o3 o6)) (h2 := (H66_19 p0 o3 o6)) 1 (by kernel_rfl) (SI.done (by kernel_rfl))
   refine TS.rt (NX.sqR ?_)
   have hF := sj hF
   subst hF
   exact ⟨.inr rfl, rfl, .tuple ⟨[ag [iv o3.1, iv o3.2], ag [iv o6.1, iv o6.2]]⟩, by kernel_rfl, WkV.flat0 (by kernel_rfl) (nl rfl)⟩
 replace hF := of_neg hF hc1
 refine TS.sk (NX.sq (TS.sq ?_))
 obtain ⟨hg8, hF⟩ := of_guard hF
 obtain ⟨o9, h10, hF⟩ := of_do hF
 replace h10 := sj h10
 obtain ⟨hg11, hF⟩ := of_guard hF
 obtain ⟨o12, h13, hF⟩ := of_do hF
 replace h13 := sj h13
 refine TS.draw' (id := 3) (b := true) (ops := c66.s2.s2.s1.rops) (fin := (qs (S66_0 p0 p1 o9 o12) (H66_21 p0 o9) [] [(14, 1)])) (fin2 := (qs (S66_0 p0 p1 o9 o12) (H66_21 p0 o9) [] [(14, 1)])) (a1 := (S66_0 p0 p1 o9 o12)) (h1 := (H66_18 p0 o9 o12)) (a2 := (st 34 [(4, pt 1 0), (5, pt 2 0)])) (h2 := (H66_18 p0 o9 o12)) [] (fun e he => by cases he) mixed (by kernel_rfl) rfl 15 (by kernel_rfl) [(14, 1)] ?_ rfl (.inr ⟨?_, (by kernel_rfl)⟩) ?_ [4, 5] [0, 1, 2] (by kernel_rfl) ?_
 · refine QI.run (s1 := (qs (S66_17 p0 p1) (H66_22 p0) [] [])) 2 (by kernel_rfl) (by kernel_rfl) (QI.op (q := { val := .pointer (some ⟨0, 0 + (Int.toNat p1) * 2, none⟩) }) (s1 := (qs (S66_15 p0 p1) (H66_22 p0) [] [])) (by decide) (q_ixS 0 0 ((Int.toNat p1) * 2) (by kernel_rfl) hg8) (by kernel_rfl) (QI.op (q := { val := ag [iv o9.1, iv o9.2] }) (s1 := (qs (S66_13 p0 p1 o9) (H66_22 p0) [] [])) (by decide) (q_nAa Try.prog (H66_22 p0) 54 0 (0 + (Int.toNat p1) * 2) p0 e54 2 54 (Int.toNat p1) (0, 0) h10) (by kernel_rfl) (QI.run (s1 := (qs (S66_11 p0 p1 o9) (H66_22 p0) [] [])) 1 (by kernel_rfl) (by kernel_rfl) (QI.op (q := { val := .pointer (some ⟨0, 0 + (Int.toNat 0) * 2, none⟩) }) (s1 := (qs (S66_9 p0 p1 o9) (H66_22 p0) [] [])) (by decide) (q_ixS 0 0 ((Int.toNat 0) * 2) (by kernel_rfl) hg11) (by kernel_rfl) (QI.run (s1 := (qs (S66_7 p0 p1 o9) (H66_22 p0) [] [])) 1 (by kernel_rfl) (by kernel_rfl) (QI.op (q := { val := iv o12.1 }) (s1 := (qs (S66_6 p0 p1 o9 o12) (H66_22 p0) [] [])) (by decide) (q_n1a Try.prog (H66_22 p0) 3 0 (0 + (Int.toNat 0) * 2) p0 e54 2 54 (Int.toNat 0) 0 (0, 0) h13) (by kernel_rfl) (QI.run (s1 := (qs (S66_4 p0 p1 o9 o12) (H66_22 p0) [] [])) 2 (by kernel_rfl) (by kernel_rfl) (QI.op (q := { val := .pointer (some ⟨0, 0 + (Int.toNat 0) * 2, none⟩) }) (s1 := (qs (S66_3 p0 p1 o9 o12) (H66_22 p0) [] [])) (by decide) (q_ixS 0 0 ((Int.toNat 0) * 2) (by kernel_rfl) hg11) (by kernel_rfl) ?_))))))))
   exact QI.run (s1 := (qs (S66_2 p0 p1 o9 o12) (H66_22 p0) [] [])) 1 (by kernel_rfl) (by kernel_rfl) (QI.op (q := { val := iv o12.2 }) (s1 := (qs (S66_1 p0 p1 o9 o12) (H66_22 p0) [] [])) (by decide) (q_n1a Try.prog (H66_22 p0) 3 0 (0 + (Int.toNat 0) * 2 + 1) p0 e54 2 54 (Int.toNat 0) 1 (0, 0) h13) (by kernel_rfl) (QI.run (s1 := (qs (S66_0 p0 p1 o9 o12) (H66_21 p0 o9) [] [(14, 1)])) 2 (by kernel_rfl) (by kernel_rfl) (QI.done (by kernel_rfl))))
 · refine QI.run (s1 := (qs (S66_17 p0 p1) (H66_22 p0) [] [])) 2 (by kernel_rfl) (by kernel_rfl) (QI.op (q := { val := .pointer (some ⟨0, 0 + (Int.toNat p1) * 2, none⟩) }) (s1 := (qs (S66_15 p0 p1) (H66_22 p0) [] [])) (by decide) (q_ixS 0 0 ((Int.toNat p1) * 2) (by kernel_rfl) hg8) (by kernel_rfl) (QI.op (q := { val := ag [iv o9.1, iv o9.2] }) (s1 := (qs (S66_13 p0 p1 o9) (H66_22 p0) [] [])) (by decide) (q_nAa Try.prog (H66_22 p0) 54 0 (0 + (Int.toNat p1) * 2) p0 e54 2 54 (Int.toNat p1) (0, 0) h10) (by kernel_rfl) (QI.run (s1 := (qs (S66_11 p0 p1 o9) (H66_22 p0) [] [])) 1 (by kernel_rfl) (by kernel_rfl) (QI.op (q := { val := .pointer (some ⟨0, 0 + (Int.toNat 0) * 2, none⟩) }) (s1 := (qs (S66_9 p0 p1 o9) (H66_22 p0) [] [])) (by decide) (q_ixS 0 0 ((Int.toNat 0) * 2) (by kernel_rfl) hg11) (by kernel_rfl) (QI.run (s1 := (qs (S66_7 p0 p1 o9) (H66_22 p0) [] [])) 1 (by kernel_rfl) (by kernel_rfl) (QI.op (q := { val := iv o12.1 }) (s1 := (qs (S66_6 p0 p1 o9 o12) (H66_22 p0) [] [])) (by decide) (q_n1a Try.prog (H66_23 p0) 3 0 (0 + (Int.toNat 0) * 2) p0 e54 2 54 (Int.toNat 0) 0 (0, 0) h13) (by kernel_rfl) (QI.run (s1 := (qs (S66_4 p0 p1 o9 o12) (H66_22 p0) [] [])) 2 (by kernel_rfl) (by kernel_rfl) (QI.op (q := { val := .pointer (some ⟨0, 0 + (Int.toNat 0) * 2, none⟩) }) (s1 := (qs (S66_3 p0 p1 o9 o12) (H66_22 p0) [] [])) (by decide) (q_ixS 0 0 ((Int.toNat 0) * 2) (by kernel_rfl) hg11) (by kernel_rfl) ?_))))))))
   exact QI.run (s1 := (qs (S66_2 p0 p1 o9 o12) (H66_22 p0) [] [])) 1 (by kernel_rfl) (by kernel_rfl) (QI.op (q := { val := iv o12.2 }) (s1 := (qs (S66_1 p0 p1 o9 o12) (H66_22 p0) [] [])) (by decide) (q_n1a Try.prog (H66_23 p0) 3 0 (0 + (Int.toNat 0) * 2 + 1) p0 e54 2 54 (Int.toNat 0) 1 (0, 0) h13) (by kernel_rfl) (QI.run (s1 := (qs (S66_0 p0 p1 o9 o12) (H66_21 p0 o9) [] [(14, 1)])) 2 (by kernel_rfl) (by kernel_rfl) (QI.done (by kernel_rfl))))
 · exact SI.run (a2 := (S66_0 p0 p1 o9 o12)) (h2 := (H66_18 p0 o9 o12)) 1 (by kernel_rfl) (SI.done (by kernel_rfl))
 refine TS.rt ?_
 have hF := sj hF
 subst hF
 exact ⟨.inr rfl, rfl, .tuple ⟨[ag [iv o9.1, iv o9.2], ag [iv (w64 (o12.1 + 3600)), iv o12.2]]⟩, by kernel_rfl, WkV.flat0 (by kernel_rfl) (nl rfl)⟩
theorem C66 (p0 : List I2) (p1 : Int) (r : I2 × I2) (hF : F66 p0 p1 = some r) : PureSim Try.prog 66 [sv 0 p0.length ANY, iv p1] [ab 54 e54 p0] (V66 1 r) (N66 1 r) :=
 PureSim.of_Fin Try.func66 (c := c66) (by kernel_rfl) (by kernel_rfl) 1 rfl [0, 1] [0] (by kernel_rfl) (B66 p0 p1 r hF)
noncomputable def c85 : Code := Try.f85.code
def H85_0 (p0 : List (Int × I2)) (r1 r3 : List I2) : List Blk := [ab 124 e124 p0, ab 54 e54 r1, ab 54 e54 r3, .dead, .dead, .dead, .dead]
def H85_1 (p0 : List (Int × I2)) (r1 r3 : List I2) : List Blk := [ab 124 e124 p0, ab 54 e54 r1, ab 54 e54 r3]
def F85l0 (p0 : List (Int × I2)) (r1 r3 : List I2) (v12 : Bool) (v13 : Int) : Option Bool :=
 (
  if decide (v13 < (p0.length : Int)) then
   some (decide ((p0.length : Int) > 1))
  else
   some (false)
 : Option Bool) >>= fun m25 =>
 if m25 then
  F66 r3 v13 >>= fun r26 =>
  F66 r1 v13 >>= fun r28 =>
  (
   if v12 then
    some (true)
   else
    some (decide ((w64 ((w64 ((w64 (r28.2.1 - r26.1.1)) + r28.2.2)) - r26.1.2)) ≤ 0))
  : Option Bool) >>= fun m30 =>
  F85l0 p0 r1 r3 m30 (w64 (v13 + 1))
 else
  some v12
 partial_fixpoint
def F85 (p0 : List (Int × I2)) : Option Bool :=
 F86 p0 false >>= fun r1 =>
 F86 p0 true >>= fun r3 =>
 F85l0 p0 r1 r3 false 0 >>= fun r33 =>
 some r33
def V85 (b : Nat) (r : Bool) : Value := .bool r
def N85 (b : Nat) (r : Bool) : List Blk := []
def P85l0 (p0 : List (Int × I2)) (r1 r3 : List I2) (r : Bool) : Post := fun e a h => e = .exit 0 ∧ Wk Try.prog 1 1 a h (st 54 [(5, .bool r)]) [ab 124 e124 p0]
theorem L85l0 (p0 : List (Int × I2)) (r1 r3 : List I2) (v12 : Bool) (v13 : Int) (r : Bool) (hF : F85l0 p0 r1 r3 v12 v13 = some r) : TL Try.prog 1 1 c85.s2.s2.s2.s1.s2.bd.bd (st 54 [(0, sv 0 p0.length ANY), (3, accV 1 r1.length), (4, accV 2 r3.length), (5, .bool v12), (6, iv v13)]) (H85_1 p0 r1 r3) (P85l0 p0 r1 r3 r) := by
 refine F85l0.partial_correctness p0 r1 r3 (motive := fun v12 v13 r => TL Try.prog 1 1 c85.s2.s2.s2.s1.s2.bd.bd (st 54 [(0, sv 0 p0.length ANY), (3, accV 1 r1.length), (4, accV 2 r3.length), (5, .bool v12), (6, iv v13)]) (H85_1 p0 r1 r3) (P85l0 p0 r1 r3 r)) ?_ v12 v13 r hF
 clear hF r v12 v13
 intro again ih v12 v13 r hF
 refine TL.round (TS.sq (TS.sq ?_))
 obtain ⟨m25, hm32, hF⟩ := of_do hF
 have hK : NX Try.prog 1 1 [.sq c85.s2.s2.s2.s1.s2.bd.bd.s1.s2, .sq c85.s2.s2.s2.s1.s2.bd.bd.s2] (Rd Try.prog 1 1 c85.s2.s2.s2.s1.s2.bd.bd (P85l0 p0 r1 r3 r)) .normal (st 54 [(0, sv 0 p0.length ANY), (3, accV 1 r1.length), (4, accV 2 r3.length), (5, .bool v12), (6, iv v13), (23, .bool m25)]) (H85_1 p0 r1 r3) := by
  refine NX.sq ?_
  cases m25 with
  | true =>
   replace hF := of_pos hF rfl
   refine TS.cdT (.tmp 23) (TS.sk (NX.sq (TS.sq (TS.bk 1 (TS.sq ?_)))))
   obtain ⟨r26, h27, hF⟩ := of_do hF
   refine TS.rg (TI.ra 2 [0, 3, 4, 5, 6, 27, 28] (st 54 [(0, sv 0 p0.length ANY), (3, accV 1 r1.length), (4, accV 2 r3.length), (5, .bool v12), (6, iv v13), (27, accV 2 r3.length), (28, iv v13)]) (TI.cp 66 [accV 2 r3.length, iv v13] (.tuple ⟨[ag [iv r26.1.1, iv r26.1.2], ag [iv r26.2.1, iv r26.2.2]]⟩) [] (PureSim.ren (hc := [ab 54 e54 r3]) (fun i => List.getD [(2, 0)] i (0, 0)) (C66 _ _ _ h27) (.ac (.nil _)) (.cons (Rn.accA (i' := 2) (nl rfl) rfl) (.fl .nil)) (.flat (by kernel_rfl)) newflat_nil) (TI.rn 7 [0, 3, 4, 5, 6, 7] [0, 1, 2, 3] (st 54 [(0, sv 0 p0.length ANY), (3, accV 1 r1.length), (4, accV 2 r3.length), (5, .bool v12), (6, iv v13), (7, pt 3 0)]) [ab 124 e124 p0, ab 54 e54 r1, ab 54 e54 r3, cl 54 [iv r26.1.1, iv r26.1.2], .dead] (TI.dn (NX.sq (TS.sq ?_))))))
   obtain ⟨r28, h29, hF⟩ := of_do hF
   refine TS.rg (TI.ra 2 [0, 3, 4, 5, 6, 7, 33, 34] (st 54 [(0, sv 0 p0.length ANY), (3, accV 1 r1.length), (4, accV 2 r3.length), (5, .bool v12), (6, iv v13), (7, pt 3 0), (33, accV 1 r1.length), (34, iv v13)]) (TI.cp 66 [accV 1 r1.length, iv v13] (.tuple ⟨[ag [iv r28.1.1, iv r28.1.2], ag [iv r28.2.1, iv r28.2.2]]⟩) [] (PureSim.ren (hc := [ab 54 e54 r1]) (fun i => List.getD [(1, 0)] i (0, 0)) (C66 _ _ _ h29) (.ac (.nil _)) (.cons (Rn.accA (i' := 1) (nl rfl) rfl) (.fl .nil)) (.flat (by kernel_rfl)) newflat_nil) (TI.rn 7 [0, 3, 4, 5, 6, 7, 10] [0, 1, 2, 3, 6] (st 54 [(0, sv 0 p0.length ANY), (3, accV 1 r1.length), (4, accV 2 r3.length), (5, .bool v12), (6, iv v13), (7, pt 3 0), (10, pt 6 0)]) [ab 124 e124 p0, ab 54 e54 r1, ab 54 e54 r3, cl 54 [iv r26.1.1, iv r26.1.2], .dead, .dead, cl 54 [iv r28.2.1, iv r28.2.2]] (TI.dn (NX.sq ?_)))))
   obtain ⟨m30, hm31, hF⟩ := of_do hF
   have hK : NX Try.prog 1 1 [.bk 1, .sq c85.s2.s2.s2.s1.s2.bd.bd.s2.s2] (Rd Try.prog 1 1 c85.s2.s2.s2.s1.s2.bd.bd (P85l0 p0 r1 r3 r)) .normal (st 54 [(0, sv 0 p0.length ANY), (3, accV 1 r1.length), (4, accV 2 r3.length), (5, .bool m30), (6, iv v13)]) (H85_0 p0 r1 r3) := by
    refine NX.bk (NX.sq (TS.rg (TI.ra 3 [0, 3, 4, 5, 6] (st 54 [(0, sv 0 p0.length ANY), (3, accV 1 r1.length), (4, accV 2 r3.length), (5, .bool m30), (6, iv (w64 (v13 + 1)))]) (TI.dn ?_))))
    exact Rd.again (a2 := (st 54 [(0, sv 0 p0.length ANY), (3, accV 1 r1.length), (4, accV 2 r3.length), (5, .bool m30), (6, iv (w64 (v13 + 1)))])) (h2 := (H85_1 p0 r1 r3)) (Wk.an [1, 2] (.ac (.ac (.ac (.nil _)))) [sv 0 p0.length ANY, accV 1 r1.length, accV 2 r3.length, .bool m30, iv (w64 (v13 + 1))] (.sl (.cons (Rn.acc (nl rfl) rfl) (.cons (Rn.acc (nl rfl) rfl) (.fl (.fl .nil)))))) (ih m30 (w64 (v13 + 1)) _ hF)
   cases v12 with
   | true =>
    replace hm31 := of_pos hm31 rfl
    have hm31 := sj hm31
    subst hm31
    exact TS.rg (TI.rn 16 [0, 3, 4, 5, 6] [0, 1, 2] (st 54 [(0, sv 0 p0.length ANY), (3, accV 1 r1.length), (4, accV 2 r3.length), (5, .bool true), (6, iv v13)]) (H85_0 p0 r1 r3) (TI.dn hK))
   | false =>
    replace hm31 := of_neg hm31 rfl
    have hm31 := sj hm31
    subst hm31
    exact TS.rg (TI.rn 16 [0, 3, 4, 5, 6] [0, 1, 2] (st 54 [(0, sv 0 p0.length ANY), (3, accV 1 r1.length), (4, accV 2 r3.length), (5, .bool (decide ((w64 ((w64 ((w64 (r28.2.1 - r26.1.1)) + r28.2.2)) - r26.1.2)) ≤ 0))), (6, iv v13)]) (H85_0 p0 r1 r3) (TI.dn hK))
  | false =>
   replace hF := of_neg hF rfl
   refine TS.cdF (.tmp 23) (TS.ex 0 (NX.sqX ?_))
   have hF := sj hF
   subst hF
   exact Rd.out (e := .exit 0) (by intro h; cases h) (And.intro rfl (Wk.an [] (.ac (.nil _)) [.bool v12] (.fl .nil)))
 rcases Bool.eq_false_or_eq_true (decide (v13 < (p0.length : Int))) with hc24 | hc24
 · replace hm32 := of_pos hm32 hc24
   have hm32 := sj hm32
   subst hm32
   exact TS.rg (TI.ra 3 [0, 3, 4, 5, 6, 15, 17] (st 54 [(0, sv 0 p0.length ANY), (3, accV 1 r1.length), (4, accV 2 r3.length), (5, .bool v12), (6, iv v13), (15, iv v13), (17, iv (p0.length : Int))]) (TI.o { val := .bool true } (q_conv (e := decide (v13 < (p0.length : Int))) (b := true) (by kernel_rfl) hc24) [0, 3, 4, 5, 6, 18] [0, 1, 2] (st 54 [(0, sv 0 p0.length ANY), (3, accV 1 r1.length), (4, accV 2 r3.length), (5, .bool v12), (6, iv v13), (18, .bool true)]) (H85_1 p0 r1 r3) (TI.ra 5 [0, 3, 4, 5, 6, 23] (st 54 [(0, sv 0 p0.length ANY), (3, accV 1 r1.length), (4, accV 2 r3.length), (5, .bool v12), (6, iv v13), (23, .bool (decide ((p0.length : Int) > 1)))]) (TI.dn hK))))
 replace hm32 := of_neg hm32 hc24
 have hm32 := sj hm32
 subst hm32
 exact TS.rg (TI.ra 3 [0, 3, 4, 5, 6, 15, 17] (st 54 [(0, sv 0 p0.length ANY), (3, accV 1 r1.length), (4, accV 2 r3.length), (5, .bool v12), (6, iv v13), (15, iv v13), (17, iv (p0.length : Int))]) (TI.o { val := .bool false } (q_conv (e := decide (v13 < (p0.length : Int))) (b := false) (by kernel_rfl) hc24) [0, 3, 4, 5, 6, 18] [0, 1, 2] (st 54 [(0, sv 0 p0.length ANY), (3, accV 1 r1.length), (4, accV 2 r3.length), (5, .bool v12), (6, iv v13), (18, .bool false)]) (H85_1 p0 r1 r3) (TI.ra 5 [0, 3, 4, 5, 6, 23] (st 54 [(0, sv 0 p0.length ANY), (3, accV 1 r1.length), (4, accV 2 r3.length), (5, .bool v12), (6, iv v13), (23, .bool false)]) (TI.dn hK))))
theorem B85 (p0 : List (Int × I2)) (r : Bool) (hF : F85 p0 = some r) : TS Try.prog 1 1 c85 (st 54 [(0, sv 0 p0.length ANY)]) [ab 124 e124 p0] (NX Try.prog 1 1 [] (FinP Try.prog Try.f85 1 (V85 1 r) (N85 1 r))) := by
 unfold F85 at hF
 refine TS.sq (TS.rg (TI.ra 1 [0] (st 54 [(0, sv 0 p0.length ANY)]) (TI.dn (NX.sq (TS.sq ?_)))))
 obtain ⟨r1, h2, hF⟩ := of_do hF
 obtain ⟨r3, h4, hF⟩ := of_do hF
 refine TS.rg (TI.ra 1 [0, 11] (st 54 [(0, sv 0 p0.length ANY), (11, sv 0 p0.length ANY)]) (TI.cp 86 [sv 0 p0.length ANY, .bool false] (accV 1 r1.length) [ab 54 e54 r1] (PureSim.ren (hc := [ab 124 e124 p0]) (fun i => List.getD [(0, 0)] i (0, 0)) (C86 _ _ _ h2) (.ac (.nil _)) (.cons (Rn.any _ _ _ _ _ _ (nl rfl) rfl rfl (by decide)) (.fl .nil)) (Rn.acc (i' := 1) (nl rfl) rfl) (newflat_cons (accB_flat (fun _ => rfl)) newflat_nil)) (TI.rn 1 [0, 12, 13] [0, 1] (st 54 [(0, sv 0 p0.length ANY), (12, accV 1 r1.length), (13, sv 0 p0.length ANY)]) [ab 124 e124 p0, ab 54 e54 r1] (TI.cp 86 [sv 0 p0.length ANY, .bool true] (accV 2 r3.length) [ab 54 e54 r3] (PureSim.ren (hc := [ab 124 e124 p0]) (fun i => List.getD [(0, 0)] i (0, 0)) (C86 _ _ _ h4) (.ac (.nil _)) (.cons (Rn.any _ _ _ _ _ _ (nl rfl) rfl rfl (by decide)) (.fl .nil)) (Rn.acc (i' := 2) (nl rfl) rfl) (newflat_cons (accB_flat (fun _ => rfl)) newflat_nil)) (TI.rn 2 [0, 3, 4] [0, 1, 2] (st 54 [(0, sv 0 p0.length ANY), (3, accV 1 r1.length), (4, accV 2 r3.length)]) (H85_1 p0 r1 r3) (TI.dn (NX.sq (TS.sq ?_))))))))
 refine TS.rg (TI.ra 1 [0, 3, 4, 5] (st 54 [(0, sv 0 p0.length ANY), (3, accV 1 r1.length), (4, accV 2 r3.length), (5, .bool false)]) (TI.dn (NX.sq (TS.sq (TS.sq (TS.rg (TI.ra 1 [0, 3, 4, 5, 6] (st 54 [(0, sv 0 p0.length ANY), (3, accV 1 r1.length), (4, accV 2 r3.length), (5, .bool false), (6, iv 0)]) (TI.dn ?_))))))))
 refine NX.sq (TS.bk 0 ?_)
 obtain ⟨r33, h34, hF⟩ := of_do hF
 refine TS.lp (TL.weak (a2 := (st 54 [(0, sv 0 p0.length ANY), (3, accV 1 r1.length), (4, accV 2 r3.length), (5, .bool false), (6, iv 0)])) (h2 := (H85_1 p0 r1 r3)) (Wk.an [1, 2] (.ac (.ac (.ac (.nil _)))) [sv 0 p0.length ANY, accV 1 r1.length, accV 2 r3.length, .bool false, iv 0] (.sl (.cons (Rn.acc (nl rfl) rfl) (.cons (Rn.acc (nl rfl) rfl) (.fl (.fl .nil)))))) (TL.post (L85l0 p0 r1 r3 false 0 r33 h34) ?_))
 rintro e a1 h1 hp
 obtain ⟨rfl, hw⟩ := hp
 refine ⟨(st 54 [(5, .bool r33)]), [ab 124 e124 p0], (NX.bkX (NX.sq (TS.sq (TS.rg (TI.ra 2 [2] (st 54 [(2, .bool r33)]) (TI.dn (NX.sq (TS.rt ?_)))))))), hw⟩
 have hF := sj hF
 subst hF
 exact ⟨.inr rfl, rfl, .bool r33, by kernel_rfl, WkV.flat0 (by kernel_rfl) (nl rfl)⟩
theorem C85 (p0 : List (Int × I2)) (r : Bool) (hF : F85 p0 = some r) : PureSim Try.prog 85 [sv 0 p0.length ANY] [ab 124 e124 p0] (V85 1 r) (N85 1 r) :=
 PureSim.of_Fin Try.func85 (c := c85) (by kernel_rfl) (by kernel_rfl) 1 rfl [0] [0] (by kernel_rfl) (B85 p0 r hF)
noncomputable def c23 : Code := Try.f23.code
def S23_0 (p0 : List I2) (v14 : Int) : CAct := (st 64 [(0, sv 0 p0.length ANY), (3, iv v14), (16, sv 0 p0.length ANY), (17, iv v14)])
def S23_1 (p0 : List I2) (v14 : Int) : CAct := (st 64 [(0, sv 0 p0.length ANY), (3, iv v14), (18, .pointer (some ⟨0, 0 + (Int.toNat v14) * 2, none⟩))])
def S23_2 (p0 : List I2) (v14 : Int) : CAct := (st 64 [(0, sv 0 p0.length ANY), (3, iv v14), (19, .pointer (some ⟨0, 0 + (Int.toNat v14) * 2, none⟩))])
def F23l0 (p0 : List I2) (v14 : Int) : Option (Int ⊕ Unit) :=
 if decide (v14 < (p0.length : Int)) then
  if (0 : Int) ≤ v14 ∧ v14 < (p0.length : Int) then
   some (List.getD p0 (Int.toNat v14) (0, 0)) >>= fun o43 =>
   F57 o43.1 >>= fun r45 =>
   (
    if !r45 then
     some (true)
    else
     F64 o43.2 (-900) 900 >>= fun r48 =>
     some (!r48)
   : Option Bool) >>= fun m50 =>
   if m50 then
    some (.inl 1)
   else
    (
     if decide (v14 > 0) then
      if (0 : Int) ≤ w64 (v14 - 1) ∧ w64 (v14 - 1) < (p0.length : Int) then
       some (List.getD p0 (Int.toNat (w64 (v14 - 1))) (0, 0)) >>= fun o53 =>
       some (o43.1 == o53.1)
      else none
     else
      some (false)
    : Option Bool) >>= fun m55 =>
    if m55 then
     some (.inl 7)
    else
     (
      if decide (v14 > 0) then
       if (0 : Int) ≤ w64 (v14 - 1) ∧ w64 (v14 - 1) < (p0.length : Int) then
        some (List.getD p0 (Int.toNat (w64 (v14 - 1))) (0, 0)) >>= fun o58 =>
        some (decide (o43.1 < o58.1))
       else none
      else
       some (false)
     : Option Bool) >>= fun m60 =>
     if m60 then
      some (.inl 5)
     else
      F23l0 p0 (w64 (v14 + 1))
  else none
 else
  some (.inr ())
 partial_fixpoint
def F23 (p0 : List I2) : Option Int :=
 if (p0.length : Int) == 0 then
  some 2
 else
  if decide ((p0.length : Int) > 36) then
   some 3
  else
   F23l0 p0 0 >>= fun r64 =>
   match r64 with
   | .inl o66 =>
    some o66
   | .inr o67 =>
    some 0
def V23 (b : Nat) (r : Int) : Value := iv r
def N23 (b : Nat) (r : Int) : List Blk := []
def P23l0 (p0 : List I2) (r : Int ⊕ Unit) : Post := fun e a h => (match r with | .inl q0 => e = .ret ∧ Wk Try.prog 1 1 a h (st 64 [(2, iv q0)]) [ab 54 e54 p0] | .inr q0 => e = .exit 0 ∧ Wk Try.prog 1 1 a h (st 64 []) [ab 54 e54 p0])
theorem L23l0 (p0 : List I2) (v14 : Int) (r : Int ⊕ Unit) (hF : F23l0 p0 v14 = some r) : TL Try.prog 1 1 c23.s2.s2.s2.s1.s2.bd.bd (st 64 [(0, sv 0 p0.length ANY), (3, iv v14)]) [ab 54 e54 p0] (P23l0 p0 r) := by
 refine F23l0.partial_correctness p0 (motive := fun v14 r => TL Try.prog 1 1 c23.s2.s2.s2.s1.s2.bd.bd (st 64 [(0, sv 0 p0.length ANY), (3, iv v14)]) [ab 54 e54 p0] (P23l0 p0 r)) ?_ v14 r hF
 clear hF r v14
 intro again ih v14 r hF
 refine TL.round (TS.sq (TS.sq (TS.rg (TI.ra 4 [0, 3, 13] (st 64 [(0, sv 0 p0.length ANY), (3, iv v14), (13, .bool (decide (v14 < (p0.length : Int))))]) (TI.dn (NX.sq ?_))))))
 refine TS.cd (.tmp 13) (decide (v14 < (p0.length : Int))) (fun hc41 => ?_) (fun hc41 => ?_)
 · replace hF := of_pos hF hc41
   refine TS.sk (NX.sq (TS.sq (TS.bk 1 (TS.sq (TS.sq ?_)))))
   obtain ⟨hg42, hF⟩ := of_guard hF
   obtain ⟨o43, h44, hF⟩ := of_do hF
   replace h44 := sj h44
   obtain ⟨r45, h46, hF⟩ := of_do hF
   obtain ⟨m50, hm63, hF⟩ := of_do hF
   have hK : NX Try.prog 1 1 [.sq c23.s2.s2.s2.s1.s2.bd.bd.s2.s1.bd.s1.s2, .sq c23.s2.s2.s2.s1.s2.bd.bd.s2.s1.bd.s2, .bk 1, .sq c23.s2.s2.s2.s1.s2.bd.bd.s2.s2] (Rd Try.prog 1 1 c23.s2.s2.s2.s1.s2.bd.bd (P23l0 p0 r)) .normal (st 64 [(0, sv 0 p0.length ANY), (3, iv v14), (31, .bool m50)]) [ab 54 e54 p0] := by
    refine NX.sq ?_
    cases m50 with
    | true =>
     replace hF := of_pos hF rfl
     refine TS.cdT (.tmp 31) (TS.sq (TS.rg (TI.ra 1 [2] (st 64 [(2, iv 1)]) (TI.dn (NX.sq (TS.rt (NX.sqR (NX.bkR ?_))))))))
     refine NX.sqR ?_
     have hF := sj hF
     subst hF
     exact Rd.out (e := .ret) (by intro h; cases h) (And.intro rfl (Wk.an [] (.ac (.nil _)) [iv 1] (.fl .nil)))
    | false =>
     replace hF := of_neg hF rfl
     refine TS.cdF (.tmp 31) (TS.sk (NX.sq (TS.sq (TS.sq ?_))))
     obtain ⟨m55, hm62, hF⟩ := of_do hF
     have hK : NX Try.prog 1 1 [.sq c23.s2.s2.s2.s1.s2.bd.bd.s2.s1.bd.s2.s1.s2, .sq c23.s2.s2.s2.s1.s2.bd.bd.s2.s1.bd.s2.s2, .bk 1, .sq c23.s2.s2.s2.s1.s2.bd.bd.s2.s2] (Rd Try.prog 1 1 c23.s2.s2.s2.s1.s2.bd.bd (P23l0 p0 r)) .normal (st 64 [(0, sv 0 p0.length ANY), (3, iv v14), (47, .bool m55)]) [ab 54 e54 p0] := by
      refine NX.sq ?_
      cases m55 with
      | true =>
       replace hF := of_pos hF rfl
       refine TS.cdT (.tmp 47) (TS.sq (TS.rg (TI.ra 1 [2] (st 64 [(2, iv 7)]) (TI.dn (NX.sq (TS.rt (NX.sqR (NX.bkR ?_))))))))
       refine NX.sqR ?_
       have hF := sj hF
       subst hF
       exact Rd.out (e := .ret) (by intro h; cases h) (And.intro rfl (Wk.an [] (.ac (.nil _)) [iv 7] (.fl .nil)))
      | false =>
       replace hF := of_neg hF rfl
       refine TS.cdF (.tmp 47) (TS.sk (NX.sq (TS.sq ?_)))
       obtain ⟨m60, hm61, hF⟩ := of_do hF
       have hK : NX Try.prog 1 1 [.sq c23.s2.s2.s2.s1.s2.bd.bd.s2.s1.bd.s2.s2.s2, .bk 1, .sq c23.s2.s2.s2.s1.s2.bd.bd.s2.s2] (Rd Try.prog 1 1 c23.s2.s2.s2.s1.s2.bd.bd (P23l0 p0 r)) .normal (st 64 [(0, sv 0 p0.length ANY), (3, iv v14), (63, .bool m60)]) [ab 54 e54 p0] := by
        refine NX.sq ?_
        cases m60 with
        | true =>
         replace hF := of_pos hF rfl
         refine TS.cdT (.tmp 63) (TS.sq (TS.rg (TI.ra 1 [2] (st 64 [(2, iv 5)]) (TI.dn (NX.sq (TS.rt (NX.bkR (NX.sqR ?_))))))))
         have hF := sj hF
         subst hF
         exact Rd.out (e := .ret) (by intro h; cases h) (And.intro rfl (Wk.an [] (.ac (.nil _)) [iv 5] (.fl .nil)))
        | false =>
         replace hF := of_neg hF rfl
         refine TS.cdF (.tmp 63) (TS.sk (NX.bk (NX.sq (TS.rg (TI.ra 3 [0, 3] (st 64 [(0, sv 0 p0.length ANY), (3, iv (w64 (v14 + 1)))]) (TI.dn ?_))))))
         exact Rd.again (a2 := (st 64 [(0, sv 0 p0.length ANY), (3, iv (w64 (v14 + 1)))])) (h2 := [ab 54 e54 p0]) (Wk.an [] (.ac (.nil _)) [sv 0 p0.length ANY, iv (w64 (v14 + 1))] (.sl (.fl .nil))) (ih (w64 (v14 + 1)) _ hF)
       rcases Bool.eq_false_or_eq_true (decide (v14 > 0)) with hc56 | hc56
       · replace hm61 := of_pos hm61 hc56
         have hX := of_guard hm61
         clear hm61
         obtain ⟨hg57, hm61⟩ := hX
         have hX := of_do hm61
         clear hm61
         obtain ⟨o58, h59, hm61⟩ := hX
         replace h59 := sj h59
         have hm61 := sj hm61
         subst hm61
         refine TS.dp [] (fun e he => by cases he) mixed 14 [0, 3, 63] [0] (st 64 [(0, sv 0 p0.length ANY), (3, iv v14), (63, .bool (decide (o43.1 < o58.1)))]) [ab 54 e54 p0] ?_ ?_
         · refine QJ.rn (qs (st 64 [(0, sv 0 p0.length ANY), (3, iv v14), (47, .bool false), (48, iv v14)]) [ab 54 e54 p0] [] []) 1 (QJ.o { val := .bool true } (q_conv (e := decide (v14 > 0)) (b := true) (by kernel_rfl) hc56) (QJ.rn (qs (st 64 [(0, sv 0 p0.length ANY), (3, iv v14), (47, .bool false), (48, iv v14), (49, .bool true), (50, .bool true), (51, sv 0 p0.length ANY), (52, iv v14)]) [ab 54 e54 p0] [] []) 3 (QJ.o { val := .pointer (some ⟨0, 0 + (Int.toNat v14) * 2, none⟩) } (q_ixS 0 0 ((Int.toNat v14) * 2) (by kernel_rfl) hg42) (QJ.rn (qs (st 64 [(0, sv 0 p0.length ANY), (3, iv v14), (47, .bool false), (48, iv v14), (49, .bool true), (50, .bool true), (51, sv 0 p0.length ANY), (52, iv v14), (53, .pointer (some ⟨0, 0 + (Int.toNat v14) * 2, none⟩)), (54, .pointer (some ⟨0, 0 + (Int.toNat v14) * 2, none⟩))]) [ab 54 e54 p0] [] []) 1 (QJ.o { val := iv o43.1 } (q_n1a Try.prog [ab 54 e54 p0] 3 0 (0 + (Int.toNat v14) * 2) p0 e54 2 54 (Int.toNat v14) 0 (0, 0) h44) (QJ.rn (qs (st 64 [(0, sv 0 p0.length ANY), (3, iv v14), (47, .bool false), (48, iv v14), (49, .bool true), (50, .bool true), (51, sv 0 p0.length ANY), (52, iv v14), (53, .pointer (some ⟨0, 0 + (Int.toNat v14) * 2, none⟩)), (54, .pointer (some ⟨0, 0 + (Int.toNat v14) * 2, none⟩)), (55, iv o43.1), (56, sv 0 p0.length ANY), (57, iv v14), (58, iv (w64 (v14 - 1)))]) [ab 54 e54 p0] [] []) 3 (QJ.o { val := .pointer (some ⟨0, 0 + (Int.toNat (w64 (v14 - 1))) * 2, none⟩) } (q_ixS 0 0 ((Int.toNat (w64 (v14 - 1))) * 2) (by kernel_rfl) hg57) (QJ.rn (qs (st 64 [(0, sv 0 p0.length ANY), (3, iv v14), (47, .bool false), (48, iv v14), (49, .bool true), (50, .bool true), (51, sv 0 p0.length ANY), (52, iv v14), (53, .pointer (some ⟨0, 0 + (Int.toNat v14) * 2, none⟩)), (54, .pointer (some ⟨0, 0 + (Int.toNat v14) * 2, none⟩)), (55, iv o43.1), (56, sv 0 p0.length ANY), (57, iv v14), (58, iv (w64 (v14 - 1))), (59, .pointer (some ⟨0, 0 + (Int.toNat (w64 (v14 - 1))) * 2, none⟩)), (60, .pointer (some ⟨0, 0 + (Int.toNat (w64 (v14 - 1))) * 2, none⟩))]) [ab 54 e54 p0] [] []) 1 ?_))))))))
           exact QJ.o { val := iv o58.1 } (q_n1a Try.prog [ab 54 e54 p0] 3 0 (0 + (Int.toNat (w64 (v14 - 1))) * 2) p0 e54 2 54 (Int.toNat (w64 (v14 - 1))) 0 (0, 0) h59) (QJ.dn ⟨rfl, SJ.la⟩)
         exact hK
       replace hm61 := of_neg hm61 hc56
       have hm61 := sj hm61
       subst hm61
       refine TS.dp [] (fun e he => by cases he) mixed 14 [0, 3, 63] [0] (st 64 [(0, sv 0 p0.length ANY), (3, iv v14), (63, .bool false)]) [ab 54 e54 p0] ?_ ?_
       · exact QJ.rn (qs (st 64 [(0, sv 0 p0.length ANY), (3, iv v14), (47, .bool false), (48, iv v14)]) [ab 54 e54 p0] [] []) 1 (QJ.o { val := .bool false } (q_conv (e := decide (v14 > 0)) (b := false) (by kernel_rfl) hc56) (QJ.rn (qs (st 64 [(0, sv 0 p0.length ANY), (3, iv v14), (47, .bool false), (48, iv v14), (49, .bool false), (50, .bool false), (51, undef), (52, undef), (53, undef), (54, undef), (55, undef), (56, undef), (57, undef), (58, undef), (59, undef), (60, undef), (61, undef)]) [ab 54 e54 p0] [] []) 12 (QJ.dn ⟨rfl, SJ.la⟩)))
       exact hK
     rcases Bool.eq_false_or_eq_true (decide (v14 > 0)) with hc51 | hc51
     · replace hm62 := of_pos hm62 hc51
       have hX := of_guard hm62
       clear hm62
       obtain ⟨hg52, hm62⟩ := hX
       have hX := of_do hm62
       clear hm62
       obtain ⟨o53, h54, hm62⟩ := hX
       replace h54 := sj h54
       have hm62 := sj hm62
       subst hm62
       refine TS.dp [] (fun e he => by cases he) mixed 14 [0, 3, 47] [0] (st 64 [(0, sv 0 p0.length ANY), (3, iv v14), (47, .bool (o43.1 == o53.1))]) [ab 54 e54 p0] ?_ ?_
       · refine QJ.rn (qs (st 64 [(0, sv 0 p0.length ANY), (3, iv v14), (31, .bool false), (32, iv v14)]) [ab 54 e54 p0] [] []) 1 (QJ.o { val := .bool true } (q_conv (e := decide (v14 > 0)) (b := true) (by kernel_rfl) hc51) (QJ.rn (qs (st 64 [(0, sv 0 p0.length ANY), (3, iv v14), (31, .bool false), (32, iv v14), (33, .bool true), (34, .bool true), (35, sv 0 p0.length ANY), (36, iv v14)]) [ab 54 e54 p0] [] []) 3 (QJ.o { val := .pointer (some ⟨0, 0 + (Int.toNat v14) * 2, none⟩) } (q_ixS 0 0 ((Int.toNat v14) * 2) (by kernel_rfl) hg42) (QJ.rn (qs (st 64 [(0, sv 0 p0.length ANY), (3, iv v14), (31, .bool false), (32, iv v14), (33, .bool true), (34, .bool true), (35, sv 0 p0.length ANY), (36, iv v14), (37, .pointer (some ⟨0, 0 + (Int.toNat v14) * 2, none⟩)), (38, .pointer (some ⟨0, 0 + (Int.toNat v14) * 2, none⟩))]) [ab 54 e54 p0] [] []) 1 (QJ.o { val := iv o43.1 } (q_n1a Try.prog [ab 54 e54 p0] 3 0 (0 + (Int.toNat v14) * 2) p0 e54 2 54 (Int.toNat v14) 0 (0, 0) h44) (QJ.rn (qs (st 64 [(0, sv 0 p0.length ANY), (3, iv v14), (31, .bool false), (32, iv v14), (33, .bool true), (34, .bool true), (35, sv 0 p0.length ANY), (36, iv v14), (37, .pointer (some ⟨0, 0 + (Int.toNat v14) * 2, none⟩)), (38, .pointer (some ⟨0, 0 + (Int.toNat v14) * 2, none⟩)), (39, iv o43.1), (40, sv 0 p0.length ANY), (41, iv v14), (42, iv (w64 (v14 - 1)))]) [ab 54 e54 p0] [] []) 3 (QJ.o { val := .pointer (some ⟨0, 0 + (Int.toNat (w64 (v14 - 1))) * 2, none⟩) } (q_ixS 0 0 ((Int.toNat (w64 (v14 - 1))) * 2) (by kernel_rfl) hg52) (QJ.rn (qs (st 64 [(0, sv 0 p0.length ANY), (3, iv v14), (31, .bool false), (32, iv v14), (33, .bool true), (34, .bool true), (35, sv 0 p0.length ANY), (36, iv v14), (37, .pointer (some ⟨0, 0 + (Int.toNat v14) * 2, none⟩)), (38, .pointer (some ⟨0, 0 + (Int.toNat v14) * 2, none⟩)), (39, iv o43.1), (40, sv 0 p0.length ANY), (41, iv v14), (42, iv (w64 (v14 - 1))), (43, .pointer (some ⟨0, 0 + (Int.toNat (w64 (v14 - 1))) * 2, none⟩)), (44, .pointer (some ⟨0, 0 + (Int.toNat (w64 (v14 - 1))) * 2, none⟩))]) [ab 54 e54 p0] [] []) 1 ?_))))))))
         exact QJ.o { val := iv o53.1 } (q_n1a Try.prog [ab 54 e54 p0] 3 0 (0 + (Int.toNat (w64 (v14 - 1))) * 2) p0 e54 2 54 (Int.toNat (w64 (v14 - 1))) 0 (0, 0) h54) (QJ.dn ⟨rfl, SJ.la⟩)
       exact hK
     replace hm62 := of_neg hm62 hc51
     have hm62 := sj hm62
     subst hm62
     refine TS.dp [] (fun e he => by cases he) mixed 14 [0, 3, 47] [0] (st 64 [(0, sv 0 p0.length ANY), (3, iv v14), (47, .bool false)]) [ab 54 e54 p0] ?_ ?_
     · exact QJ.rn (qs (st 64 [(0, sv 0 p0.length ANY), (3, iv v14), (31, .bool false), (32, iv v14)]) [ab 54 e54 p0] [] []) 1 (QJ.o { val := .bool false } (q_conv (e := decide (v14 > 0)) (b := false) (by kernel_rfl) hc51) (QJ.rn (qs (st 64 [(0, sv 0 p0.length ANY), (3, iv v14), (31, .bool false), (32, iv v14), (33, .bool false), (34, .bool false), (35, undef), (36, undef), (37, undef), (38, undef), (39, undef), (40, undef), (41, undef), (42, undef), (43, undef), (44, undef), (45, undef)]) [ab 54 e54 p0] [] []) 12 (QJ.dn ⟨rfl, SJ.la⟩)))
     exact hK
   rcases Bool.eq_false_or_eq_true (!r45) with hc47 | hc47
   · replace hm63 := of_pos hm63 hc47
     have hm63 := sj hm63
     subst hm63
     refine TS.rg (TI.ra 2 [0, 3, 16, 17] (S23_0 p0 v14) (TI.o { val := .pointer (some ⟨0, 0 + (Int.toNat v14) * 2, none⟩) } (q_ixS 0 0 ((Int.toNat v14) * 2) (by kernel_rfl) hg42) [0, 3, 18] [0] (S23_1 p0 v14) [ab 54 e54 p0] (TI.ra 1 [0, 3, 19] (S23_2 p0 v14) (TI.o { val := iv o43.1 } (q_n1a Try.prog [ab 54 e54 p0] 3 0 (0 + (Int.toNat v14) * 2) p0 e54 2 54 (Int.toNat v14) 0 (0, 0) h44) [0, 3, 20] [0] (st 64 [(0, sv 0 p0.length ANY), (3, iv v14), (20, iv o43.1)]) [ab 54 e54 p0] (TI.cm (PureSim.ak (C57 _ _ h46)) [0, 3, 21] [0] (st 64 [(0, sv 0 p0.length ANY), (3, iv v14), (21, .bool r45)]) [ab 54 e54 p0] (TI.o { val := .bool true } (q_conv (e := !r45) (b := true) (by kernel_rfl) hc47) [0, 3, 22] [0] (st 64 [(0, sv 0 p0.length ANY), (3, iv v14), (22, .bool true)]) [ab 54 e54 p0] (TI.ra 9 [0, 3, 31] (st 64 [(0, sv 0 p0.length ANY), (3, iv v14), (31, .bool true)]) (TI.dn ?_))))))))
     exact hK
   replace hm63 := of_neg hm63 hc47
   have hX := of_do hm63
   clear hm63
   obtain ⟨r48, h49, hm63⟩ := hX
   have hm63 := sj hm63
   subst hm63
   refine TS.rg (TI.ra 2 [0, 3, 16, 17] (S23_0 p0 v14) (TI.o { val := .pointer (some ⟨0, 0 + (Int.toNat v14) * 2, none⟩) } (q_ixS 0 0 ((Int.toNat v14) * 2) (by kernel_rfl) hg42) [0, 3, 18] [0] (S23_1 p0 v14) [ab 54 e54 p0] (TI.ra 1 [0, 3, 19] (S23_2 p0 v14) (TI.o { val := iv o43.1 } (q_n1a Try.prog [ab 54 e54 p0] 3 0 (0 + (Int.toNat v14) * 2) p0 e54 2 54 (Int.toNat v14) 0 (0, 0) h44) [0, 3, 20] [0] (st 64 [(0, sv 0 p0.length ANY), (3, iv v14), (20, iv o43.1)]) [ab 54 e54 p0] (TI.cm (PureSim.ak (C57 _ _ h46)) [0, 3, 21] [0] (st 64 [(0, sv 0 p0.length ANY), (3, iv v14), (21, .bool r45)]) [ab 54 e54 p0] (TI.o { val := .bool false } (q_conv (e := !r45) (b := false) (by kernel_rfl) hc47) [0, 3, 22] [0] (st 64 [(0, sv 0 p0.length ANY), (3, iv v14), (22, .bool false)]) [ab 54 e54 p0] (TI.ra 3 [0, 3, 23, 24, 25] (st 64 [(0, sv 0 p0.length ANY), (3, iv v14), (23, .bool false), (24, sv 0 p0.length ANY), (25, iv v14)]) (TI.o { val := .pointer (some ⟨0, 0 + (Int.toNat v14) * 2, none⟩) } (q_ixS 0 0 ((Int.toNat v14) * 2) (by kernel_rfl) hg42) [0, 3, 23, 26] [0] (st 64 [(0, sv 0 p0.length ANY), (3, iv v14), (23, .bool false), (26, .pointer (some ⟨0, 0 + (Int.toNat v14) * 2, none⟩))]) [ab 54 e54 p0] ?_))))))))
   exact TI.ra 1 [0, 3, 23, 27] (st 64 [(0, sv 0 p0.length ANY), (3, iv v14), (23, .bool false), (27, .pointer (some ⟨0, 0 + (Int.toNat v14) * 2 + 1, none⟩))]) (TI.o { val := iv o43.2 } (q_n1a Try.prog [ab 54 e54 p0] 3 0 (0 + (Int.toNat v14) * 2 + 1) p0 e54 2 54 (Int.toNat v14) 1 (0, 0) h44) [0, 3, 23, 28] [0] (st 64 [(0, sv 0 p0.length ANY), (3, iv v14), (23, .bool false), (28, iv o43.2)]) [ab 54 e54 p0] (TI.cf (C64 _ _ _ _ h49) (TI.ra 2 [0, 3, 31] (st 64 [(0, sv 0 p0.length ANY), (3, iv v14), (31, .bool (!r48))]) (TI.dn hK))))
 replace hF := of_neg hF hc41
 refine TS.ex 0 (NX.sqX ?_)
 have hF := sj hF
 subst hF
 exact Rd.out (e := .exit 0) (by intro h; cases h) (And.intro rfl (Wk.an [] (.ac (.nil _)) [] .nil))
theorem B23 (p0 : List I2) (r : Int) (hF : F23 p0 = some r) : TS Try.prog 1 1 c23 (st 64 [(0, sv 0 p0.length ANY)]) [ab 54 e54 p0] (NX Try.prog 1 1 [] (FinP Try.prog Try.f23 1 (V23 1 r) (N23 1 r))) := by
 unfold F23 at hF
 refine TS.sq (TS.rg (TI.ra 1 [0] (st 64 [(0, sv 0 p0.length ANY)]) (TI.dn (NX.sq (TS.sq (TS.sq (TS.rg (TI.ra 3 [0, 6] (st 64 [(0, sv 0 p0.length ANY), (6, .bool ((p0.length : Int) == 0))]) ?_))))))))
 refine TI.dn (NX.sq ?_)
 refine TS.cd (.tmp 6) ((p0.length : Int) == 0) (fun hc1 => ?_) (fun hc1 => ?_)
 · replace hF := of_pos hF hc1
   refine TS.sq (TS.rg (TI.ra 1 [2] (st 64 [(2, iv 2)]) (TI.dn (NX.sq (TS.rt (NX.sqR ?_))))))
   have hF := sj hF
   subst hF
   exact ⟨.inr rfl, rfl, iv 2, by kernel_rfl, WkV.flat0 (by kernel_rfl) (nl rfl)⟩
 replace hF := of_neg hF hc1
 refine TS.sk (NX.sq (TS.sq (TS.sq (TS.rg (TI.ra 3 [0, 9] (st 64 [(0, sv 0 p0.length ANY), (9, .bool (decide ((p0.length : Int) > 36)))]) (TI.dn (NX.sq ?_)))))))
 refine TS.cd (.tmp 9) (decide ((p0.length : Int) > 36)) (fun hc2 => ?_) (fun hc2 => ?_)
 · replace hF := of_pos hF hc2
   refine TS.sq (TS.rg (TI.ra 1 [2] (st 64 [(2, iv 3)]) (TI.dn (NX.sq (TS.rt (NX.sqR ?_))))))
   have hF := sj hF
   subst hF
   exact ⟨.inr rfl, rfl, iv 3, by kernel_rfl, WkV.flat0 (by kernel_rfl) (nl rfl)⟩
 replace hF := of_neg hF hc2
 refine TS.sk (NX.sq (TS.sq (TS.sq (TS.rg (TI.ra 1 [0, 3] (st 64 [(0, sv 0 p0.length ANY), (3, iv 0)]) (TI.dn (NX.sq (TS.bk 0 ?_))))))))
 obtain ⟨r64, h65, hF⟩ := of_do hF
 refine TS.lp (TL.weak (a2 := (st 64 [(0, sv 0 p0.length ANY), (3, iv 0)])) (h2 := [ab 54 e54 p0]) (Wk.an [] (.ac (.nil _)) [sv 0 p0.length ANY, iv 0] (.sl (.fl .nil))) (TL.post (L23l0 p0 0 r64 h65) ?_))
 rintro e a1 h1 hp
 rcases r64 with o66 | o67
 · skip
   obtain ⟨rfl, hw⟩ := hp
   refine ⟨(st 64 [(2, iv o66)]), [ab 54 e54 p0], (NX.bkR (NX.sqR ?_)), hw⟩
   have hF := sj hF
   subst hF
   exact ⟨.inr rfl, rfl, iv o66, by kernel_rfl, WkV.flat0 (by kernel_rfl) (nl rfl)⟩
 skip
 obtain ⟨rfl, hw⟩ := hp
 refine ⟨(st 64 []), [ab 54 e54 p0], (NX.bkX (NX.sq (TS.sq (TS.rg (TI.ra 1 [2] (st 64 [(2, iv 0)]) (TI.dn (NX.sq (TS.rt ?_)))))))), hw⟩
 have hF := sj hF
 subst hF
 exact ⟨.inr rfl, rfl, iv 0, by kernel_rfl, WkV.flat0 (by kernel_rfl) (nl rfl)⟩
theorem C23 (p0 : List I2) (r : Int) (hF : F23 p0 = some r) : PureSim Try.prog 23 [sv 0 p0.length ANY] [ab 54 e54 p0] (V23 1 r) (N23 1 r) :=
 PureSim.of_Fin Try.func23 (c := c23) (by kernel_rfl) (by kernel_rfl) 1 rfl [0] [0] (by kernel_rfl) (B23 p0 r hF)
noncomputable def c61 : Code := Try.f61.code
def F61 (p0 : List I2) (p1 : Int) : Option Int :=
 F66 p0 p1 >>= fun r1 =>
 some (w64 ((w64 ((w64 (r1.2.1 - r1.1.1)) + r1.2.2)) - r1.1.2))
def V61 (b : Nat) (r : Int) : Value := iv r
def N61 (b : Nat) (r : Int) : List Blk := []
theorem B61 (p0 : List I2) (p1 r : Int) (hF : F61 p0 p1 = some r) : TS Try.prog 1 1 c61 (st 24 [(0, sv 0 p0.length ANY), (1, iv p1)]) [ab 54 e54 p0] (NX Try.prog 1 1 [] (FinP Try.prog Try.f61 1 (V61 1 r) (N61 1 r))) := by
 unfold F61 at hF
 refine TS.sq (TS.rg (TI.ra 1 [0, 1] (st 24 [(0, sv 0 p0.length ANY), (1, iv p1)]) (TI.dn (NX.sq (TS.sq ?_)))))
 obtain ⟨r1, h2, hF⟩ := of_do hF
 refine TS.rg (TI.ra 2 [8, 9] (st 24 [(8, sv 0 p0.length ANY), (9, iv p1)]) (TI.cp 66 [sv 0 p0.length ANY, iv p1] (.tuple ⟨[ag [iv r1.1.1, iv r1.1.2], ag [iv r1.2.1, iv r1.2.2]]⟩) [] (PureSim.ren (hc := [ab 54 e54 p0]) (fun i => List.getD [(0, 0)] i (0, 0)) (C66 _ _ _ h2) (.ac (.nil _)) (.cons (Rn.any _ _ _ _ _ _ (nl rfl) rfl rfl (by decide)) (.fl .nil)) (.flat (by kernel_rfl)) newflat_nil) (TI.rn 7 [5, 6] [0, 1, 2] (st 24 [(5, pt 1 0), (6, pt 2 0)]) [ab 54 e54 p0, cl 54 [iv r1.1.1, iv r1.1.2], cl 54 [iv r1.2.1, iv r1.2.2]] (TI.dn (NX.sq (TS.sq (TS.rg (TI.rn 12 [4] [0] (st 24 [(4, iv (w64 ((w64 ((w64 (r1.2.1 - r1.1.1)) + r1.2.2)) - r1.1.2)))]) [ab 54 e54 p0, .dead, .dead] ?_))))))))
 refine TI.dn (NX.sq (TS.rt ?_))
 have hF := sj hF
 subst hF
 exact ⟨.inr rfl, rfl, iv (w64 ((w64 ((w64 (r1.2.1 - r1.1.1)) + r1.2.2)) - r1.1.2)), by kernel_rfl, WkV.flat0 (by kernel_rfl) (nl rfl)⟩
theorem C61 (p0 : List I2) (p1 r : Int) (hF : F61 p0 p1 = some r) : PureSim Try.prog 61 [sv 0 p0.length ANY, iv p1] [ab 54 e54 p0] (V61 1 r) (N61 1 r) :=
 PureSim.of_Fin Try.func61 (c := c61) (by kernel_rfl) (by kernel_rfl) 1 rfl [0, 1] [0] (by kernel_rfl) (B61 p0 p1 r hF)
noncomputable def c20 : Code := Try.f20.code
def F20l0 (p0 : List I2) (v9 : List Int) (v8 : Int) : Option (List Int) :=
 if decide (v8 < (p0.length : Int)) then
  F61 p0 v8 >>= fun r18 =>
  (
   if decide (r18 ≤ 0) then
    if List.length v9 ≤ 1000000000 then
     some (v9 ++ [v8])
    else none
   else
    some v9
  : Option (List Int)) >>= fun m23 =>
  F20l0 p0 m23 (w64 (v8 + 1))
 else
  some v9
 partial_fixpoint
def F20 (p0 : List I2) : Option ((List Int) × Int) :=
 F23 p0 >>= fun r1 =>
 if r1 != 0 then
  some ([], r1)
 else
  F20l0 p0 ([]) 0 >>= fun r27 =>
  some (r27, 0)
def V20 (b : Nat) (r : (List Int) × Int) : Value := .tuple ⟨[accV (b + 0) r.1.length, iv r.2]⟩
def N20 (b : Nat) (r : (List Int) × Int) : List Blk := [ab 3 e3 r.1]
def P20l0 (p0 : List I2) (r : List Int) : Post := fun e a h => e = .exit 0 ∧ Wk Try.prog 1 1 a h (st 27 [(5, accV 1 r.length)]) [ab 54 e54 p0, ab 3 e3 r]
theorem L20l0 (p0 : List I2) (v9 : List Int) (v8 : Int) (r : List Int) (hF : F20l0 p0 v9 v8 = some r) : TL Try.prog 1 1 c20.s2.s2.s2.s2.s1.s2.bd.bd (st 27 [(0, sv 0 p0.length ANY), (5, accV 1 v9.length), (6, iv v8)]) [ab 54 e54 p0, ab 3 e3 v9] (P20l0 p0 r) := by
 refine F20l0.partial_correctness p0 (motive := fun v9 v8 r => TL Try.prog 1 1 c20.s2.s2.s2.s2.s1.s2.bd.bd (st 27 [(0, sv 0 p0.length ANY), (5, accV 1 v9.length), (6, iv v8)]) [ab 54 e54 p0, ab 3 e3 v9] (P20l0 p0 r)) ?_ v9 v8 r hF
 clear hF r v9 v8
 intro again ih v9 v8 r hF
 refine TL.round (TS.sq (TS.sq (TS.rg (TI.ra 4 [0, 5, 6, 15] (st 27 [(0, sv 0 p0.length ANY), (5, accV 1 v9.length), (6, iv v8), (15, .bool (decide (v8 < (p0.length : Int))))]) (TI.dn (NX.sq ?_))))))
 refine TS.cd (.tmp 15) (decide (v8 < (p0.length : Int))) (fun hc17 => ?_) (fun hc17 => ?_)
 · replace hF := of_pos hF hc17
   refine TS.sk (NX.sq (TS.sq (TS.bk 1 (TS.sq ?_))))
   obtain ⟨r18, h19, hF⟩ := of_do hF
   refine TS.rg (TI.ra 2 [0, 5, 6, 18, 19] (st 27 [(0, sv 0 p0.length ANY), (5, accV 1 v9.length), (6, iv v8), (18, sv 0 p0.length ANY), (19, iv v8)]) (TI.cp 61 [sv 0 p0.length ANY, iv v8] (iv r18) [] (PureSim.ren (hc := [ab 54 e54 p0]) (fun i => List.getD [(0, 0)] i (0, 0)) (C61 _ _ _ h19) (.ac (.nil _)) (.cons (Rn.any _ _ _ _ _ _ (nl rfl) rfl rfl (by decide)) (.fl .nil)) (.flat (by kernel_rfl)) newflat_nil) (TI.ra 1 [0, 5, 6, 21] (st 27 [(0, sv 0 p0.length ANY), (5, accV 1 v9.length), (6, iv v8), (21, .bool (decide (r18 ≤ 0)))]) (TI.dn (NX.sq ?_)))))
   obtain ⟨m23, hm24, hF⟩ := of_do hF
   have hK : NX Try.prog 1 1 [.bk 1, .sq c20.s2.s2.s2.s2.s1.s2.bd.bd.s2.s2] (Rd Try.prog 1 1 c20.s2.s2.s2.s2.s1.s2.bd.bd (P20l0 p0 r)) .normal (st 27 [(0, sv 0 p0.length ANY), (5, accV 1 m23.length), (6, iv v8)]) [ab 54 e54 p0, ab 3 e3 m23] := by
    refine NX.bk (NX.sq (TS.rg (TI.ra 3 [0, 5, 6] (st 27 [(0, sv 0 p0.length ANY), (5, accV 1 m23.length), (6, iv (w64 (v8 + 1)))]) (TI.dn ?_))))
    exact Rd.again (a2 := (st 27 [(0, sv 0 p0.length ANY), (5, accV 1 m23.length), (6, iv (w64 (v8 + 1)))])) (h2 := [ab 54 e54 p0, ab 3 e3 m23]) (Wk.an [1] (.ac (.ac (.nil _))) [sv 0 p0.length ANY, accV 1 m23.length, iv (w64 (v8 + 1))] (.sl (.cons (Rn.acc (nl rfl) rfl) (.fl .nil)))) (ih m23 (w64 (v8 + 1)) _ hF)
   clear hF
   have hF := hm24
   clear hm24
   refine TS.start ?_
   refine TS.cd (.tmp 21) (decide (r18 ≤ 0)) (fun hc25 => ?_) (fun hc25 => ?_)
   · replace hF := of_pos hF hc25
     obtain ⟨hg26, hF⟩ := of_guard hF
     refine TS.rg (TI.rn 3 [0, 6, 22, 24] [0, 1, 2] (st 27 [(0, sv 0 p0.length ANY), (6, iv v8), (22, accV 1 v9.length), (24, sv 2 1 1)]) [ab 54 e54 p0, ab 3 e3 v9, cl 3 [iv v8]] (TI.acc (l := v9) (b := 1) (ts := #[34, 34]) (e := 3) (bytes := 8) (z := iv 0) (y := sv 2 1 1) (ys := [v8]) (xs := List.flatMap e3 ([v8])) (m := 1) (s := 1) (enc := e3) (by kernel_rfl) (by kernel_rfl) (by decide) (by kernel_rfl) (by kernel_rfl) (by kernel_rfl) (by kernel_rfl) (by kernel_rfl) (by kernel_rfl) (by kernel_rfl) (by kernel_rfl) (fun _ => rfl) rfl rfl (by omega) [0, 6, 25] [0, 3] (a2 := (st 27 [(0, sv 0 p0.length ANY), (6, iv v8), (25, sv 3 (List.length (v9 ++ [v8])) UNK)])) (h2 := [ab 54 e54 p0, .dead, .dead, .cells 3 (List.flatMap e3 (v9 ++ [v8]))]) (by kernel_rfl) (TI.ra 1 [0, 5, 6] (st 27 [(0, sv 0 p0.length ANY), (5, sv 3 (List.length (v9 ++ [v8])) UNK), (6, iv v8)]) (TI.dn ?_))))
     have hF := sj hF
     subst hF
     exact TS.weak (by exact (Wk.an [3] (.ac (.cons (At.accU (by kernel_rfl) rfl (fun _ => rfl)) (.nil _))) [sv 0 p0.length ANY, sv 3 (List.length (v9 ++ [v8])) UNK, iv v8] (.sl (.cons (Rn.accU (nl rfl) rfl (by simp)) (.fl .nil))))) hK
   replace hF := of_neg hF hc25
   refine TS.sk ?_
   have hF := sj hF
   subst hF
   exact TS.weak (by exact (Wk.an [1] (.ac (.ac (.nil _))) [sv 0 p0.length ANY, accV 1 v9.length, iv v8] (.sl (.cons (Rn.acc (nl rfl) rfl) (.fl .nil))))) hK
 replace hF := of_neg hF hc17
 refine TS.ex 0 (NX.sqX ?_)
 have hF := sj hF
 subst hF
 exact Rd.out (e := .exit 0) (by intro h; cases h) (And.intro rfl (Wk.an [1] (.ac (.ac (.nil _))) [accV 1 v9.length] (.cons (Rn.acc (nl rfl) rfl) .nil)))
theorem B20 (p0 : List I2) (r : (List Int) × Int) (hF : F20 p0 = some r) : TS Try.prog 1 1 c20 (st 27 [(0, sv 0 p0.length ANY)]) [ab 54 e54 p0] (NX Try.prog 1 1 [] (FinP Try.prog Try.f20 1 (V20 1 r) (N20 1 r))) := by
 unfold F20 at hF
 refine TS.sq (TS.rg (TI.ra 2 [0] (st 27 [(0, sv 0 p0.length ANY)]) (TI.dn (NX.sq (TS.sq ?_)))))
 obtain ⟨r1, h2, hF⟩ := of_do hF
 refine TS.rg (TI.ra 1 [0, 7] (st 27 [(0, sv 0 p0.length ANY), (7, sv 0 p0.length ANY)]) (TI.cp 23 [sv 0 p0.length ANY] (iv r1) [] (PureSim.ren (hc := [ab 54 e54 p0]) (fun i => List.getD [(0, 0)] i (0, 0)) (C23 _ _ h2) (.ac (.nil _)) (.cons (Rn.any _ _ _ _ _ _ (nl rfl) rfl rfl (by decide)) .nil) (.flat (by kernel_rfl)) newflat_nil) (TI.ra 1 [0, 4] (st 27 [(0, sv 0 p0.length ANY), (4, iv r1)]) (TI.dn (NX.sq (TS.sq (TS.sq (TS.rg ?_))))))))
 refine TI.ra 2 [0, 4, 10] (st 27 [(0, sv 0 p0.length ANY), (4, iv r1), (10, .bool (r1 != 0))]) (TI.dn (NX.sq ?_))
 refine TS.cd (.tmp 10) (r1 != 0) (fun hc3 => ?_) (fun hc3 => ?_)
 · replace hF := of_pos hF hc3
   refine TS.sq (TS.rg (TI.ra 3 [2, 3] (st 27 [(2, .slice none 0 0), (3, iv r1)]) (TI.dn (NX.sq (TS.rt (NX.sqR ?_))))))
   have hF := sj hF
   subst hF
   exact ⟨.inr rfl, rfl, .tuple ⟨[.slice none 0 0, iv r1]⟩, by kernel_rfl, WkV.made (L := 1) (f := [1]) (by decide) (by decide) rfl (.cons At.accN (.nil _)) (Rn.tuple' (.cons Rn.accN (.fl .nil)))⟩
 replace hF := of_neg hF hc3
 refine TS.sk (NX.sq (TS.sq (TS.rg (TI.ra 1 [0, 5] (st 27 [(0, sv 0 p0.length ANY), (5, .slice none 0 0)]) (TI.dn (NX.sq (TS.sq (TS.sq ?_))))))))
 refine TS.rg (TI.ra 1 [0, 5, 6] (st 27 [(0, sv 0 p0.length ANY), (5, .slice none 0 0), (6, iv 0)]) (TI.dn (NX.sq (TS.bk 0 ?_))))
 obtain ⟨r27, h28, hF⟩ := of_do hF
 refine TS.lp (TL.weak (a2 := (st 27 [(0, sv 0 p0.length ANY), (5, accV 1 (List.length ([]))), (6, iv 0)])) (h2 := [ab 54 e54 p0, accB 3 (List.length ([])) (List.flatMap e3 ([]))]) (Wk.an [1] (.ac (.cons At.accN (.nil _))) [sv 0 p0.length ANY, .slice none 0 0, iv 0] (.sl (.cons (Rn.accN) (.fl .nil)))) (TL.post (L20l0 p0 ([]) 0 r27 h28) ?_))
 rintro e a1 h1 hp
 obtain ⟨rfl, hw⟩ := hp
 refine ⟨(st 27 [(5, accV 1 r27.length)]), [ab 54 e54 p0, ab 3 e3 r27], (NX.bkX (NX.sq (TS.sq (TS.rg (TI.ra 3 [2, 3] (st 27 [(2, accV 1 r27.length), (3, iv 0)]) (TI.dn (NX.sq (TS.rt ?_)))))))), hw⟩
 have hF := sj hF
 subst hF
 exact ⟨.inr rfl, rfl, .tuple ⟨[accV 1 r27.length, iv 0]⟩, by kernel_rfl, WkV.made (L := 1) (f := [1]) (by decide) (by decide) rfl (.ac (.nil _)) (Rn.tuple' (.cons (Rn.acc (nl rfl) rfl) (.fl .nil)))⟩
theorem C20 (p0 : List I2) (r : (List Int) × Int) (hF : F20 p0 = some r) : PureSim Try.prog 20 [sv 0 p0.length ANY] [ab 54 e54 p0] (V20 1 r) (N20 1 r) :=
 PureSim.of_Fin Try.func20 (c := c20) (by kernel_rfl) (by kernel_rfl) 1 rfl [0] [0] (by kernel_rfl) (B20 p0 r hF)
noncomputable def c93 : Code := Try.f93.code
def S93_0 (v4 v3 : Int) : CAct := (st 20 [(0, iv v4), (1, iv (Int.tmod v3 v4)), (14, .bool (decide (v4 > 0))), (15, iv v4), (16, iv v3), (17, iv v4), (18, iv (Int.tmod v3 v4))])
def S93_1 (v4 v3 : Int) : CAct := (st 20 [(0, iv v4), (1, iv v4), (14, .bool (decide (v4 > 0))), (15, iv v4), (16, iv v3), (17, iv v4), (18, iv (Int.tmod v3 v4))])
def F93l0  (v3 : Int) (v4 : Int) : Option Int :=
 if decide (v4 > 0) then
  if v4 = 0 then none else
  F93l0  v4 (Int.tmod v3 v4)
 else
  some v3
 partial_fixpoint
def F93 (p0 p1 : Int) : Option Int :=
 F93l0  (mx p0 (w64 (0 - p0))) (mx p1 (w64 (0 - p1))) >>= fun r11 =>
 some r11
def V93 (b : Nat) (r : Int) : Value := iv r
def N93 (b : Nat) (r : Int) : List Blk := []
def P93l0  (r : Int) : Post := fun e a h => e = .exit 0 ∧ Wk Try.prog 0 0 a h (st 20 [(0, iv r)]) []
theorem L93l0  (v3 : Int) (v4 : Int) (r : Int) (hF : F93l0  v3 v4 = some r) : TL Try.prog 0 0 c93.s2.s2.s1.bd.bd (st 20 [(0, iv v3), (1, iv v4)]) [] (P93l0  r) := by
 refine F93l0.partial_correctness  (motive := fun v3 v4 r => TL Try.prog 0 0 c93.s2.s2.s1.bd.bd (st 20 [(0, iv v3), (1, iv v4)]) [] (P93l0  r)) ?_ v3 v4 r hF
 clear hF r v3 v4
 intro again ih v3 v4 r hF
 refine TL.round (TS.sq (TS.sq (TS.rg (TI.ra 2 [0, 1, 14] (st 20 [(0, iv v3), (1, iv v4), (14, .bool (decide (v4 > 0)))]) (TI.dn (NX.sq ?_))))))
 refine TS.cd (.tmp 14) (decide (v4 > 0)) (fun hc9 => ?_) (fun hc9 => ?_)
 · replace hF := of_pos hF hc9
   refine TS.sk (NX.sq (TS.bk 1 ?_))
   obtain ⟨hg10, hF⟩ := of_guardn hF
   refine TS.drawE (id := 3) (b := true) (ops := c93.s2.s2.s1.bd.bd.s2.bd.rops) (fin := (qs (S93_1 v4 v3) [] [] [])) (fin2 := (qs (S93_1 v4 v3) [] [] [])) (a1 := (S93_0 v4 v3)) (h1 := []) [] (fun e he => by cases he) mixed (by kernel_rfl) rfl 5 (by kernel_rfl) [] ?_ rfl (.inl ⟨rfl, rfl⟩) ?_ ?_
   · exact QI.run (s1 := (qs (st 20 [(0, iv v3), (1, iv v4), (14, .bool (decide (v4 > 0))), (15, iv v4), (16, iv v3), (17, iv v4)]) [] [] [])) 3 (by kernel_rfl) (by kernel_rfl) (QI.op (q := { val := iv (Int.tmod v3 v4) }) (s1 := (qs (st 20 [(0, iv v3), (1, iv v4), (14, .bool (decide (v4 > 0))), (15, iv v4), (16, iv v3), (17, iv v4), (18, iv (Int.tmod v3 v4))]) [] [] [])) (by decide) (q_int (P := Try.prog) (op := .rem) (ty := 3) (ox := (.tmp 16)) (oy := (.tmp 17)) (k := .i64) (k' := .i64) (y := v3) (z := v4) (by kernel_rfl) (rem_ok hg10)) (by kernel_rfl) (QI.run (s1 := (qs (S93_1 v4 v3) [] [] [])) 1 (by kernel_rfl) (by kernel_rfl) (QI.done (by kernel_rfl))))
   · exact SI.run (a2 := (S93_0 v4 v3)) (h2 := []) 1 (by kernel_rfl) (SI.done (by kernel_rfl))
   refine NX.bk ?_
   exact Rd.again (a2 := (st 20 [(0, iv v4), (1, iv (Int.tmod v3 v4))])) (h2 := []) (Wk.an [] (.nil _) [iv v4, iv (Int.tmod v3 v4)] (.fl (.fl .nil))) (ih v4 (Int.tmod v3 v4) _ hF)
 replace hF := of_neg hF hc9
 refine TS.ex 0 (NX.sqX ?_)
 have hF := sj hF
 subst hF
 exact Rd.out (e := .exit 0) (by intro h; cases h) (And.intro rfl (Wk.an [] (.nil _) [iv v3] (.fl .nil)))
theorem B93 (p0 p1 r : Int) (hF : F93 p0 p1 = some r) : TS Try.prog 0 0 c93 (st 20 [(0, iv p0), (1, iv p1)]) [] (NX Try.prog 0 0 [] (FinP Try.prog Try.f93 0 (V93 0 r) (N93 0 r))) := by
 unfold F93 at hF
 refine TS.sq (TS.rg (TI.ra 1 [0, 1] (st 20 [(0, iv p0), (1, iv p1)]) (TI.dn (NX.sq (TS.sq (TS.rg (TI.ra 10 [0, 1] (st 20 [(0, iv (mx p0 (w64 (0 - p0)))), (1, iv (mx p1 (w64 (0 - p1))))]) (TI.dn ?_))))))))
 refine NX.sq (TS.sq (TS.bk 0 ?_))
 obtain ⟨r11, h12, hF⟩ := of_do hF
 refine TS.lp (TL.weak (a2 := (st 20 [(0, iv (mx p0 (w64 (0 - p0)))), (1, iv (mx p1 (w64 (0 - p1))))])) (h2 := []) (Wk.an [] (.nil _) [iv (mx p0 (w64 (0 - p0))), iv (mx p1 (w64 (0 - p1)))] (.fl (.fl .nil))) (TL.post (L93l0  (mx p0 (w64 (0 - p0))) (mx p1 (w64 (0 - p1))) r11 h12) ?_))
 rintro e a1 h1 hp
 obtain ⟨rfl, hw⟩ := hp
 refine ⟨(st 20 [(0, iv r11)]), [], (NX.bkX (NX.sq (TS.sq (TS.rg (TI.ra 2 [4] (st 20 [(4, iv r11)]) (TI.dn (NX.sq (TS.rt ?_)))))))), hw⟩
 have hF := sj hF
 subst hF
 exact ⟨.inr rfl, rfl, iv r11, by kernel_rfl, WkV.flat0 (by kernel_rfl) (nl rfl)⟩
theorem C93 (p0 p1 r : Int) (hF : F93 p0 p1 = some r) : PureSim Try.prog 93 [iv p0, iv p1] [] (V93 0 r) (N93 0 r) :=
 PureSim.of_Fin Try.func93 (c := c93) (by kernel_rfl) (by kernel_rfl) 0 rfl [0, 1] [] (by kernel_rfl) (B93 p0 p1 r hF)
noncomputable def c67 : Code := Try.f67.code
def F67 (p0 p1 : Int) : Option I2 :=
 (
  if decide (p1 < 0) then
   some (w64 (0 - p0), w64 (0 - p1))
  else
   some (p0, p1)
 : Option I2) >>= fun m6 =>
 F93 m6.1 m6.2 >>= fun r8 =>
 if r8 = 0 then none else
 some (w64 (Int.tdiv m6.1 r8), w64 (Int.tdiv m6.2 r8))
def V67 (b : Nat) (r : I2) : Value := ag [iv r.1, iv r.2]
def N67 (b : Nat) (r : I2) : List Blk := []
theorem B67 (p0 p1 : Int) (r : I2) (hF : F67 p0 p1 = some r) : TS Try.prog 0 0 c67 (st 22 [(0, iv p0), (1, iv p1)]) [] (NX Try.prog 0 0 [] (FinP Try.prog Try.f67 0 (V67 0 r) (N67 0 r))) := by
 unfold F67 at hF
 refine TS.sq (TS.rg (TI.rn 1 [0, 1, 4] [0] (st 22 [(0, iv p0), (1, iv p1), (4, pt 0 0)]) [cl 29 [iv 0, iv 0]] (TI.dn (NX.sq (TS.sq (TS.sq (TS.rg (TI.ra 2 [0, 1, 4, 7] (st 22 [(0, iv p0), (1, iv p1), (4, pt 0 0), (7, .bool (decide (p1 < 0)))]) ?_))))))))
 refine TI.dn (NX.sq ?_)
 obtain ⟨m6, hm7, hF⟩ := of_do hF
 have hK : NX Try.prog 0 0 [.sq c67.s2.s2] (FinP Try.prog Try.f67 0 (V67 0 r) (N67 0 r)) .normal (st 22 [(0, iv m6.1), (1, iv m6.2), (4, pt 0 0)]) [cl 29 [iv 0, iv 0]] := by
  refine NX.sq (TS.sq ?_)
  obtain ⟨r8, h9, hF⟩ := of_do hF
  refine TS.rg (TI.ra 2 [0, 1, 4, 12, 13] (st 22 [(0, iv m6.1), (1, iv m6.2), (4, pt 0 0), (12, iv m6.1), (13, iv m6.2)]) (TI.cf (C93 _ _ _ h9) (TI.ra 1 [0, 1, 4, 5] (st 22 [(0, iv m6.1), (1, iv m6.2), (4, pt 0 0), (5, iv r8)]) (TI.dn (NX.sq (TS.sq ?_))))))
  obtain ⟨hg10, hF⟩ := of_guardn hF
  refine TS.dp [] (fun e he => by cases he) mixed 6 [4] [0] (st 22 [(4, pt 0 0)]) [cl 29 [iv (w64 (Int.tdiv m6.1 r8)), iv (w64 (Int.tdiv m6.2 r8))]] ?_ ?_
  · exact QJ.rn (qs (st 22 [(0, iv m6.1), (1, iv m6.2), (4, pt 0 0), (5, iv r8), (15, iv m6.1), (16, iv r8)]) [cl 29 [iv 0, iv 0]] [] []) 2 (QJ.o { val := iv (w64 (Int.tdiv m6.1 r8)) } (q_int (P := Try.prog) (op := .quo) (ty := 3) (ox := (.tmp 15)) (oy := (.tmp 16)) (k := .i64) (k' := .i64) (y := m6.1) (z := r8) (by kernel_rfl) (quo_ok hg10)) (QJ.rn (qs (st 22 [(0, iv m6.1), (1, iv m6.2), (4, pt 0 0), (5, iv r8), (15, iv m6.1), (16, iv r8), (17, iv (w64 (Int.tdiv m6.1 r8))), (18, iv m6.2), (19, iv r8)]) [cl 29 [iv 0, iv 0]] [] []) 2 (QJ.o { val := iv (w64 (Int.tdiv m6.2 r8)) } (q_int (P := Try.prog) (op := .quo) (ty := 3) (ox := (.tmp 18)) (oy := (.tmp 19)) (k := .i64) (k' := .i64) (y := m6.2) (z := r8) (by kernel_rfl) (quo_ok hg10)) (QJ.dn ⟨rfl, SJ.la⟩))))
  refine TS.rt ?_
  have hF := sj hF
  subst hF
  exact ⟨.inr rfl, rfl, ag [iv (w64 (Int.tdiv m6.1 r8)), iv (w64 (Int.tdiv m6.2 r8))], by kernel_rfl, WkV.flat0 (by kernel_rfl) (nl rfl)⟩
 clear hF
 have hF := hm7
 clear hm7
 refine TS.start ?_
 refine TS.cd (.tmp 7) (decide (p1 < 0)) (fun hc11 => ?_) (fun hc11 => ?_)
 · replace hF := of_pos hF hc11
   refine TS.rg (TI.ra 6 [0, 1, 4] (st 22 [(0, iv (w64 (0 - p0))), (1, iv (w64 (0 - p1))), (4, pt 0 0)]) (TI.dn ?_))
   have hF := sj hF
   subst hF
   exact TS.weak (by exact (Wk.an [0] (.lt (.fl (.fl .nil)) (.nil _)) [iv (w64 (0 - p0)), iv (w64 (0 - p1)), pt 0 0] (.fl (.fl (.pp .nil))))) hK
 replace hF := of_neg hF hc11
 refine TS.sk ?_
 have hF := sj hF
 subst hF
 exact TS.weak (by exact (Wk.an [0] (.lt (.fl (.fl .nil)) (.nil _)) [iv p0, iv p1, pt 0 0] (.fl (.fl (.pp .nil))))) hK
theorem C67 (p0 p1 : Int) (r : I2) (hF : F67 p0 p1 = some r) : PureSim Try.prog 67 [iv p0, iv p1] [] (V67 0 r) (N67 0 r) :=
 PureSim.of_Fin Try.func67 (c := c67) (by kernel_rfl) (by kernel_rfl) 0 rfl [0, 1] [] (by kernel_rfl) (B67 p0 p1 r hF)
noncomputable def c59 : Code := Try.f59.code
def F59 (p0 : Int) : Option I2 :=
 some (p0, 1)
def V59 (b : Nat) (r : I2) : Value := ag [iv r.1, iv r.2]
def N59 (b : Nat) (r : I2) : List Blk := []
theorem B59 (p0 : Int) (r : I2) (hF : F59 p0 = some r) : TS Try.prog 0 0 c59 (st 5 [(0, iv p0)]) [] (NX Try.prog 0 0 [] (FinP Try.prog Try.f59 0 (V59 0 r) (N59 0 r))) := by
 unfold F59 at hF
 refine TS.sq (TS.rg (TI.rn 1 [0, 2] [0] (st 5 [(0, iv p0), (2, pt 0 0)]) [cl 29 [iv 0, iv 0]] (TI.dn (NX.sq (TS.sq (TS.rg (TI.rn 3 [2] [0] (st 5 [(2, pt 0 0)]) [cl 29 [iv p0, iv 1]] (TI.dn ?_))))))))
 refine NX.sq (TS.rt ?_)
 have hF := sj hF
 subst hF
 exact ⟨.inr rfl, rfl, ag [iv p0, iv 1], by kernel_rfl, WkV.flat0 (by kernel_rfl) (nl rfl)⟩
theorem C59 (p0 : Int) (r : I2) (hF : F59 p0 = some r) : PureSim Try.prog 59 [iv p0] [] (V59 0 r) (N59 0 r) :=
 PureSim.of_Fin Try.func59 (c := c59) (by kernel_rfl) (by kernel_rfl) 0 rfl [0] [] (by kernel_rfl) (B59 p0 r hF)
noncomputable def c68 : Code := Try.f68.code
def F68 (p0 p1 p2 p3 : Int) : Option Bool :=
 some (decide ((w64 (p0 * p3)) < (w64 (p2 * p1))))
def V68 (b : Nat) (r : Bool) : Value := .bool r
def N68 (b : Nat) (r : Bool) : List Blk := []
theorem B68 (p0 p1 p2 p3 : Int) (r : Bool) (hF : F68 p0 p1 p2 p3 = some r) : TS Try.prog 0 0 c68 (st 16 [(0, ag [iv p0, iv p1]), (1, ag [iv p2, iv p3])]) [] (NX Try.prog 0 0 [] (FinP Try.prog Try.f68 0 (V68 0 r) (N68 0 r))) := by
 unfold F68 at hF
 refine TS.sq (TS.rg (TI.rn 3 [2, 3] [0, 1] (st 16 [(2, pt 0 0), (3, pt 1 0)]) [cl 29 [iv p0, iv p1], cl 29 [iv p2, iv p3]] (TI.dn (NX.sq (TS.sq (TS.rg (TI.rn 12 [4] [] (st 16 [(4, .bool (decide ((w64 (p0 * p3)) < (w64 (p2 * p1)))))]) [.dead, .dead] (TI.dn ?_))))))))
 refine NX.sq (TS.rt ?_)
 have hF := sj hF
 subst hF
 exact ⟨.inr rfl, rfl, .bool (decide ((w64 (p0 * p3)) < (w64 (p2 * p1)))), by kernel_rfl, WkV.flat0 (by kernel_rfl) (nl rfl)⟩
theorem C68 (p0 p1 p2 p3 : Int) (r : Bool) (hF : F68 p0 p1 p2 p3 = some r) : PureSim Try.prog 68 [ag [iv p0, iv p1], ag [iv p2, iv p3]] [] (V68 0 r) (N68 0 r) :=
 PureSim.of_Fin Try.func68 (c := c68) (by kernel_rfl) (by kernel_rfl) 0 rfl [0, 1] [] (by kernel_rfl) (B68 p0 p1 p2 p3 r hF)
noncomputable def c70 : Code := Try.f70.code
def H70_0 (p0 p1 p2 p3 : Int) : List Blk := [cl 29 [iv p0, iv p1], cl 29 [iv p2, iv p3], cl 29 [iv 0, iv 0]]
def F70 (p0 p1 p2 p3 : Int) : Option I2 :=
 F93 p1 p3 >>= fun r1 =>
 if r1 = 0 then none else
 some (w64 ((w64 (p0 * (w64 (Int.tdiv p3 r1)))) + (w64 (p2 * (w64 (Int.tdiv p1 r1)))))) >>= fun o4 =>
 F67 o4 (w64 ((w64 (Int.tdiv p1 r1)) * p3)) >>= fun r6 =>
 some (r6.1, r6.2)
def V70 (b : Nat) (r : I2) : Value := ag [iv r.1, iv r.2]
def N70 (b : Nat) (r : I2) : List Blk := []
theorem B70 (p0 p1 p2 p3 : Int) (r : I2) (hF : F70 p0 p1 p2 p3 = some r) : TS Try.prog 0 0 c70 (st 34 [(0, ag [iv p0, iv p1]), (1, ag [iv p2, iv p3])]) [] (NX Try.prog 0 0 [] (FinP Try.prog Try.f70 0 (V70 0 r) (N70 0 r))) := by
 unfold F70 at hF
 refine TS.sq (TS.rg (TI.rn 3 [2, 3, 4] [0, 1, 2] (st 34 [(2, pt 0 0), (3, pt 1 0), (4, pt 2 0)]) (H70_0 p0 p1 p2 p3) (TI.dn (NX.sq (TS.sq ?_)))))
 obtain ⟨r1, h2, hF⟩ := of_do hF
 refine TS.rg (TI.ra 4 [2, 3, 4, 7, 9] (st 34 [(2, pt 0 0), (3, pt 1 0), (4, pt 2 0), (7, iv p1), (9, iv p3)]) (TI.cf (C93 _ _ _ h2) (TI.ra 1 [2, 3, 4, 5] (st 34 [(2, pt 0 0), (3, pt 1 0), (4, pt 2 0), (5, iv r1)]) (TI.dn (NX.sq (TS.sq ?_))))))
 obtain ⟨hg3, hF⟩ := of_guardn hF
 obtain ⟨o4, h5, hF⟩ := of_do hF
 replace h5 := sj h5
 obtain ⟨r6, h7, hF⟩ := of_do hF
 have hT : ∀ e ∈ ([⟨67, [iv o4, iv (w64 ((w64 (Int.tdiv p1 r1)) * p3))], (H70_0 p0 p1 p2 p3), ag [iv r6.1, iv r6.2], []⟩] : List Entry), PureSim Try.prog e.g e.args e.h e.v e.new := by
  intro e he
  simp only [List.mem_cons, List.not_mem_nil, or_false] at he
  rcases he with rfl
  exact PureSim.ak (C67 _ _ _ h7)
 refine TS.dp [⟨67, [iv o4, iv (w64 ((w64 (Int.tdiv p1 r1)) * p3))], (H70_0 p0 p1 p2 p3), ag [iv r6.1, iv r6.2], []⟩] hT mixed 22 [4] [2] (st 34 [(4, pt 2 0)]) [.dead, .dead, cl 29 [iv r6.1, iv r6.2]] ?_ ?_
 · refine QJ.rn (qs (st 34 [(2, pt 0 0), (3, pt 1 0), (4, pt 2 0), (5, iv r1), (11, pt 0 0), (12, iv p0), (13, pt 1 1), (14, iv p3), (15, iv r1)]) (H70_0 p0 p1 p2 p3) [] []) 5 (QJ.o { val := iv (w64 (Int.tdiv p3 r1)) } (q_int (P := Try.prog) (op := .quo) (ty := 3) (ox := (.tmp 14)) (oy := (.tmp 15)) (k := .i64) (k' := .i64) (y := p3) (z := r1) (by kernel_rfl) (quo_ok hg3)) (QJ.rn (qs (st 34 [(2, pt 0 0), (3, pt 1 0), (4, pt 2 0), (5, iv r1), (11, pt 0 0), (12, iv p0), (13, pt 1 1), (14, iv p3), (15, iv r1), (16, iv (w64 (Int.tdiv p3 r1))), (17, iv (w64 (p0 * (w64 (Int.tdiv p3 r1))))), (18, pt 1 0), (19, iv p2), (20, pt 0 1), (21, iv p1), (22, iv r1)]) (H70_0 p0 p1 p2 p3) [] []) 6 (QJ.o { val := iv (w64 (Int.tdiv p1 r1)) } (q_int (P := Try.prog) (op := .quo) (ty := 3) (ox := (.tmp 21)) (oy := (.tmp 22)) (k := .i64) (k' := .i64) (y := p1) (z := r1) (by kernel_rfl) (quo_ok hg3)) (QJ.rn (qs (st 34 [(2, pt 0 0), (3, pt 1 0), (4, pt 2 0), (5, iv r1), (11, pt 0 0), (12, iv p0), (13, pt 1 1), (14, iv p3), (15, iv r1), (16, iv (w64 (Int.tdiv p3 r1))), (17, iv (w64 (p0 * (w64 (Int.tdiv p3 r1))))), (18, pt 1 0), (19, iv p2), (20, pt 0 1), (21, iv p1), (22, iv r1), (23, iv (w64 (Int.tdiv p1 r1))), (24, iv (w64 (p2 * (w64 (Int.tdiv p1 r1)))))]) (H70_0 p0 p1 p2 p3) [] []) 1 (QJ.o { val := iv o4 } (q_convI (e := w64 ((w64 (p0 * (w64 (Int.tdiv p3 r1)))) + (w64 (p2 * (w64 (Int.tdiv p1 r1)))))) (y := o4) (by kernel_rfl) h5) (QJ.rn (qs (st 34 [(2, pt 0 0), (3, pt 1 0), (4, pt 2 0), (5, iv r1), (11, pt 0 0), (12, iv p0), (13, pt 1 1), (14, iv p3), (15, iv r1), (16, iv (w64 (Int.tdiv p3 r1))), (17, iv (w64 (p0 * (w64 (Int.tdiv p3 r1))))), (18, pt 1 0), (19, iv p2), (20, pt 0 1), (21, iv p1), (22, iv r1), (23, iv (w64 (Int.tdiv p1 r1))), (24, iv (w64 (p2 * (w64 (Int.tdiv p1 r1))))), (25, iv o4), (26, pt 0 1), (27, iv p1), (28, iv r1)]) (H70_0 p0 p1 p2 p3) [] []) 3 (QJ.o { val := iv (w64 (Int.tdiv p1 r1)) } (q_int (P := Try.prog) (op := .quo) (ty := 3) (ox := (.tmp 27)) (oy := (.tmp 28)) (k := .i64) (k' := .i64) (y := p1) (z := r1) (by kernel_rfl) (quo_ok hg3)) (QJ.rn (qs (st 34 [(2, pt 0 0), (3, pt 1 0), (4, pt 2 0), (5, iv r1), (11, pt 0 0), (12, iv p0), (13, pt 1 1), (14, iv p3), (15, iv r1), (16, iv (w64 (Int.tdiv p3 r1))), (17, iv (w64 (p0 * (w64 (Int.tdiv p3 r1))))), (18, pt 1 0), (19, iv p2), (20, pt 0 1), (21, iv p1), (22, iv r1), (23, iv (w64 (Int.tdiv p1 r1))), (24, iv (w64 (p2 * (w64 (Int.tdiv p1 r1))))), (25, iv o4), (26, pt 0 1), (27, iv p1), (28, iv r1), (29, iv (w64 (Int.tdiv p1 r1))), (30, pt 1 1), (31, iv p3), (32, iv (w64 ((w64 (Int.tdiv p1 r1)) * p3)))]) (H70_0 p0 p1 p2 p3) [] []) 3 ?_))))))))
   exact QJ.dn ⟨rfl, (SJ.o { val := ag [iv r6.1, iv r6.2], new := [] } (qOf_call (g := 67) (args := [iv o4, iv (w64 ((w64 (Int.tdiv p1 r1)) * p3))]) (by kernel_rfl) lookC_hit) SJ.la)⟩
 refine TS.rt ?_
 have hF := sj hF
 subst hF
 exact ⟨.inr rfl, rfl, ag [iv r6.1, iv r6.2], by kernel_rfl, WkV.flat0 (by kernel_rfl) (nl rfl)⟩
theorem C70 (p0 p1 p2 p3 : Int) (r : I2) (hF : F70 p0 p1 p2 p3 = some r) : PureSim Try.prog 70 [ag [iv p0, iv p1], ag [iv p2, iv p3]] [] (V70 0 r) (N70 0 r) :=
 PureSim.of_Fin Try.func70 (c := c70) (by kernel_rfl) (by kernel_rfl) 0 rfl [0, 1] [] (by kernel_rfl) (B70 p0 p1 p2 p3 r hF)
noncomputable def c69 : Code := Try.f69.code
def F69l0 (p1 v2 : Int) : Option Int :=
 if decide (v2 < 0) then
  F69l0 p1 (w64 (v2 + (w64 (3600 * p1))))
 else
  some v2
 partial_fixpoint
def F69l1 (p1 v10 : Int) : Option Int :=
 if decide (v10 ≥ (w64 (3600 * p1))) then
  F69l1 p1 (w64 (v10 - (w64 (3600 * p1))))
 else
  some v10
 partial_fixpoint
def F69 (p0 p1 : Int) : Option I2 :=
 F69l0 p1 p0 >>= fun r7 =>
 F69l1 p1 r7 >>= fun r15 =>
 some (r15, p1)
def V69 (b : Nat) (r : I2) : Value := ag [iv r.1, iv r.2]
def N69 (b : Nat) (r : I2) : List Blk := []
def P69l0 (p1 r : Int) : Post := fun e a h => e = .exit 0 ∧ Wk Try.prog 0 0 a h (st 27 [(1, pt 0 0), (2, pt 1 0)]) [cl 29 [iv r, iv p1], cl 29 [iv 0, iv 0]]
theorem L69l0 (p1 v2 r : Int) (hF : F69l0 p1 v2 = some r) : TL Try.prog 0 0 c69.s2.s1.bd.bd (st 27 [(1, pt 0 0), (2, pt 1 0)]) [cl 29 [iv v2, iv p1], cl 29 [iv 0, iv 0]] (P69l0 p1 r) := by
 refine F69l0.partial_correctness p1 (motive := fun v2 r => TL Try.prog 0 0 c69.s2.s1.bd.bd (st 27 [(1, pt 0 0), (2, pt 1 0)]) [cl 29 [iv v2, iv p1], cl 29 [iv 0, iv 0]] (P69l0 p1 r)) ?_ v2 r hF
 clear hF r v2
 intro again ih v2 r hF
 refine TL.round (TS.sq (TS.sq (TS.rg (TI.ra 3 [1, 2, 5] (st 27 [(1, pt 0 0), (2, pt 1 0), (5, .bool (decide (v2 < 0)))]) (TI.dn (NX.sq ?_))))))
 refine TS.cd (.tmp 5) (decide (v2 < 0)) (fun hc6 => ?_) (fun hc6 => ?_)
 · replace hF := of_pos hF hc6
   refine TS.sk (NX.sq (TS.bk 1 (TS.rg (TI.rn 8 [1, 2] [0, 1] (st 27 [(1, pt 0 0), (2, pt 1 0)]) [cl 29 [iv (w64 (v2 + (w64 (3600 * p1)))), iv p1], cl 29 [iv 0, iv 0]] (TI.dn (NX.bk ?_))))))
   exact Rd.again (a2 := (st 27 [(1, pt 0 0), (2, pt 1 0)])) (h2 := [cl 29 [iv (w64 (v2 + (w64 (3600 * p1)))), iv p1], cl 29 [iv 0, iv 0]]) (Wk.an [0, 1] (.lt (.fl (.fl .nil)) (.lt (.fl (.fl .nil)) (.nil _))) [pt 0 0, pt 1 0] (.pp (.pp .nil))) (ih (w64 (v2 + (w64 (3600 * p1)))) _ hF)
 replace hF := of_neg hF hc6
 refine TS.ex 0 (NX.sqX ?_)
 have hF := sj hF
 subst hF
 exact Rd.out (e := .exit 0) (by intro h; cases h) (And.intro rfl (Wk.an [0, 1] (.lt (.fl (.fl .nil)) (.lt (.fl (.fl .nil)) (.nil _))) [pt 0 0, pt 1 0] (.pp (.pp .nil))))
def P69l1 (p1 r : Int) : Post := fun e a h => e = .exit 2 ∧ Wk Try.prog 0 0 a h (st 27 [(1, pt 0 0), (2, pt 1 0)]) [cl 29 [iv r, iv p1], cl 29 [iv 0, iv 0]]
theorem L69l1 (p1 v10 r : Int) (hF : F69l1 p1 v10 = some r) : TL Try.prog 0 0 c69.s2.s2.s1.bd.bd (st 27 [(1, pt 0 0), (2, pt 1 0)]) [cl 29 [iv v10, iv p1], cl 29 [iv 0, iv 0]] (P69l1 p1 r) := by
 refine F69l1.partial_correctness p1 (motive := fun v10 r => TL Try.prog 0 0 c69.s2.s2.s1.bd.bd (st 27 [(1, pt 0 0), (2, pt 1 0)]) [cl 29 [iv v10, iv p1], cl 29 [iv 0, iv 0]] (P69l1 p1 r)) ?_ v10 r hF
 clear hF r v10
 intro again ih v10 r hF
 refine TL.round (TS.sq (TS.sq (TS.rg (TI.ra 6 [1, 2, 18] (st 27 [(1, pt 0 0), (2, pt 1 0), (18, .bool (decide (v10 ≥ (w64 (3600 * p1)))))]) (TI.dn (NX.sq ?_))))))
 refine TS.cd (.tmp 18) (decide (v10 ≥ (w64 (3600 * p1)))) (fun hc14 => ?_) (fun hc14 => ?_)
 · replace hF := of_pos hF hc14
   refine TS.sk (NX.sq (TS.bk 3 (TS.rg (TI.rn 8 [1, 2] [0, 1] (st 27 [(1, pt 0 0), (2, pt 1 0)]) [cl 29 [iv (w64 (v10 - (w64 (3600 * p1)))), iv p1], cl 29 [iv 0, iv 0]] (TI.dn (NX.bk ?_))))))
   exact Rd.again (a2 := (st 27 [(1, pt 0 0), (2, pt 1 0)])) (h2 := [cl 29 [iv (w64 (v10 - (w64 (3600 * p1)))), iv p1], cl 29 [iv 0, iv 0]]) (Wk.an [0, 1] (.lt (.fl (.fl .nil)) (.lt (.fl (.fl .nil)) (.nil _))) [pt 0 0, pt 1 0] (.pp (.pp .nil))) (ih (w64 (v10 - (w64 (3600 * p1)))) _ hF)
 replace hF := of_neg hF hc14
 refine TS.ex 2 (NX.sqX ?_)
 have hF := sj hF
 subst hF
 exact Rd.out (e := .exit 2) (by intro h; cases h) (And.intro rfl (Wk.an [0, 1] (.lt (.fl (.fl .nil)) (.lt (.fl (.fl .nil)) (.nil _))) [pt 0 0, pt 1 0] (.pp (.pp .nil))))
theorem B69 (p0 p1 : Int) (r : I2) (hF : F69 p0 p1 = some r) : TS Try.prog 0 0 c69 (st 27 [(0, ag [iv p0, iv p1])]) [] (NX Try.prog 0 0 [] (FinP Try.prog Try.f69 0 (V69 0 r) (N69 0 r))) := by
 unfold F69 at hF
 refine TS.sq (TS.rg (TI.rn 2 [1, 2] [0, 1] (st 27 [(1, pt 0 0), (2, pt 1 0)]) [cl 29 [iv p0, iv p1], cl 29 [iv 0, iv 0]] (TI.dn (NX.sq (TS.sq (TS.bk 0 ?_))))))
 obtain ⟨r7, h8, hF⟩ := of_do hF
 refine TS.lp (TL.weak (a2 := (st 27 [(1, pt 0 0), (2, pt 1 0)])) (h2 := [cl 29 [iv p0, iv p1], cl 29 [iv 0, iv 0]]) (Wk.an [0, 1] (.lt (.fl (.fl .nil)) (.lt (.fl (.fl .nil)) (.nil _))) [pt 0 0, pt 1 0] (.pp (.pp .nil))) (TL.post (L69l0 p1 p0 r7 h8) ?_))
 rintro e a1 h1 hp
 obtain ⟨rfl, hw⟩ := hp
 refine ⟨(st 27 [(1, pt 0 0), (2, pt 1 0)]), [cl 29 [iv r7, iv p1], cl 29 [iv 0, iv 0]], (NX.bkX (NX.sq (TS.sq (TS.bk 2 ?_)))), hw⟩
 obtain ⟨r15, h16, hF⟩ := of_do hF
 refine TS.lp (TL.weak (a2 := (st 27 [(1, pt 0 0), (2, pt 1 0)])) (h2 := [cl 29 [iv r7, iv p1], cl 29 [iv 0, iv 0]]) (Wk.an [0, 1] (.lt (.fl (.fl .nil)) (.lt (.fl (.fl .nil)) (.nil _))) [pt 0 0, pt 1 0] (.pp (.pp .nil))) (TL.post (L69l1 p1 r7 r15 h16) ?_))
 rintro e a1 h1 hp
 obtain ⟨rfl, hw⟩ := hp
 refine ⟨(st 27 [(1, pt 0 0), (2, pt 1 0)]), [cl 29 [iv r15, iv p1], cl 29 [iv 0, iv 0]], (NX.bkX (NX.sq (TS.sq (TS.rg (TI.rn 2 [2] [1] (st 27 [(2, pt 1 0)]) [.dead, cl 29 [iv r15, iv p1]] (TI.dn (NX.sq (TS.rt ?_)))))))), hw⟩
 have hF := sj hF
 subst hF
 exact ⟨.inr rfl, rfl, ag [iv r15, iv p1], by kernel_rfl, WkV.flat0 (by kernel_rfl) (nl rfl)⟩
theorem C69 (p0 p1 : Int) (r : I2) (hF : F69 p0 p1 = some r) : PureSim Try.prog 69 [ag [iv p0, iv p1]] [] (V69 0 r) (N69 0 r) :=
 PureSim.of_Fin Try.func69 (c := c69) (by kernel_rfl) (by kernel_rfl) 0 rfl [0] [] (by kernel_rfl) (B69 p0 p1 r hF)
noncomputable def c25 : Code := Try.f25.code
def S25_0 (p0 : List I2) (p1 : Int) (v745 : List I2) (v266 v614 v744 : Int) (o775 o778 : I2) : CAct := (st 129 [(0, sv 0 p0.length ANY), (1, iv p1), (7, accV 1 v745.length), (8, iv v266), (9, pt 2 0), (10, pt 3 0), (11, iv v614), (15, iv v744), (109, .bool true), (112, accV 1 v745.length), (113, iv v744), (114, accV 1 v745.length), (115, iv v744), (116, iv (w64 (v744 - 1))), (117, accV 1 v745.length), (118, iv v744), (119, iv (w64 (v744 - 1))), (120, .pointer (some ⟨1, 0 + (Int.toNat (w64 (v744 - 1))) * 2, none⟩)), (121, ag [iv o775.1, iv o775.2]), (122, accV 1 v745.length), (123, iv v744), (124, .pointer (some ⟨1, 0 + (Int.toNat v744) * 2, none⟩)), (125, ag [iv o778.1, iv o778.2]), (126, .pointer (some ⟨1, 0 + (Int.toNat v744) * 2, none⟩)), (127, .pointer (some ⟨1, 0 + (Int.toNat (w64 (v744 - 1))) * 2, none⟩))])
def S25_1 (p0 : List I2) (p1 : Int) (v745 : List I2) (v266 v614 v744 : Int) (o775 o778 : I2) : CAct := (st 129 [(0, sv 0 p0.length ANY), (1, iv p1), (7, accV 1 v745.length), (8, iv v266), (9, pt 2 0), (10, pt 3 0), (11, iv v614), (15, iv v744), (109, .bool true), (112, accV 1 v745.length), (113, iv v744), (114, accV 1 v745.length), (115, iv v744), (116, iv (w64 (v744 - 1))), (117, accV 1 v745.length), (118, iv v744), (119, iv (w64 (v744 - 1))), (120, .pointer (some ⟨1, 0 + (Int.toNat (w64 (v744 - 1))) * 2, none⟩)), (121, ag [iv o775.1, iv o775.2]), (122, accV 1 v745.length), (123, iv v744), (124, .pointer (some ⟨1, 0 + (Int.toNat v744) * 2, none⟩)), (125, ag [iv o778.1, iv o778.2]), (126, .pointer (some ⟨1, 0 + (Int.toNat v744) * 2, none⟩))])
def S25_2 (p0 : List I2) (p1 : Int) (v745 : List I2) (v266 v614 v744 : Int) (o775 o778 : I2) : CAct := (st 129 [(0, sv 0 p0.length ANY), (1, iv p1), (7, accV 1 v745.length), (8, iv v266), (9, pt 2 0), (10, pt 3 0), (11, iv v614), (15, iv v744), (109, .bool true), (112, accV 1 v745.length), (113, iv v744), (114, accV 1 v745.length), (115, iv v744), (116, iv (w64 (v744 - 1))), (117, accV 1 v745.length), (118, iv v744), (119, iv (w64 (v744 - 1))), (120, .pointer (some ⟨1, 0 + (Int.toNat (w64 (v744 - 1))) * 2, none⟩)), (121, ag [iv o775.1, iv o775.2]), (122, accV 1 v745.length), (123, iv v744), (124, .pointer (some ⟨1, 0 + (Int.toNat v744) * 2, none⟩)), (125, ag [iv o778.1, iv o778.2])])
def S25_3 (p0 : List I2) (p1 : Int) (v745 : List I2) (v266 v614 v744 : Int) (o775 : I2) : CAct := (st 129 [(0, sv 0 p0.length ANY), (1, iv p1), (7, accV 1 v745.length), (8, iv v266), (9, pt 2 0), (10, pt 3 0), (11, iv v614), (15, iv v744), (109, .bool true), (112, accV 1 v745.length), (113, iv v744), (114, accV 1 v745.length), (115, iv v744), (116, iv (w64 (v744 - 1))), (117, accV 1 v745.length), (118, iv v744), (119, iv (w64 (v744 - 1))), (120, .pointer (some ⟨1, 0 + (Int.toNat (w64 (v744 - 1))) * 2, none⟩)), (121, ag [iv o775.1, iv o775.2]), (122, accV 1 v745.length), (123, iv v744), (124, .pointer (some ⟨1, 0 + (Int.toNat v744) * 2, none⟩))])
def S25_4 (p0 : List I2) (p1 : Int) (v745 : List I2) (v266 v614 v744 : Int) (o775 : I2) : CAct := (st 129 [(0, sv 0 p0.length ANY), (1, iv p1), (7, accV 1 v745.length), (8, iv v266), (9, pt 2 0), (10, pt 3 0), (11, iv v614), (15, iv v744), (109, .bool true), (112, accV 1 v745.length), (113, iv v744), (114, accV 1 v745.length), (115, iv v744), (116, iv (w64 (v744 - 1))), (117, accV 1 v745.length), (118, iv v744), (119, iv (w64 (v744 - 1))), (120, .pointer (some ⟨1, 0 + (Int.toNat (w64 (v744 - 1))) * 2, none⟩)), (121, ag [iv o775.1, iv o775.2]), (122, accV 1 v745.length), (123, iv v744)])
def S25_5 (p0 : List I2) (p1 : Int) (v745 : List I2) (v266 v614 v744 : Int) (o775 : I2) : CAct := (st 129 [(0, sv 0 p0.length ANY), (1, iv p1), (7, accV 1 v745.length), (8, iv v266), (9, pt 2 0), (10, pt 3 0), (11, iv v614), (15, iv v744), (109, .bool true), (112, accV 1 v745.length), (113, iv v744), (114, accV 1 v745.length), (115, iv v744), (116, iv (w64 (v744 - 1))), (117, accV 1 v745.length), (118, iv v744), (119, iv (w64 (v744 - 1))), (120, .pointer (some ⟨1, 0 + (Int.toNat (w64 (v744 - 1))) * 2, none⟩)), (121, ag [iv o775.1, iv o775.2])])
def S25_6 (p0 : List I2) (p1 : Int) (v745 : List I2) (v266 v614 v744 : Int) : CAct := (st 129 [(0, sv 0 p0.length ANY), (1, iv p1), (7, accV 1 v745.length), (8, iv v266), (9, pt 2 0), (10, pt 3 0), (11, iv v614), (15, iv v744), (109, .bool true), (112, accV 1 v745.length), (113, iv v744), (114, accV 1 v745.length), (115, iv v744), (116, iv (w64 (v744 - 1))), (117, accV 1 v745.length), (118, iv v744), (119, iv (w64 (v744 - 1))), (120, .pointer (some ⟨1, 0 + (Int.toNat (w64 (v744 - 1))) * 2, none⟩))])
def S25_7 (p0 : List I2) (p1 : Int) (v615 : List I2) (v266 v614 : Int) (r530 : I2 × I2) (r716 r708 r718 r720 : I2) : CAct := (st 129 [(0, sv 0 p0.length ANY), (1, iv p1), (7, accV 1 v615.length), (8, iv v266), (9, pt 2 0), (10, pt 3 0), (11, iv v614), (14, pt 4 0), (83, .bool false), (84, accV 1 v615.length), (85, pt 2 0), (86, iv r530.1.1), (87, ag [iv r716.1, iv r716.2]), (88, ag [iv r708.1, iv r708.2]), (89, ag [iv r718.1, iv r718.2]), (90, ag [iv r720.1, iv r720.2]), (91, sv 5 1 1)])
def S25_8 (p0 : List I2) (p1 : Int) (v745 : List I2) (v266 v614 v744 : Int) : CAct := (st 129 [(0, sv 0 p0.length ANY), (1, iv p1), (7, accV 1 v745.length), (8, iv v266), (9, pt 2 0), (10, pt 3 0), (11, iv v614), (15, iv v744), (109, .bool true), (112, accV 1 v745.length), (113, iv v744), (114, accV 1 v745.length), (115, iv v744), (116, iv (w64 (v744 - 1))), (117, accV 1 v745.length), (118, iv v744), (119, iv (w64 (v744 - 1)))])
def H25_9 (p0 v615 : List I2) (r530 : I2 × I2) (r708 : I2) : List Blk := [ab 54 e54 p0, ab 29 e29 v615, cl 54 [iv r530.1.1, iv r530.1.2], cl 54 [iv r530.2.1, iv r530.2.2], cl 29 [iv r708.1, iv r708.2]]
def H25_10 (p0 v745 : List I2) (v744 : Int) (o775 : I2) (r530 : I2 × I2) : List Blk := [ab 54 e54 p0, .cells 29 (List.flatMap e29 (List.set v745 (Int.toNat v744) (o775.1, o775.2))), cl 54 [iv r530.1.1, iv r530.1.2], cl 54 [iv r530.2.1, iv r530.2.2]]
def S25_11 (p0 : List I2) (p1 : Int) (v615 : List I2) (v266 v614 : Int) : CAct := (st 129 [(0, sv 0 p0.length ANY), (1, iv p1), (7, accV 1 v615.length), (8, iv v266), (9, pt 2 0), (10, pt 3 0), (11, iv (w64 (v614 + 1)))])
def H25_12 (p0 v745 : List I2) (r530 : I2 × I2) : List Blk := [ab 54 e54 p0, ab 29 e29 v745, cl 54 [iv r530.1.1, iv r530.1.2], cl 54 [iv r530.2.1, iv r530.2.2]]
def H25_13 (p0 v615 : List I2) (r530 : I2 × I2) : List Blk := [ab 54 e54 p0, ab 29 e29 v615, cl 54 [iv r530.1.1, iv r530.1.2], cl 54 [iv r530.2.1, iv r530.2.2]]
def F25l2 (p0 : List I2) (p1 : Int) (r530 : I2 × I2) (v266 v614 v744 : Int) (v745 : List I2) : Option (List I2) :=
 (
  if decide (v744 > 0) then
   if (0 : Int) ≤ v744 ∧ v744 < (v745.length : Int) then
    some (List.getD v745 (Int.toNat v744) (0, 0)) >>= fun o766 =>
    if (0 : Int) ≤ w64 (v744 - 1) ∧ w64 (v744 - 1) < (v745.length : Int) then
     some (List.getD v745 (Int.toNat (w64 (v744 - 1))) (0, 0)) >>= fun o769 =>
     F68 o766.1 o766.2 o769.1 o769.2 >>= fun r771 =>
     some (r771)
    else none
   else none
  else
   some (false)
 : Option Bool) >>= fun m773 =>
 if m773 then
  if (0 : Int) ≤ w64 (v744 - 1) ∧ w64 (v744 - 1) < (v745.length : Int) then
   some (List.getD v745 (Int.toNat (w64 (v744 - 1))) (0, 0)) >>= fun o775 =>
   if (0 : Int) ≤ v744 ∧ v744 < (v745.length : Int) then
    some (List.getD v745 (Int.toNat v744) (0, 0)) >>= fun o778 =>
    F25l2 p0 p1 r530 v266 v614 (w64 (v744 - 1)) (List.set (List.set v745 (Int.toNat v744) (o775.1, o775.2)) (Int.toNat (w64 (v744 - 1))) (o778.1, o778.2))
   else none
  else none
 else
  some v745
 partial_fixpoint
def F25l1 (p0 : List I2) (p1 : Int) (r530 : I2 × I2) (v266 v614 : Int) (v615 : List I2) : Option (Unit ⊕ (List I2)) :=
 if decide (v614 ≤ 2) then
  some (w64 ((w64 ((w64 (p1 + (w64 (v614 * 3600)))) - r530.1.1)) - r530.1.2)) >>= fun o702 =>
  F61 p0 v266 >>= fun r704 =>
  if r704 == 0 then
   if o702 == 0 then
    some (.inl ())
   else
    F25l1 p0 p1 r530 v266 (w64 (v614 + 1)) v615
  else
   F67 (w64 (o702 * (w64 (r530.2.1 - r530.1.1)))) r704 >>= fun r708 =>
   (
    if decide (r708.1 < 0) then
     some (true)
    else
     F59 (w64 (r530.2.1 - r530.1.1)) >>= fun r711 =>
     F68 r708.1 r708.2 r711.1 r711.2 >>= fun r713 =>
     some (!r713)
   : Option Bool) >>= fun m715 =>
   if m715 then
    F25l1 p0 p1 r530 v266 (w64 (v614 + 1)) v615
   else
    F59 r530.1.1 >>= fun r716 =>
    F70 r716.1 r716.2 r708.1 r708.2 >>= fun r718 =>
    F69 r718.1 r718.2 >>= fun r720 =>
    if List.length v615 ≤ 1000000000 then
     F25l2 p0 p1 r530 v266 v614 (w64 ((List.length (v615 ++ [(r720.1, r720.2)]) : Int) - 1)) (v615 ++ [(r720.1, r720.2)]) >>= fun r781 =>
     F25l1 p0 p1 r530 v266 (w64 (v614 + 1)) r781
    else none
 else
  some (.inr v615)
 partial_fixpoint
def F25l0 (p0 : List I2) (p1 : Int) (v267 : List I2) (v266 : Int) : Option (Unit ⊕ (List I2)) :=
 if decide (v266 < (p0.length : Int)) then
  F66 p0 v266 >>= fun r530 =>
  F25l1 p0 p1 r530 v266 (-2) v267 >>= fun r784 =>
  match r784 with
  | .inl o786 =>
   some (.inl ())
  | .inr o787 =>
   F25l0 p0 p1 o787 (w64 (v266 + 1))
 else
  some (.inr v267)
 partial_fixpoint
def F25 (p0 : List I2) (p1 : Int) : Option ((List I2) × Int) :=
 F23 p0 >>= fun r1 =>
 (
  if r1 == 0 then
   F57 p1 >>= fun r4 =>
   some (!r4)
  else
   some (false)
 : Option Bool) >>= fun m6 =>
 (
  if m6 then
   some 1
  else
   some r1
 : Option Int) >>= fun m9 =>
 if m9 != 0 then
  some ([], m9)
 else
  F25l0 p0 p1 ([]) 0 >>= fun r788 =>
  match r788 with
  | .inl o790 =>
   some ([], 16)
  | .inr o791 =>
   some (o791, 0)
def V25 (b : Nat) (r : (List I2) × Int) : Value := .tuple ⟨[accV (b + 0) r.1.length, iv r.2]⟩
def N25 (b : Nat) (r : (List I2) × Int) : List Blk := [ab 29 e29 r.1]
def P25l2 (p0 : List I2) (p1 : Int) (r530 : I2 × I2) (v266 v614 : Int) (r : List I2) : Post := fun e a h => e = .exit 4 ∧ Wk Try.prog 1 1 a h (st 129 [(0, sv 0 p0.length ANY), (1, iv p1), (7, accV 1 r.length), (8, iv v266), (9, pt 2 0), (10, pt 3 0), (11, iv v614)]) [ab 54 e54 p0, ab 29 e29 r, cl 54 [iv r530.1.1, iv r530.1.2], cl 54 [iv r530.2.1, iv r530.2.2]]
theorem L25l2 (p0 : List I2) (p1 : Int) (r530 : I2 × I2) (v266 v614 v744 : Int) (v745 r : List I2) (hF : F25l2 p0 p1 r530 v266 v614 v744 v745 = some r) : TL Try.prog 1 1 c25.s2.s2.s2.s2.s2.s1.s2.bd.bd.s2.s1.bd.s2.s2.bd.bd.s2.s1.bd.s2.s2.s2.s2.s2.s2.s2.bd.bd (st 129 [(0, sv 0 p0.length ANY), (1, iv p1), (7, accV 1 v745.length), (8, iv v266), (9, pt 2 0), (10, pt 3 0), (11, iv v614), (15, iv v744)]) (H25_12 p0 v745 r530) (P25l2 p0 p1 r530 v266 v614 r) := by
 refine F25l2.partial_correctness p0 p1 r530 v266 v614 (motive := fun v744 v745 r => TL Try.prog 1 1 c25.s2.s2.s2.s2.s2.s1.s2.bd.bd.s2.s1.bd.s2.s2.bd.bd.s2.s1.bd.s2.s2.s2.s2.s2.s2.s2.bd.bd (st 129 [(0, sv 0 p0.length ANY), (1, iv p1), (7, accV 1 v745.length), (8, iv v266), (9, pt 2 0), (10, pt 3 0), (11, iv v614), (15, iv v744)]) (H25_12 p0 v745 r530) (P25l2 p0 p1 r530 v266 v614 r)) ?_ v744 v745 r hF
 clear hF r v744 v745
 intro again ih v744 v745 r hF
 refine TL.round (TS.sq (TS.sq ?_))
 obtain ⟨m773, hm780, hF⟩ := of_do hF
 have hK : NX Try.prog 1 1 [.sq c25.s2.s2.s2.s2.s2.s1.s2.bd.bd.s2.s1.bd.s2.s2.bd.bd.s2.s1.bd.s2.s2.s2.s2.s2.s2.s2.bd.bd.s1.s2, .sq c25.s2.s2.s2.s2.s2.s1.s2.bd.bd.s2.s1.bd.s2.s2.bd.bd.s2.s1.bd.s2.s2.s2.s2.s2.s2.s2.bd.bd.s2] (Rd Try.prog 1 1 c25.s2.s2.s2.s2.s2.s1.s2.bd.bd.s2.s1.bd.s2.s2.bd.bd.s2.s1.bd.s2.s2.s2.s2.s2.s2.s2.bd.bd (P25l2 p0 p1 r530 v266 v614 r)) .normal (st 129 [(0, sv 0 p0.length ANY), (1, iv p1), (7, accV 1 v745.length), (8, iv v266), (9, pt 2 0), (10, pt 3 0), (11, iv v614), (15, iv v744), (109, .bool m773)]) (H25_12 p0 v745 r530) := by
  refine NX.sq ?_
  cases m773 with
  | true =>
   replace hF := of_pos hF rfl
   refine TS.cdT (.tmp 109) (TS.sk (NX.sq (TS.sq (TS.bk 5 ?_))))
   obtain ⟨hg774, hF⟩ := of_guard hF
   obtain ⟨o775, h776, hF⟩ := of_do hF
   replace h776 := sj h776
   obtain ⟨hg777, hF⟩ := of_guard hF
   obtain ⟨o778, h779, hF⟩ := of_do hF
   replace h779 := sj h779
   refine TS.drawE (id := 25) (b := true) (ops := c25.s2.s2.s2.s2.s2.s1.s2.bd.bd.s2.s1.bd.s2.s2.bd.bd.s2.s1.bd.s2.s2.s2.s2.s2.s2.s2.bd.bd.s2.s1.bd.rops) (fin := (qs (S25_1 p0 p1 v745 v266 v614 v744 o775 o778) (H25_10 p0 v745 v744 o775 r530) [] [(15, 1)])) (fin2 := (qs (S25_1 p0 p1 v745 v266 v614 v744 o775 o778) (H25_10 p0 v745 v744 o775 r530) [] [(15, 1)])) (a1 := (S25_0 p0 p1 v745 v266 v614 v744 o775 o778)) (h1 := [ab 54 e54 p0, .cells 29 (List.flatMap e29 (List.set (List.set v745 (Int.toNat v744) (o775.1, o775.2)) (Int.toNat (w64 (v744 - 1))) (o778.1, o778.2))), cl 54 [iv r530.1.1, iv r530.1.2], cl 54 [iv r530.2.1, iv r530.2.2]]) [] (fun e he => by cases he) mixed (by kernel_rfl) rfl 16 (by kernel_rfl) [(15, 1)] ?_ rfl (.inr ⟨?_, (by kernel_rfl)⟩) ?_ ?_
   · refine QI.run (s1 := (qs (S25_8 p0 p1 v745 v266 v614 v744) (H25_12 p0 v745 r530) [] [])) 8 (by kernel_rfl) (by kernel_rfl) (QI.op (q := { val := .pointer (some ⟨1, 0 + (Int.toNat (w64 (v744 - 1))) * 2, none⟩) }) (s1 := (qs (S25_6 p0 p1 v745 v266 v614 v744) (H25_12 p0 v745 r530) [] [])) (by decide) (q_ixAcc (P := Try.prog) (t := 42) (s := 2) (e := 29) 1 v745.length (by kernel_rfl) hg774 (by kernel_rfl) (by kernel_rfl)) (by kernel_rfl) (QI.op (q := { val := ag [iv o775.1, iv o775.2] }) (s1 := (qs (S25_5 p0 p1 v745 v266 v614 v744 o775) (H25_12 p0 v745 r530) [] [])) (by decide) (q_nAa Try.prog (H25_12 p0 v745 r530) 29 1 (0 + (Int.toNat (w64 (v744 - 1))) * 2) v745 e29 2 29 (Int.toNat (w64 (v744 - 1))) (0, 0) h776) (by kernel_rfl) (QI.run (s1 := (qs (S25_4 p0 p1 v745 v266 v614 v744 o775) (H25_12 p0 v745 r530) [] [])) 2 (by kernel_rfl) (by kernel_rfl) (QI.op (q := { val := .pointer (some ⟨1, 0 + (Int.toNat v744) * 2, none⟩) }) (s1 := (qs (S25_3 p0 p1 v745 v266 v614 v744 o775) (H25_12 p0 v745 r530) [] [])) (by decide) (q_ixAcc (P := Try.prog) (t := 42) (s := 2) (e := 29) 1 v745.length (by kernel_rfl) hg777 (by kernel_rfl) (by kernel_rfl)) (by kernel_rfl) (QI.op (q := { val := ag [iv o778.1, iv o778.2] }) (s1 := (qs (S25_2 p0 p1 v745 v266 v614 v744 o775 o778) (H25_12 p0 v745 r530) [] [])) (by decide) (q_nAa Try.prog (H25_12 p0 v745 r530) 29 1 (0 + (Int.toNat v744) * 2) v745 e29 2 29 (Int.toNat v744) (0, 0) h779) (by kernel_rfl) (QI.op (q := { val := .pointer (some ⟨1, 0 + (Int.toNat v744) * 2, none⟩) }) (s1 := (qs (S25_1 p0 p1 v745 v266 v614 v744 o775 o778) (H25_12 p0 v745 r530) [] [])) (by decide) (q_ixAcc (P := Try.prog) (t := 42) (s := 2) (e := 29) 1 v745.length (by kernel_rfl) hg777 (by kernel_rfl) (by kernel_rfl)) (by kernel_rfl) ?_))))))
     exact QI.op (q := { val := undef, upd := some (1, .cells 29 (List.flatMap e29 (List.set v745 (Int.toNat v744) (o775.1, o775.2)))) }) (s1 := (qs (S25_1 p0 p1 v745 v266 v614 v744 o775 o778) (H25_10 p0 v745 v744 o775 r530) [] [(15, 1)])) (by decide) (q_st (P := Try.prog) (base := 1) (hp := (H25_12 p0 v745 r530)) (t := 29) (b := 1) (off := 0 + (Int.toNat v744) * 2) (l := v745) (enc := e29) (s := 2) (T := 29) (i := Int.toNat v744) (k := 0) (n := 2) (y := ag [iv o775.1, iv o775.2]) (xs := [iv o775.1, iv o775.2]) (0, 0) (o775.1, o775.2) (by kernel_rfl) (accB_at (h := (H25_12 p0 v745 r530)) (n := List.length v745) (i := Int.toNat v744) (by kernel_rfl) (by first | omega | (simp <;> omega))) (by decide) (by kernel_rfl) (by kernel_rfl) rfl (by kernel_rfl) (fun _ => rfl) (by omega) (nl rfl) (by first | omega | (simp <;> omega)) rfl) (by kernel_rfl) (QI.done (by kernel_rfl))
   · refine QI.run (s1 := (qs (S25_8 p0 p1 v745 v266 v614 v744) (H25_12 p0 v745 r530) [] [])) 8 (by kernel_rfl) (by kernel_rfl) (QI.op (q := { val := .pointer (some ⟨1, 0 + (Int.toNat (w64 (v744 - 1))) * 2, none⟩) }) (s1 := (qs (S25_6 p0 p1 v745 v266 v614 v744) (H25_12 p0 v745 r530) [] [])) (by decide) (q_ixAcc (P := Try.prog) (t := 42) (s := 2) (e := 29) 1 v745.length (by kernel_rfl) hg774 (by kernel_rfl) (by kernel_rfl)) (by kernel_rfl) (QI.op (q := { val := ag [iv o775.1, iv o775.2] }) (s1 := (qs (S25_5 p0 p1 v745 v266 v614 v744 o775) (H25_12 p0 v745 r530) [] [])) (by decide) (q_nAa Try.prog (H25_12 p0 v745 r530) 29 1 (0 + (Int.toNat (w64 (v744 - 1))) * 2) v745 e29 2 29 (Int.toNat (w64 (v744 - 1))) (0, 0) h776) (by kernel_rfl) (QI.run (s1 := (qs (S25_4 p0 p1 v745 v266 v614 v744 o775) (H25_12 p0 v745 r530) [] [])) 2 (by kernel_rfl) (by kernel_rfl) (QI.op (q := { val := .pointer (some ⟨1, 0 + (Int.toNat v744) * 2, none⟩) }) (s1 := (qs (S25_3 p0 p1 v745 v266 v614 v744 o775) (H25_12 p0 v745 r530) [] [])) (by decide) (q_ixAcc (P := Try.prog) (t := 42) (s := 2) (e := 29) 1 v745.length (by kernel_rfl) hg777 (by kernel_rfl) (by kernel_rfl)) (by kernel_rfl) (QI.op (q := { val := ag [iv o778.1, iv o778.2] }) (s1 := (qs (S25_2 p0 p1 v745 v266 v614 v744 o775 o778) (H25_12 p0 v745 r530) [] [])) (by decide) (q_nAa Try.prog (H25_12 p0 v745 r530) 29 1 (0 + (Int.toNat v744) * 2) v745 e29 2 29 (Int.toNat v744) (0, 0) h779) (by kernel_rfl) (QI.op (q := { val := .pointer (some ⟨1, 0 + (Int.toNat v744) * 2, none⟩) }) (s1 := (qs (S25_1 p0 p1 v745 v266 v614 v744 o775 o778) (H25_12 p0 v745 r530) [] [])) (by decide) (q_ixAcc (P := Try.prog) (t := 42) (s := 2) (e := 29) 1 v745.length (by kernel_rfl) hg777 (by kernel_rfl) (by kernel_rfl)) (by kernel_rfl) ?_))))))
     exact QI.op (q := { val := undef, upd := some (1, .cells 29 (List.flatMap e29 (List.set v745 (Int.toNat v744) (o775.1, o775.2)))) }) (s1 := (qs (S25_1 p0 p1 v745 v266 v614 v744 o775 o778) (H25_10 p0 v745 v744 o775 r530) [] [(15, 1)])) (by decide) (q_st (P := Try.prog) (base := 1) (hp := (H25_12 p0 v745 r530)) (t := 29) (b := 1) (off := 0 + (Int.toNat v744) * 2) (l := v745) (enc := e29) (s := 2) (T := 29) (i := Int.toNat v744) (k := 0) (n := 2) (y := ag [iv o775.1, iv o775.2]) (xs := [iv o775.1, iv o775.2]) (0, 0) (o775.1, o775.2) (by kernel_rfl) (accB_at (h := (H25_12 p0 v745 r530)) (n := List.length v745) (i := Int.toNat v744) (by kernel_rfl) (by first | omega | (simp <;> omega))) (by decide) (by kernel_rfl) (by kernel_rfl) rfl (by kernel_rfl) (fun _ => rfl) (by omega) (nl rfl) (by first | omega | (simp <;> omega)) rfl) (by kernel_rfl) (QI.done (by kernel_rfl))
   · refine SI.op (q := { val := .pointer (some ⟨1, 0 + (Int.toNat (w64 (v744 - 1))) * 2, none⟩) }) (a2 := (S25_0 p0 p1 v745 v266 v614 v744 o775 o778)) (h2 := (H25_10 p0 v745 v744 o775 r530)) (by kernel_rfl) (q_ixAcc (P := Try.prog) (t := 42) (s := 2) (e := 29) 1 v745.length (by kernel_rfl) hg774 (by kernel_rfl) (by kernel_rfl)) (by kernel_rfl) (by kernel_rfl) ?_
     exact SI.op (q := { val := undef, upd := some (1, .cells 29 (List.flatMap e29 (List.set (List.set v745 (Int.toNat v744) (o775.1, o775.2)) (Int.toNat (w64 (v744 - 1))) (o778.1, o778.2)))) }) (a2 := (S25_0 p0 p1 v745 v266 v614 v744 o775 o778)) (h2 := [ab 54 e54 p0, .cells 29 (List.flatMap e29 (List.set (List.set v745 (Int.toNat v744) (o775.1, o775.2)) (Int.toNat (w64 (v744 - 1))) (o778.1, o778.2))), cl 54 [iv r530.1.1, iv r530.1.2], cl 54 [iv r530.2.1, iv r530.2.2]]) (by kernel_rfl) (q_stP Try.prog 1 (H25_10 p0 v745 v744 o775 r530) 29 1 (0 + (Int.toNat (w64 (v744 - 1))) * 2) (List.set v745 (Int.toNat v744) (o775.1, o775.2)) e29 2 29 (Int.toNat (w64 (v744 - 1))) 0 2 (ag [iv o778.1, iv o778.2]) [iv o778.1, iv o778.2] (0, 0) (o778.1, o778.2) (by first | omega | (simp <;> omega))) (by kernel_rfl) (by kernel_rfl) (SI.done (by kernel_rfl))
   refine NX.bk (NX.sq (TS.rg (TI.ra 3 [0, 1, 7, 8, 9, 10, 11, 15] (st 129 [(0, sv 0 p0.length ANY), (1, iv p1), (7, accV 1 v745.length), (8, iv v266), (9, pt 2 0), (10, pt 3 0), (11, iv v614), (15, iv (w64 (v744 - 1)))]) (TI.dn ?_))))
   exact Rd.again (a2 := (st 129 [(0, sv 0 p0.length ANY), (1, iv p1), (7, accV 1 (List.length (List.set (List.set v745 (Int.toNat v744) (o775.1, o775.2)) (Int.toNat (w64 (v744 - 1))) (o778.1, o778.2)))), (8, iv v266), (9, pt 2 0), (10, pt 3 0), (11, iv v614), (15, iv (w64 (v744 - 1)))])) (h2 := [ab 54 e54 p0, accB 29 (List.length (List.set (List.set v745 (Int.toNat v744) (o775.1, o775.2)) (Int.toNat (w64 (v744 - 1))) (o778.1, o778.2))) (List.flatMap e29 (List.set (List.set v745 (Int.toNat v744) (o775.1, o775.2)) (Int.toNat (w64 (v744 - 1))) (o778.1, o778.2))), cl 54 [iv r530.1.1, iv r530.1.2], cl 54 [iv r530.2.1, iv r530.2.2]]) (Wk.an [1, 2, 3] (.ac (.cons (At.accU (by kernel_rfl) rfl (fun _ => rfl)) (.lt (.fl (.fl .nil)) (.lt (.fl (.fl .nil)) (.nil _))))) [sv 0 p0.length ANY, iv p1, accV 1 v745.length, iv v266, pt 2 0, pt 3 0, iv v614, iv (w64 (v744 - 1))] (.sl (.fl (.cons (accE (c := List.length (List.set (List.set v745 (Int.toNat v744) (o775.1, o775.2)) (Int.toNat (w64 (v744 - 1))) (o778.1, o778.2))) (c' := List.length v745) (nl rfl) rfl (by simp only [List.length_set])) (.fl (.pp (.pp (.fl (.fl .nil))))))))) (ih (w64 (v744 - 1)) (List.set (List.set v745 (Int.toNat v744) (o775.1, o775.2)) (Int.toNat (w64 (v744 - 1))) (o778.1, o778.2)) _ hF)
  | false =>
   replace hF := of_neg hF rfl
   refine TS.cdF (.tmp 109) (TS.ex 4 (NX.sqX ?_))
   have hF := sj hF
   subst hF
   exact Rd.out (e := .exit 4) (by intro h; cases h) (And.intro rfl (Wk.an [1, 2, 3] (.ac (.ac (.lt (.fl (.fl .nil)) (.lt (.fl (.fl .nil)) (.nil _))))) [sv 0 p0.length ANY, iv p1, accV 1 v745.length, iv v266, pt 2 0, pt 3 0, iv v614] (.sl (.fl (.cons (Rn.acc (nl rfl) rfl) (.fl (.pp (.pp (.fl .nil)))))))))
 rcases Bool.eq_false_or_eq_true (decide (v744 > 0)) with hc764 | hc764
 · replace hm780 := of_pos hm780 hc764
   have hX := of_guard hm780
   clear hm780
   obtain ⟨hg765, hm780⟩ := hX
   have hX := of_do hm780
   clear hm780
   obtain ⟨o766, h767, hm780⟩ := hX
   replace h767 := sj h767
   have hX := of_guard hm780
   clear hm780
   obtain ⟨hg768, hm780⟩ := hX
   have hX := of_do hm780
   clear hm780
   obtain ⟨o769, h770, hm780⟩ := hX
   replace h770 := sj h770
   have hX := of_do hm780
   clear hm780
   obtain ⟨r771, h772, hm780⟩ := hX
   have hm780 := sj hm780
   subst hm780
   have hT : ∀ e ∈ ([⟨68, [ag [iv o766.1, iv o766.2], ag [iv o769.1, iv o769.2]], (H25_12 p0 v745 r530), .bool r771, []⟩] : List Entry), PureSim Try.prog e.g e.args e.h e.v e.new := by
    intro e he
    simp only [List.mem_cons, List.not_mem_nil, or_false] at he
    rcases he with rfl
    exact PureSim.ak (C68 _ _ _ _ _ h772)
   refine TS.dp [⟨68, [ag [iv o766.1, iv o766.2], ag [iv o769.1, iv o769.2]], (H25_12 p0 v745 r530), .bool r771, []⟩] hT mixed 12 [0, 1, 7, 8, 9, 10, 11, 15, 109] [0, 1, 2, 3] (st 129 [(0, sv 0 p0.length ANY), (1, iv p1), (7, accV 1 v745.length), (8, iv v266), (9, pt 2 0), (10, pt 3 0), (11, iv v614), (15, iv v744), (109, .bool r771)]) (H25_12 p0 v745 r530) ?_ ?_
   · refine QJ.rn (qs (st 129 [(0, sv 0 p0.length ANY), (1, iv p1), (7, accV 1 v745.length), (8, iv v266), (9, pt 2 0), (10, pt 3 0), (11, iv v614), (15, iv v744), (96, iv v744)]) (H25_12 p0 v745 r530) [] []) 1 (QJ.o { val := .bool true } (q_conv (e := decide (v744 > 0)) (b := true) (by kernel_rfl) hc764) (QJ.rn (qs (st 129 [(0, sv 0 p0.length ANY), (1, iv p1), (7, accV 1 v745.length), (8, iv v266), (9, pt 2 0), (10, pt 3 0), (11, iv v614), (15, iv v744), (96, iv v744), (97, .bool true), (98, .bool true), (99, accV 1 v745.length), (100, iv v744)]) (H25_12 p0 v745 r530) [] []) 3 (QJ.o { val := .pointer (some ⟨1, 0 + (Int.toNat v744) * 2, none⟩) } (q_ixAcc (P := Try.prog) (t := 42) (s := 2) (e := 29) 1 v745.length (by kernel_rfl) hg765 (by kernel_rfl) (by kernel_rfl)) (QJ.o { val := ag [iv o766.1, iv o766.2] } (q_nAa Try.prog (H25_12 p0 v745 r530) 29 1 (0 + (Int.toNat v744) * 2) v745 e29 2 29 (Int.toNat v744) (0, 0) h767) (QJ.rn (qs (st 129 [(0, sv 0 p0.length ANY), (1, iv p1), (7, accV 1 v745.length), (8, iv v266), (9, pt 2 0), (10, pt 3 0), (11, iv v614), (15, iv v744), (96, iv v744), (97, .bool true), (98, .bool true), (99, accV 1 v745.length), (100, iv v744), (101, .pointer (some ⟨1, 0 + (Int.toNat v744) * 2, none⟩)), (102, ag [iv o766.1, iv o766.2]), (103, accV 1 v745.length), (104, iv v744), (105, iv (w64 (v744 - 1)))]) (H25_12 p0 v745 r530) [] []) 3 (QJ.o { val := .pointer (some ⟨1, 0 + (Int.toNat (w64 (v744 - 1))) * 2, none⟩) } (q_ixAcc (P := Try.prog) (t := 42) (s := 2) (e := 29) 1 v745.length (by kernel_rfl) hg768 (by kernel_rfl) (by kernel_rfl)) (QJ.o { val := ag [iv o769.1, iv o769.2] } (q_nAa Try.prog (H25_12 p0 v745 r530) 29 1 (0 + (Int.toNat (w64 (v744 - 1))) * 2) v745 e29 2 29 (Int.toNat (w64 (v744 - 1))) (0, 0) h770) (QJ.dn ⟨rfl, ?_⟩))))))))
     exact SJ.o { val := .bool r771, new := [] } (qOf_call (g := 68) (args := [ag [iv o766.1, iv o766.2], ag [iv o769.1, iv o769.2]]) (by kernel_rfl) lookC_hit) SJ.la
   exact hK
 replace hm780 := of_neg hm780 hc764
 have hm780 := sj hm780
 subst hm780
 refine TS.dp [] (fun e he => by cases he) mixed 12 [0, 1, 7, 8, 9, 10, 11, 15, 109] [0, 1, 2, 3] (st 129 [(0, sv 0 p0.length ANY), (1, iv p1), (7, accV 1 v745.length), (8, iv v266), (9, pt 2 0), (10, pt 3 0), (11, iv v614), (15, iv v744), (109, .bool false)]) (H25_12 p0 v745 r530) ?_ ?_
 · exact QJ.rn (qs (st 129 [(0, sv 0 p0.length ANY), (1, iv p1), (7, accV 1 v745.length), (8, iv v266), (9, pt 2 0), (10, pt 3 0), (11, iv v614), (15, iv v744), (96, iv v744)]) (H25_12 p0 v745 r530) [] []) 1 (QJ.o { val := .bool false } (q_conv (e := decide (v744 > 0)) (b := false) (by kernel_rfl) hc764) (QJ.rn (qs (st 129 [(0, sv 0 p0.length ANY), (1, iv p1), (7, accV 1 v745.length), (8, iv v266), (9, pt 2 0), (10, pt 3 0), (11, iv v614), (15, iv v744), (96, iv v744), (97, .bool false), (98, .bool false), (99, undef), (100, undef), (101, undef), (102, undef), (103, undef), (104, undef), (105, undef), (106, undef), (107, undef)]) (H25_12 p0 v745 r530) [] []) 10 (QJ.dn ⟨rfl, SJ.la⟩)))
 exact hK
def P25l1 (p0 : List I2) (p1 : Int) (r530 : I2 × I2) (v266 : Int) (r : Unit ⊕ (List I2)) : Post := fun e a h => (match r with | .inl q0 => e = .ret ∧ Wk Try.prog 1 1 a h (st 129 [(4, .slice none 0 0), (5, iv 16)]) [ab 54 e54 p0] | .inr q0 => e = .exit 2 ∧ Wk Try.prog 1 1 a h (st 129 [(0, sv 0 p0.length ANY), (1, iv p1), (7, accV 1 q0.length), (8, iv v266)]) [ab 54 e54 p0, ab 29 e29 q0])
theorem L25l1 (p0 : List I2) (p1 : Int) (r530 : I2 × I2) (v266 v614 : Int) (v615 : List I2) (r : Unit ⊕ (List I2)) (hF : F25l1 p0 p1 r530 v266 v614 v615 = some r) : TL Try.prog 1 1 c25.s2.s2.s2.s2.s2.s1.s2.bd.bd.s2.s1.bd.s2.s2.bd.bd (st 129 [(0, sv 0 p0.length ANY), (1, iv p1), (7, accV 1 v615.length), (8, iv v266), (9, pt 2 0), (10, pt 3 0), (11, iv v614)]) (H25_13 p0 v615 r530) (P25l1 p0 p1 r530 v266 r) := by
 refine F25l1.partial_correctness p0 p1 r530 v266 (motive := fun v614 v615 r => TL Try.prog 1 1 c25.s2.s2.s2.s2.s2.s1.s2.bd.bd.s2.s1.bd.s2.s2.bd.bd (st 129 [(0, sv 0 p0.length ANY), (1, iv p1), (7, accV 1 v615.length), (8, iv v266), (9, pt 2 0), (10, pt 3 0), (11, iv v614)]) (H25_13 p0 v615 r530) (P25l1 p0 p1 r530 v266 r)) ?_ v614 v615 r hF
 clear hF r v614 v615
 intro again ih v614 v615 r hF
 refine TL.round (TS.sq (TS.sq (TS.rg (TI.ra 2 [0, 1, 7, 8, 9, 10, 11, 41] (st 129 [(0, sv 0 p0.length ANY), (1, iv p1), (7, accV 1 v615.length), (8, iv v266), (9, pt 2 0), (10, pt 3 0), (11, iv v614), (41, .bool (decide (v614 ≤ 2)))]) (TI.dn (NX.sq ?_))))))
 refine TS.cd (.tmp 41) (decide (v614 ≤ 2)) (fun hc701 => ?_) (fun hc701 => ?_)
 · replace hF := of_pos hF hc701
   refine TS.sk (NX.sq (TS.sq (TS.bk 3 (TS.sq ?_))))
   obtain ⟨o702, h703, hF⟩ := of_do hF
   replace h703 := sj h703
   refine TS.rg (TI.ra 9 [0, 1, 7, 8, 9, 10, 11, 50, 52] (st 129 [(0, sv 0 p0.length ANY), (1, iv p1), (7, accV 1 v615.length), (8, iv v266), (9, pt 2 0), (10, pt 3 0), (11, iv v614), (50, iv (w64 ((w64 (p1 + (w64 (v614 * 3600)))) - r530.1.1))), (52, iv r530.1.2)]) (TI.o { val := iv o702 } (q_convI (e := w64 ((w64 ((w64 (p1 + (w64 (v614 * 3600)))) - r530.1.1)) - r530.1.2)) (y := o702) (by kernel_rfl) h703) [0, 1, 7, 8, 9, 10, 11, 53] [0, 1, 2, 3] (st 129 [(0, sv 0 p0.length ANY), (1, iv p1), (7, accV 1 v615.length), (8, iv v266), (9, pt 2 0), (10, pt 3 0), (11, iv v614), (53, iv o702)]) (H25_13 p0 v615 r530) (TI.ra 1 [0, 1, 7, 8, 9, 10, 11, 12] (st 129 [(0, sv 0 p0.length ANY), (1, iv p1), (7, accV 1 v615.length), (8, iv v266), (9, pt 2 0), (10, pt 3 0), (11, iv v614), (12, iv o702)]) (TI.dn (NX.sq (TS.sq ?_))))))
   obtain ⟨r704, h705, hF⟩ := of_do hF
   refine TS.rg (TI.ra 2 [0, 1, 7, 8, 9, 10, 11, 12, 54, 55] (st 129 [(0, sv 0 p0.length ANY), (1, iv p1), (7, accV 1 v615.length), (8, iv v266), (9, pt 2 0), (10, pt 3 0), (11, iv v614), (12, iv o702), (54, sv 0 p0.length ANY), (55, iv v266)]) (TI.cp 61 [sv 0 p0.length ANY, iv v266] (iv r704) [] (PureSim.ren (hc := [ab 54 e54 p0]) (fun i => List.getD [(0, 0)] i (0, 0)) (C61 _ _ _ h705) (.ac (.nil _)) (.cons (Rn.any _ _ _ _ _ _ (nl rfl) rfl rfl (by decide)) (.fl .nil)) (.flat (by kernel_rfl)) newflat_nil) (TI.ra 1 [0, 1, 7, 8, 9, 10, 11, 12, 13] (st 129 [(0, sv 0 p0.length ANY), (1, iv p1), (7, accV 1 v615.length), (8, iv v266), (9, pt 2 0), (10, pt 3 0), (11, iv v614), (12, iv o702), (13, iv r704)]) (TI.dn (NX.sq (TS.sq (TS.sq (TS.rg ?_))))))))
   refine TI.ra 2 [0, 1, 7, 8, 9, 10, 11, 12, 13, 58] (st 129 [(0, sv 0 p0.length ANY), (1, iv p1), (7, accV 1 v615.length), (8, iv v266), (9, pt 2 0), (10, pt 3 0), (11, iv v614), (12, iv o702), (13, iv r704), (58, .bool (r704 == 0))]) (TI.dn (NX.sq ?_))
   refine TS.cd (.tmp 58) (r704 == 0) (fun hc706 => ?_) (fun hc706 => ?_)
   · replace hF := of_pos hF hc706
     refine TS.sq (TS.sq (TS.rg (TI.ra 2 [0, 1, 7, 8, 9, 10, 11, 60] (st 129 [(0, sv 0 p0.length ANY), (1, iv p1), (7, accV 1 v615.length), (8, iv v266), (9, pt 2 0), (10, pt 3 0), (11, iv v614), (60, .bool (o702 == 0))]) (TI.dn (NX.sq ?_)))))
     refine TS.cd (.tmp 60) (o702 == 0) (fun hc707 => ?_) (fun hc707 => ?_)
     · replace hF := of_pos hF hc707
       refine TS.sq (TS.rg (TI.rn 2 [4, 5] [0] (st 129 [(4, .slice none 0 0), (5, iv 16)]) [ab 54 e54 p0, .dead, .dead, .dead] (TI.dn (NX.sq (TS.rt (NX.sqR (NX.sqR (NX.bkR ?_))))))))
       refine NX.sqR ?_
       have hF := sj hF
       subst hF
       exact Rd.out (e := .ret) (by intro h; cases h) (And.intro rfl (Wk.an [] (.ac (.nil _)) [.slice none 0 0, iv 16] (.fl (.fl .nil))))
     replace hF := of_neg hF hc707
     refine TS.sk (NX.sq (TS.ex 3 (NX.sqX (NX.bkX (NX.sq (TS.rg (TI.ra 3 [0, 1, 7, 8, 9, 10, 11] (S25_11 p0 p1 v615 v266 v614) (TI.dn ?_))))))))
     exact Rd.again (a2 := (S25_11 p0 p1 v615 v266 v614)) (h2 := (H25_13 p0 v615 r530)) (Wk.an [1, 2, 3] (.ac (.ac (.lt (.fl (.fl .nil)) (.lt (.fl (.fl .nil)) (.nil _))))) [sv 0 p0.length ANY, iv p1, accV 1 v615.length, iv v266, pt 2 0, pt 3 0, iv (w64 (v614 + 1))] (.sl (.fl (.cons (Rn.acc (nl rfl) rfl) (.fl (.pp (.pp (.fl .nil)))))))) (ih (w64 (v614 + 1)) v615 _ hF)
   replace hF := of_neg hF hc706
   refine TS.sk (NX.sq (TS.sq ?_))
   obtain ⟨r708, h709, hF⟩ := of_do hF
   refine TS.rg (TI.ra 8 [0, 1, 7, 8, 9, 10, 11, 67, 68] (st 129 [(0, sv 0 p0.length ANY), (1, iv p1), (7, accV 1 v615.length), (8, iv v266), (9, pt 2 0), (10, pt 3 0), (11, iv v614), (67, iv (w64 (o702 * (w64 (r530.2.1 - r530.1.1))))), (68, iv r704)]) (TI.cf (C67 _ _ _ h709) (TI.rn 2 [0, 1, 7, 8, 9, 10, 11, 14] [0, 1, 2, 3, 4] (st 129 [(0, sv 0 p0.length ANY), (1, iv p1), (7, accV 1 v615.length), (8, iv v266), (9, pt 2 0), (10, pt 3 0), (11, iv v614), (14, pt 4 0)]) (H25_9 p0 v615 r530 r708) (TI.dn (NX.sq (TS.sq (TS.sq ?_)))))))
   obtain ⟨m715, hm783, hF⟩ := of_do hF
   have hK : NX Try.prog 1 1 [.sq c25.s2.s2.s2.s2.s2.s1.s2.bd.bd.s2.s1.bd.s2.s2.bd.bd.s2.s1.bd.s2.s2.s2.s2.s1.s2, .sq c25.s2.s2.s2.s2.s2.s1.s2.bd.bd.s2.s1.bd.s2.s2.bd.bd.s2.s1.bd.s2.s2.s2.s2.s2, .bk 3, .sq c25.s2.s2.s2.s2.s2.s1.s2.bd.bd.s2.s1.bd.s2.s2.bd.bd.s2.s2] (Rd Try.prog 1 1 c25.s2.s2.s2.s2.s2.s1.s2.bd.bd.s2.s1.bd.s2.s2.bd.bd (P25l1 p0 p1 r530 v266 r)) .normal (st 129 [(0, sv 0 p0.length ANY), (1, iv p1), (7, accV 1 v615.length), (8, iv v266), (9, pt 2 0), (10, pt 3 0), (11, iv v614), (14, pt 4 0), (83, .bool m715)]) (H25_9 p0 v615 r530 r708) := by
    refine NX.sq ?_
    cases m715 with
    | true =>
     replace hF := of_pos hF rfl
     refine TS.cdT (.tmp 83) (TS.ex 3 (NX.sqX (NX.bkX (NX.sq (TS.rg (TI.rn 3 [0, 1, 7, 8, 9, 10, 11] [0, 1, 2, 3] (S25_11 p0 p1 v615 v266 v614) [ab 54 e54 p0, ab 29 e29 v615, cl 54 [iv r530.1.1, iv r530.1.2], cl 54 [iv r530.2.1, iv r530.2.2], .dead] (TI.dn ?_)))))))
     exact Rd.again (a2 := (S25_11 p0 p1 v615 v266 v614)) (h2 := (H25_13 p0 v615 r530)) (Wk.an [1, 2, 3] (.ac (.ac (.lt (.fl (.fl .nil)) (.lt (.fl (.fl .nil)) (.nil _))))) [sv 0 p0.length ANY, iv p1, accV 1 v615.length, iv v266, pt 2 0, pt 3 0, iv (w64 (v614 + 1))] (.sl (.fl (.cons (Rn.acc (nl rfl) rfl) (.fl (.pp (.pp (.fl .nil)))))))) (ih (w64 (v614 + 1)) v615 _ hF)
    | false =>
     replace hF := of_neg hF rfl
     refine TS.cdF (.tmp 83) (TS.sk (NX.sq (TS.sq ?_)))
     obtain ⟨r716, h717, hF⟩ := of_do hF
     obtain ⟨r718, h719, hF⟩ := of_do hF
     obtain ⟨r720, h721, hF⟩ := of_do hF
     obtain ⟨hg722, hF⟩ := of_guard hF
     have hT : ∀ e ∈ ([⟨59, [iv r530.1.1], (H25_9 p0 v615 r530 r708), ag [iv r716.1, iv r716.2], []⟩, ⟨70, [ag [iv r716.1, iv r716.2], ag [iv r708.1, iv r708.2]], (H25_9 p0 v615 r530 r708), ag [iv r718.1, iv r718.2], []⟩, ⟨69, [ag [iv r718.1, iv r718.2]], (H25_9 p0 v615 r530 r708), ag [iv r720.1, iv r720.2], []⟩] : List Entry), PureSim Try.prog e.g e.args e.h e.v e.new := by
      intro e he
      simp only [List.mem_cons, List.not_mem_nil, or_false] at he
      rcases he with rfl | rfl | rfl
      · exact PureSim.ak (C59 _ _ h717)
      · exact PureSim.ak (C70 _ _ _ _ _ h719)
      exact PureSim.ak (C69 _ _ _ h721)
     refine TS.drawT [⟨59, [iv r530.1.1], (H25_9 p0 v615 r530 r708), ag [iv r716.1, iv r716.2], []⟩, ⟨70, [ag [iv r716.1, iv r716.2], ag [iv r708.1, iv r708.2]], (H25_9 p0 v615 r530 r708), ag [iv r718.1, iv r718.2], []⟩, ⟨69, [ag [iv r718.1, iv r718.2]], (H25_9 p0 v615 r530 r708), ag [iv r720.1, iv r720.2], []⟩] hT mixed 8 [] (S25_7 p0 p1 v615 v266 v614 r530 r716 r708 r718 r720) [ab 54 e54 p0, ab 29 e29 v615, cl 54 [iv r530.1.1, iv r530.1.2], cl 54 [iv r530.2.1, iv r530.2.2], cl 29 [iv r708.1, iv r708.2], cl 29 [iv r720.1, iv r720.2]] ?_ ?_
     · exact QJ.rn (qs (st 129 [(0, sv 0 p0.length ANY), (1, iv p1), (7, accV 1 v615.length), (8, iv v266), (9, pt 2 0), (10, pt 3 0), (11, iv v614), (14, pt 4 0), (83, .bool false), (84, accV 1 v615.length), (85, pt 2 0), (86, iv r530.1.1)]) (H25_9 p0 v615 r530 r708) [] []) 3 (QJ.o { val := ag [iv r716.1, iv r716.2], new := [] } (qOf_call (g := 59) (args := [iv r530.1.1]) (by kernel_rfl) lookC_hit) (QJ.rn (qs (st 129 [(0, sv 0 p0.length ANY), (1, iv p1), (7, accV 1 v615.length), (8, iv v266), (9, pt 2 0), (10, pt 3 0), (11, iv v614), (14, pt 4 0), (83, .bool false), (84, accV 1 v615.length), (85, pt 2 0), (86, iv r530.1.1), (87, ag [iv r716.1, iv r716.2]), (88, ag [iv r708.1, iv r708.2])]) (H25_9 p0 v615 r530 r708) [] []) 1 (QJ.o { val := ag [iv r718.1, iv r718.2], new := [] } (qOf_call (g := 70) (args := [ag [iv r716.1, iv r716.2], ag [iv r708.1, iv r708.2]]) (by kernel_rfl) (lookC_skip (fun hg => absurd (show (59 : Nat) = 70 from hg) (by decide)) lookC_hit)) (QJ.o { val := ag [iv r720.1, iv r720.2], new := [] } (qOf_call (g := 69) (args := [ag [iv r718.1, iv r718.2]]) (by kernel_rfl) (lookC_skip (fun hg => absurd (show (59 : Nat) = 69 from hg) (by decide)) (lookC_skip (fun hg => absurd (show (70 : Nat) = 69 from hg) (by decide)) lookC_hit))) (QJ.rn (qs (S25_7 p0 p1 v615 v266 v614 r530 r716 r708 r718 r720) [ab 54 e54 p0, ab 29 e29 v615, cl 54 [iv r530.1.1, iv r530.1.2], cl 54 [iv r530.2.1, iv r530.2.2], cl 29 [iv r708.1, iv r708.2], cl 29 [iv r720.1, iv r720.2]] [(7, 5, 6)] []) 1 (QJ.dn ⟨by kernel_rfl, by kernel_rfl, by kernel_rfl⟩))))))
     refine TI.rn 0 [0, 1, 8, 9, 10, 11, 84, 91] [0, 1, 2, 3, 5] (st 129 [(0, sv 0 p0.length ANY), (1, iv p1), (8, iv v266), (9, pt 2 0), (10, pt 3 0), (11, iv v614), (84, accV 1 v615.length), (91, sv 5 1 1)]) [ab 54 e54 p0, ab 29 e29 v615, cl 54 [iv r530.1.1, iv r530.1.2], cl 54 [iv r530.2.1, iv r530.2.2], .dead, cl 29 [iv r720.1, iv r720.2]] (TI.acc (l := v615) (b := 1) (ts := #[42, 42]) (e := 29) (bytes := 16) (z := ag [iv 0, iv 0]) (y := sv 5 1 1) (ys := [(r720.1, r720.2)]) (xs := List.flatMap e29 ([(r720.1, r720.2)])) (m := 1) (s := 2) (enc := e29) (by kernel_rfl) (by kernel_rfl) (by decide) (by kernel_rfl) (by kernel_rfl) (by kernel_rfl) (by kernel_rfl) (by kernel_rfl) (by kernel_rfl) (by kernel_rfl) (by kernel_rfl) (fun _ => rfl) rfl rfl (by omega) [0, 1, 8, 9, 10, 11, 92] [0, 2, 3, 6] (a2 := (st 129 [(0, sv 0 p0.length ANY), (1, iv p1), (8, iv v266), (9, pt 2 0), (10, pt 3 0), (11, iv v614), (92, sv 6 (List.length (v615 ++ [(r720.1, r720.2)])) UNK)])) (h2 := [ab 54 e54 p0, .dead, cl 54 [iv r530.1.1, iv r530.1.2], cl 54 [iv r530.2.1, iv r530.2.2], .dead, .dead, .cells 29 (List.flatMap e29 (v615 ++ [(r720.1, r720.2)]))]) (by kernel_rfl) (TI.ra 1 [0, 1, 7, 8, 9, 10, 11] (st 129 [(0, sv 0 p0.length ANY), (1, iv p1), (7, sv 6 (List.length (v615 ++ [(r720.1, r720.2)])) UNK), (8, iv v266), (9, pt 2 0), (10, pt 3 0), (11, iv v614)]) (TI.dn (NX.sq (TS.sq (TS.rg (TI.ra 4 [0, 1, 7, 8, 9, 10, 11, 15] (st 129 [(0, sv 0 p0.length ANY), (1, iv p1), (7, sv 6 (List.length (v615 ++ [(r720.1, r720.2)])) UNK), (8, iv v266), (9, pt 2 0), (10, pt 3 0), (11, iv v614), (15, iv (w64 ((List.length (v615 ++ [(r720.1, r720.2)]) : Int) - 1)))]) (TI.dn ?_))))))))
     refine NX.sq (TS.bk 4 ?_)
     obtain ⟨r781, h782, hF⟩ := of_do hF
     refine TS.lp (TL.weak (a2 := (st 129 [(0, sv 0 p0.length ANY), (1, iv p1), (7, accV 1 (List.length (v615 ++ [(r720.1, r720.2)]))), (8, iv v266), (9, pt 2 0), (10, pt 3 0), (11, iv v614), (15, iv (w64 ((List.length (v615 ++ [(r720.1, r720.2)]) : Int) - 1)))])) (h2 := [ab 54 e54 p0, accB 29 (List.length (v615 ++ [(r720.1, r720.2)])) (List.flatMap e29 (v615 ++ [(r720.1, r720.2)])), cl 54 [iv r530.1.1, iv r530.1.2], cl 54 [iv r530.2.1, iv r530.2.2]]) (Wk.an [6, 2, 3] (.ac (.cons (At.accU (by kernel_rfl) rfl (fun _ => rfl)) (.lt (.fl (.fl .nil)) (.lt (.fl (.fl .nil)) (.nil _))))) [sv 0 p0.length ANY, iv p1, sv 6 (List.length (v615 ++ [(r720.1, r720.2)])) UNK, iv v266, pt 2 0, pt 3 0, iv v614, iv (w64 ((List.length (v615 ++ [(r720.1, r720.2)]) : Int) - 1))] (.sl (.fl (.cons (Rn.accU (nl rfl) rfl (by simp)) (.fl (.pp (.pp (.fl (.fl .nil))))))))) (TL.post (L25l2 p0 p1 r530 v266 v614 (w64 ((List.length (v615 ++ [(r720.1, r720.2)]) : Int) - 1)) (v615 ++ [(r720.1, r720.2)]) r781 h782) ?_))
     rintro e a1 h1 hp
     obtain ⟨rfl, hw⟩ := hp
     refine ⟨(st 129 [(0, sv 0 p0.length ANY), (1, iv p1), (7, accV 1 r781.length), (8, iv v266), (9, pt 2 0), (10, pt 3 0), (11, iv v614)]), [ab 54 e54 p0, ab 29 e29 r781, cl 54 [iv r530.1.1, iv r530.1.2], cl 54 [iv r530.2.1, iv r530.2.2]], (NX.bkX (NX.bk (NX.sq (TS.rg (TI.ra 3 [0, 1, 7, 8, 9, 10, 11] (st 129 [(0, sv 0 p0.length ANY), (1, iv p1), (7, accV 1 r781.length), (8, iv v266), (9, pt 2 0), (10, pt 3 0), (11, iv (w64 (v614 + 1)))]) (TI.dn ?_)))))), hw⟩
     exact Rd.again (a2 := (st 129 [(0, sv 0 p0.length ANY), (1, iv p1), (7, accV 1 r781.length), (8, iv v266), (9, pt 2 0), (10, pt 3 0), (11, iv (w64 (v614 + 1)))])) (h2 := [ab 54 e54 p0, ab 29 e29 r781, cl 54 [iv r530.1.1, iv r530.1.2], cl 54 [iv r530.2.1, iv r530.2.2]]) (Wk.an [1, 2, 3] (.ac (.ac (.lt (.fl (.fl .nil)) (.lt (.fl (.fl .nil)) (.nil _))))) [sv 0 p0.length ANY, iv p1, accV 1 r781.length, iv v266, pt 2 0, pt 3 0, iv (w64 (v614 + 1))] (.sl (.fl (.cons (Rn.acc (nl rfl) rfl) (.fl (.pp (.pp (.fl .nil)))))))) (ih (w64 (v614 + 1)) r781 _ hF)
   rcases Bool.eq_false_or_eq_true (decide (r708.1 < 0)) with hc710 | hc710
   · replace hm783 := of_pos hm783 hc710
     have hm783 := sj hm783
     subst hm783
     refine TS.dp [] (fun e he => by cases he) mixed 11 [0, 1, 7, 8, 9, 10, 11, 14, 83] [0, 1, 2, 3, 4] (st 129 [(0, sv 0 p0.length ANY), (1, iv p1), (7, accV 1 v615.length), (8, iv v266), (9, pt 2 0), (10, pt 3 0), (11, iv v614), (14, pt 4 0), (83, .bool true)]) (H25_9 p0 v615 r530 r708) ?_ ?_
     · exact QJ.rn (qs (st 129 [(0, sv 0 p0.length ANY), (1, iv p1), (7, accV 1 v615.length), (8, iv v266), (9, pt 2 0), (10, pt 3 0), (11, iv v614), (14, pt 4 0), (70, pt 4 0), (71, iv r708.1)]) (H25_9 p0 v615 r530 r708) [] []) 2 (QJ.o { val := .bool true } (q_conv (e := decide (r708.1 < 0)) (b := true) (by kernel_rfl) hc710) (QJ.rn (qs (st 129 [(0, sv 0 p0.length ANY), (1, iv p1), (7, accV 1 v615.length), (8, iv v266), (9, pt 2 0), (10, pt 3 0), (11, iv v614), (14, pt 4 0), (70, pt 4 0), (71, iv r708.1), (72, .bool true), (73, .bool true), (74, undef), (75, undef), (76, undef), (77, undef), (78, undef), (79, undef), (80, undef)]) (H25_9 p0 v615 r530 r708) [] []) 8 (QJ.dn ⟨rfl, SJ.la⟩)))
     exact hK
   replace hm783 := of_neg hm783 hc710
   have hX := of_do hm783
   clear hm783
   obtain ⟨r711, h712, hm783⟩ := hX
   have hX := of_do hm783
   clear hm783
   obtain ⟨r713, h714, hm783⟩ := hX
   have hm783 := sj hm783
   subst hm783
   have hT : ∀ e ∈ ([⟨59, [iv (w64 (r530.2.1 - r530.1.1))], (H25_9 p0 v615 r530 r708), ag [iv r711.1, iv r711.2], []⟩, ⟨68, [ag [iv r708.1, iv r708.2], ag [iv r711.1, iv r711.2]], (H25_9 p0 v615 r530 r708), .bool r713, []⟩] : List Entry), PureSim Try.prog e.g e.args e.h e.v e.new := by
    intro e he
    simp only [List.mem_cons, List.not_mem_nil, or_false] at he
    rcases he with rfl | rfl
    · exact PureSim.ak (C59 _ _ h712)
    exact PureSim.ak (C68 _ _ _ _ _ h714)
   refine TS.dp [⟨59, [iv (w64 (r530.2.1 - r530.1.1))], (H25_9 p0 v615 r530 r708), ag [iv r711.1, iv r711.2], []⟩, ⟨68, [ag [iv r708.1, iv r708.2], ag [iv r711.1, iv r711.2]], (H25_9 p0 v615 r530 r708), .bool r713, []⟩] hT mixed 11 [0, 1, 7, 8, 9, 10, 11, 14, 83] [0, 1, 2, 3, 4] (st 129 [(0, sv 0 p0.length ANY), (1, iv p1), (7, accV 1 v615.length), (8, iv v266), (9, pt 2 0), (10, pt 3 0), (11, iv v614), (14, pt 4 0), (83, .bool (!r713))]) (H25_9 p0 v615 r530 r708) ?_ ?_
   · exact QJ.rn (qs (st 129 [(0, sv 0 p0.length ANY), (1, iv p1), (7, accV 1 v615.length), (8, iv v266), (9, pt 2 0), (10, pt 3 0), (11, iv v614), (14, pt 4 0), (70, pt 4 0), (71, iv r708.1)]) (H25_9 p0 v615 r530 r708) [] []) 2 (QJ.o { val := .bool false } (q_conv (e := decide (r708.1 < 0)) (b := false) (by kernel_rfl) hc710) (QJ.rn (qs (st 129 [(0, sv 0 p0.length ANY), (1, iv p1), (7, accV 1 v615.length), (8, iv v266), (9, pt 2 0), (10, pt 3 0), (11, iv v614), (14, pt 4 0), (70, pt 4 0), (71, iv r708.1), (72, .bool false), (73, .bool false), (74, ag [iv r708.1, iv r708.2]), (75, pt 3 0), (76, iv r530.2.1), (77, pt 2 0), (78, iv r530.1.1), (79, iv (w64 (r530.2.1 - r530.1.1)))]) (H25_9 p0 v615 r530 r708) [] []) 7 (QJ.o { val := ag [iv r711.1, iv r711.2], new := [] } (qOf_call (g := 59) (args := [iv (w64 (r530.2.1 - r530.1.1))]) (by kernel_rfl) lookC_hit) (QJ.dn ⟨rfl, (SJ.o { val := .bool r713, new := [] } (qOf_call (g := 68) (args := [ag [iv r708.1, iv r708.2], ag [iv r711.1, iv r711.2]]) (by kernel_rfl) (lookC_skip (fun hg => absurd (show (59 : Nat) = 68 from hg) (by decide)) lookC_hit)) SJ.la)⟩))))
   exact hK
 replace hF := of_neg hF hc701
 refine TS.ex 2 (NX.sqX ?_)
 have hF := sj hF
 subst hF
 exact Rd.out (e := .exit 2) (by intro h; cases h) (And.intro rfl (Wk.an [1] (.ac (.ac (.nil _))) [sv 0 p0.length ANY, iv p1, accV 1 v615.length, iv v266] (.sl (.fl (.cons (Rn.acc (nl rfl) rfl) (.fl .nil))))))
def P25l0 (p0 : List I2) (p1 : Int) (r : Unit ⊕ (List I2)) : Post := fun e a h => (match r with | .inl q0 => e = .ret ∧ Wk Try.prog 1 1 a h (st 129 [(4, .slice none 0 0), (5, iv 16)]) [ab 54 e54 p0] | .inr q0 => e = .exit 0 ∧ Wk Try.prog 1 1 a h (st 129 [(7, accV 1 q0.length)]) [ab 54 e54 p0, ab 29 e29 q0])
theorem L25l0 (p0 : List I2) (p1 : Int) (v267 : List I2) (v266 : Int) (r : Unit ⊕ (List I2)) (hF : F25l0 p0 p1 v267 v266 = some r) : TL Try.prog 1 1 c25.s2.s2.s2.s2.s2.s1.s2.bd.bd (st 129 [(0, sv 0 p0.length ANY), (1, iv p1), (7, accV 1 v267.length), (8, iv v266)]) [ab 54 e54 p0, ab 29 e29 v267] (P25l0 p0 p1 r) := by
 refine F25l0.partial_correctness p0 p1 (motive := fun v267 v266 r => TL Try.prog 1 1 c25.s2.s2.s2.s2.s2.s1.s2.bd.bd (st 129 [(0, sv 0 p0.length ANY), (1, iv p1), (7, accV 1 v267.length), (8, iv v266)]) [ab 54 e54 p0, ab 29 e29 v267] (P25l0 p0 p1 r)) ?_ v267 v266 r hF
 clear hF r v267 v266
 intro again ih v267 v266 r hF
 refine TL.round (TS.sq (TS.sq (TS.rg (TI.ra 4 [0, 1, 7, 8, 31] (st 129 [(0, sv 0 p0.length ANY), (1, iv p1), (7, accV 1 v267.length), (8, iv v266), (31, .bool (decide (v266 < (p0.length : Int))))]) (TI.dn (NX.sq ?_))))))
 refine TS.cd (.tmp 31) (decide (v266 < (p0.length : Int))) (fun hc529 => ?_) (fun hc529 => ?_)
 · replace hF := of_pos hF hc529
   refine TS.sk (NX.sq (TS.sq (TS.bk 1 (TS.sq ?_))))
   obtain ⟨r530, h531, hF⟩ := of_do hF
   refine TS.rg (TI.ra 2 [0, 1, 7, 8, 35, 36] (st 129 [(0, sv 0 p0.length ANY), (1, iv p1), (7, accV 1 v267.length), (8, iv v266), (35, sv 0 p0.length ANY), (36, iv v266)]) (TI.cp 66 [sv 0 p0.length ANY, iv v266] (.tuple ⟨[ag [iv r530.1.1, iv r530.1.2], ag [iv r530.2.1, iv r530.2.2]]⟩) [] (PureSim.ren (hc := [ab 54 e54 p0]) (fun i => List.getD [(0, 0)] i (0, 0)) (C66 _ _ _ h531) (.ac (.nil _)) (.cons (Rn.any _ _ _ _ _ _ (nl rfl) rfl rfl (by decide)) (.fl .nil)) (.flat (by kernel_rfl)) newflat_nil) (TI.rn 7 [0, 1, 7, 8, 9, 10] [0, 1, 2, 3] (st 129 [(0, sv 0 p0.length ANY), (1, iv p1), (7, accV 1 v267.length), (8, iv v266), (9, pt 2 0), (10, pt 3 0)]) [ab 54 e54 p0, ab 29 e29 v267, cl 54 [iv r530.1.1, iv r530.1.2], cl 54 [iv r530.2.1, iv r530.2.2]] (TI.dn (NX.sq (TS.sq (TS.rg (TI.ra 1 [0, 1, 7, 8, 9, 10, 11] (st 129 [(0, sv 0 p0.length ANY), (1, iv p1), (7, accV 1 v267.length), (8, iv v266), (9, pt 2 0), (10, pt 3 0), (11, iv (-2))]) ?_))))))))
   refine TI.dn (NX.sq (TS.bk 2 ?_))
   obtain ⟨r784, h785, hF⟩ := of_do hF
   refine TS.lp (TL.weak (a2 := (st 129 [(0, sv 0 p0.length ANY), (1, iv p1), (7, accV 1 v267.length), (8, iv v266), (9, pt 2 0), (10, pt 3 0), (11, iv (-2))])) (h2 := [ab 54 e54 p0, ab 29 e29 v267, cl 54 [iv r530.1.1, iv r530.1.2], cl 54 [iv r530.2.1, iv r530.2.2]]) (Wk.an [1, 2, 3] (.ac (.ac (.lt (.fl (.fl .nil)) (.lt (.fl (.fl .nil)) (.nil _))))) [sv 0 p0.length ANY, iv p1, accV 1 v267.length, iv v266, pt 2 0, pt 3 0, iv (-2)] (.sl (.fl (.cons (Rn.acc (nl rfl) rfl) (.fl (.pp (.pp (.fl .nil)))))))) (TL.post (L25l1 p0 p1 r530 v266 (-2) v267 r784 h785) ?_))
   rintro e a1 h1 hp
   rcases r784 with o786 | o787
   · skip
     obtain ⟨rfl, hw⟩ := hp
     refine ⟨(st 129 [(4, .slice none 0 0), (5, iv 16)]), [ab 54 e54 p0], (NX.bkR (NX.bkR (NX.sqR ?_))), hw⟩
     have hF := sj hF
     subst hF
     exact Rd.out (e := .ret) (by intro h; cases h) (And.intro rfl (Wk.an [] (.ac (.nil _)) [.slice none 0 0, iv 16] (.fl (.fl .nil))))
   skip
   obtain ⟨rfl, hw⟩ := hp
   refine ⟨(st 129 [(0, sv 0 p0.length ANY), (1, iv p1), (7, accV 1 o787.length), (8, iv v266)]), [ab 54 e54 p0, ab 29 e29 o787], (NX.bkX (NX.bk (NX.sq (TS.rg (TI.ra 3 [0, 1, 7, 8] (st 129 [(0, sv 0 p0.length ANY), (1, iv p1), (7, accV 1 o787.length), (8, iv (w64 (v266 + 1)))]) (TI.dn ?_)))))), hw⟩
   exact Rd.again (a2 := (st 129 [(0, sv 0 p0.length ANY), (1, iv p1), (7, accV 1 o787.length), (8, iv (w64 (v266 + 1)))])) (h2 := [ab 54 e54 p0, ab 29 e29 o787]) (Wk.an [1] (.ac (.ac (.nil _))) [sv 0 p0.length ANY, iv p1, accV 1 o787.length, iv (w64 (v266 + 1))] (.sl (.fl (.cons (Rn.acc (nl rfl) rfl) (.fl .nil))))) (ih o787 (w64 (v266 + 1)) _ hF)
 replace hF := of_neg hF hc529
 refine TS.ex 0 (NX.sqX ?_)
 have hF := sj hF
 subst hF
 exact Rd.out (e := .exit 0) (by intro h; cases h) (And.intro rfl (Wk.an [1] (.ac (.ac (.nil _))) [accV 1 v267.length] (.cons (Rn.acc (nl rfl) rfl) .nil)))
theorem B25 (p0 : List I2) (p1 : Int) (r : (List I2) × Int) (hF : F25 p0 p1 = some r) : TS Try.prog 1 1 c25 (st 129 [(0, sv 0 p0.length ANY), (1, iv p1)]) [ab 54 e54 p0] (NX Try.prog 1 1 [] (FinP Try.prog Try.f25 1 (V25 1 r) (N25 1 r))) := by
 unfold F25 at hF
 refine TS.sq (TS.rg (TI.ra 2 [0, 1] (st 129 [(0, sv 0 p0.length ANY), (1, iv p1)]) (TI.dn (NX.sq (TS.sq ?_)))))
 obtain ⟨r1, h2, hF⟩ := of_do hF
 refine TS.rg (TI.ra 1 [0, 1, 16] (st 129 [(0, sv 0 p0.length ANY), (1, iv p1), (16, sv 0 p0.length ANY)]) (TI.cp 23 [sv 0 p0.length ANY] (iv r1) [] (PureSim.ren (hc := [ab 54 e54 p0]) (fun i => List.getD [(0, 0)] i (0, 0)) (C23 _ _ h2) (.ac (.nil _)) (.cons (Rn.any _ _ _ _ _ _ (nl rfl) rfl rfl (by decide)) .nil) (.flat (by kernel_rfl)) newflat_nil) (TI.ra 1 [0, 1, 6] (st 129 [(0, sv 0 p0.length ANY), (1, iv p1), (6, iv r1)]) (TI.dn (NX.sq (TS.sq (TS.sq ?_)))))))
 obtain ⟨m6, hm792, hF⟩ := of_do hF
 have hK : NX Try.prog 1 1 [.sq c25.s2.s2.s1.s2, .sq c25.s2.s2.s2] (FinP Try.prog Try.f25 1 (V25 1 r) (N25 1 r)) .normal (st 129 [(0, sv 0 p0.length ANY), (1, iv p1), (6, iv r1), (24, .bool m6)]) [ab 54 e54 p0] := by
  refine NX.sq ?_
  obtain ⟨m9, hm10, hF⟩ := of_do hF
  have hK : NX Try.prog 1 1 [.sq c25.s2.s2.s2] (FinP Try.prog Try.f25 1 (V25 1 r) (N25 1 r)) .normal (st 129 [(0, sv 0 p0.length ANY), (1, iv p1), (6, iv m9)]) [ab 54 e54 p0] := by
   refine NX.sq (TS.sq (TS.sq (TS.rg (TI.ra 2 [0, 1, 6, 26] (st 129 [(0, sv 0 p0.length ANY), (1, iv p1), (6, iv m9), (26, .bool (m9 != 0))]) (TI.dn (NX.sq ?_))))))
   refine TS.cd (.tmp 26) (m9 != 0) (fun hc11 => ?_) (fun hc11 => ?_)
   · replace hF := of_pos hF hc11
     refine TS.sq (TS.rg (TI.ra 3 [4, 5] (st 129 [(4, .slice none 0 0), (5, iv m9)]) (TI.dn (NX.sq (TS.rt (NX.sqR ?_))))))
     have hF := sj hF
     subst hF
     exact ⟨.inr rfl, rfl, .tuple ⟨[.slice none 0 0, iv m9]⟩, by kernel_rfl, WkV.made (L := 1) (f := [1]) (by decide) (by decide) rfl (.cons At.accN (.nil _)) (Rn.tuple' (.cons Rn.accN (.fl .nil)))⟩
   replace hF := of_neg hF hc11
   refine TS.sk (NX.sq (TS.sq (TS.rg (TI.ra 1 [0, 1, 7] (st 129 [(0, sv 0 p0.length ANY), (1, iv p1), (7, .slice none 0 0)]) (TI.dn (NX.sq (TS.sq (TS.sq ?_))))))))
   refine TS.rg (TI.ra 1 [0, 1, 7, 8] (st 129 [(0, sv 0 p0.length ANY), (1, iv p1), (7, .slice none 0 0), (8, iv 0)]) (TI.dn (NX.sq (TS.bk 0 ?_))))
   obtain ⟨r788, h789, hF⟩ := of_do hF
   refine TS.lp (TL.weak (a2 := (st 129 [(0, sv 0 p0.length ANY), (1, iv p1), (7, accV 1 (List.length ([]))), (8, iv 0)])) (h2 := [ab 54 e54 p0, accB 29 (List.length ([])) (List.flatMap e29 ([]))]) (Wk.an [1] (.ac (.cons At.accN (.nil _))) [sv 0 p0.length ANY, iv p1, .slice none 0 0, iv 0] (.sl (.fl (.cons (Rn.accN) (.fl .nil))))) (TL.post (L25l0 p0 p1 ([]) 0 r788 h789) ?_))
   rintro e a1 h1 hp
   rcases r788 with o790 | o791
   · skip
     obtain ⟨rfl, hw⟩ := hp
     refine ⟨(st 129 [(4, .slice none 0 0), (5, iv 16)]), [ab 54 e54 p0], (NX.bkR (NX.sqR ?_)), hw⟩
     have hF := sj hF
     subst hF
     exact ⟨.inr rfl, rfl, .tuple ⟨[.slice none 0 0, iv 16]⟩, by kernel_rfl, WkV.made (L := 1) (f := [1]) (by decide) (by decide) rfl (.cons At.accN (.nil _)) (Rn.tuple' (.cons Rn.accN (.fl .nil)))⟩
   skip
   obtain ⟨rfl, hw⟩ := hp
   refine ⟨(st 129 [(7, accV 1 o791.length)]), [ab 54 e54 p0, ab 29 e29 o791], (NX.bkX (NX.sq (TS.sq (TS.rg (TI.ra 3 [4, 5] (st 129 [(4, accV 1 o791.length), (5, iv 0)]) (TI.dn (NX.sq (TS.rt ?_)))))))), hw⟩
   have hF := sj hF
   subst hF
   exact ⟨.inr rfl, rfl, .tuple ⟨[accV 1 o791.length, iv 0]⟩, by kernel_rfl, WkV.made (L := 1) (f := [1]) (by decide) (by decide) rfl (.ac (.nil _)) (Rn.tuple' (.cons (Rn.acc (nl rfl) rfl) (.fl .nil)))⟩
  clear hF
  have hF := hm10
  clear hm10
  refine TS.start ?_
  cases m6 with
  | true =>
   replace hF := of_pos hF rfl
   refine TS.cdT (.tmp 24) (TS.rg (TI.ra 1 [0, 1, 6] (st 129 [(0, sv 0 p0.length ANY), (1, iv p1), (6, iv 1)]) (TI.dn ?_)))
   have hF := sj hF
   subst hF
   exact TS.weak (by exact (Wk.an [] (.ac (.nil _)) [sv 0 p0.length ANY, iv p1, iv 1] (.sl (.fl (.fl .nil))))) hK
  | false =>
   replace hF := of_neg hF rfl
   refine TS.cdF (.tmp 24) (TS.sk ?_)
   have hF := sj hF
   subst hF
   exact TS.weak (by exact (Wk.an [] (.ac (.nil _)) [sv 0 p0.length ANY, iv p1, iv r1] (.sl (.fl (.fl .nil))))) hK
 rcases Bool.eq_false_or_eq_true (r1 == 0) with hc3 | hc3
 · replace hm792 := of_pos hm792 hc3
   have hX := of_do hm792
   clear hm792
   obtain ⟨r4, h5, hm792⟩ := hX
   have hm792 := sj hm792
   subst hm792
   exact TS.rg (TI.ra 1 [0, 1, 6, 18] (st 129 [(0, sv 0 p0.length ANY), (1, iv p1), (6, iv r1), (18, iv r1)]) (TI.o { val := .bool true } (q_conv (e := r1 == 0) (b := true) (by kernel_rfl) hc3) [0, 1, 6, 19] [0] (st 129 [(0, sv 0 p0.length ANY), (1, iv p1), (6, iv r1), (19, .bool true)]) [ab 54 e54 p0] (TI.ra 2 [0, 1, 6, 20, 21] (st 129 [(0, sv 0 p0.length ANY), (1, iv p1), (6, iv r1), (20, .bool true), (21, iv p1)]) (TI.cf (C57 _ _ h5) (TI.ra 2 [0, 1, 6, 24] (st 129 [(0, sv 0 p0.length ANY), (1, iv p1), (6, iv r1), (24, .bool (!r4))]) (TI.dn hK))))))
 replace hm792 := of_neg hm792 hc3
 have hm792 := sj hm792
 subst hm792
 exact TS.rg (TI.ra 1 [0, 1, 6, 18] (st 129 [(0, sv 0 p0.length ANY), (1, iv p1), (6, iv r1), (18, iv r1)]) (TI.o { val := .bool false } (q_conv (e := r1 == 0) (b := false) (by kernel_rfl) hc3) [0, 1, 6, 19] [0] (st 129 [(0, sv 0 p0.length ANY), (1, iv p1), (6, iv r1), (19, .bool false)]) [ab 54 e54 p0] (TI.ra 5 [0, 1, 6, 24] (st 129 [(0, sv 0 p0.length ANY), (1, iv p1), (6, iv r1), (24, .bool false)]) (TI.dn hK))))
theorem C25 (p0 : List I2) (p1 : Int) (r : (List I2) × Int) (hF : F25 p0 p1 = some r) : PureSim Try.prog 25 [sv 0 p0.length ANY, iv p1] [ab 54 e54 p0] (V25 1 r) (N25 1 r) :=
 PureSim.of_Fin Try.func25 (c := c25) (by kernel_rfl) (by kernel_rfl) 1 rfl [0, 1] [0] (by kernel_rfl) (B25 p0 p1 r hF)
noncomputable def c58 : Code := Try.f58.code
def H58_0 (p0 : List I2) (m10 p2 : Int) (r59 : I2 × I2) : List Blk := [ab 54 e54 p0, cl 29 [iv m10, iv p2], cl 29 [iv 0, iv 0], cl 54 [iv r59.1.1, iv r59.1.2], cl 54 [iv r59.2.1, iv r59.2.2]]
def H58_1 (p0 : List I2) (r59 : I2 × I2) (r72 : I2) : List Blk := [ab 54 e54 p0, .dead, cl 29 [iv 0, iv 0], cl 54 [iv r59.1.1, iv r59.1.2], .dead, cl 29 [iv r72.1, iv r72.2]]
def H58_2 (p0 : List I2) (m10 p2 : Int) : List Blk := [ab 54 e54 p0, cl 29 [iv m10, iv p2], cl 29 [iv 0, iv 0]]
def H58_3 (p0 : List I2) (p1 p2 : Int) : List Blk := [ab 54 e54 p0, cl 29 [iv p1, iv p2], cl 29 [iv 0, iv 0]]
def S58_4 (p0 : List I2) : CAct := (st 77 [(0, sv 0 p0.length ANY), (3, pt 1 0), (4, pt 2 0)])
def F58l0 (p0 : List I2) (p2 m10 v33 : Int) : Option (I2 ⊕ Unit) :=
 if decide (v33 < (p0.length : Int)) then
  F66 p0 v33 >>= fun r59 =>
  F59 r59.1.1 >>= fun r61 =>
  F68 m10 p2 r61.1 r61.2 >>= fun r63 =>
  (
   if r63 then
    some (true)
   else
    F59 r59.2.1 >>= fun r65 =>
    F68 m10 p2 r65.1 r65.2 >>= fun r67 =>
    some (!r67)
  : Option Bool) >>= fun m69 =>
  if m69 then
   F58l0 p0 p2 m10 (w64 (v33 + 1))
  else
   some (w64 ((w64 (r59.2.2 - r59.1.2)) * (w64 (m10 - (w64 (r59.1.1 * p2)))))) >>= fun o70 =>
   F67 o70 (w64 ((w64 (r59.2.1 - r59.1.1)) * p2)) >>= fun r72 =>
   F59 r59.1.2 >>= fun r74 =>
   F70 r74.1 r74.2 r72.1 r72.2 >>= fun r76 =>
   some (.inl (r76.1, r76.2))
 else
  some (.inr ())
 partial_fixpoint
def F58 (p0 : List I2) (p1 p2 : Int) : Option I2 :=
 if (0 : Int) ≤ 0 ∧ 0 < (p0.length : Int) then
  some (List.getD p0 (Int.toNat 0) (0, 0)) >>= fun o2 =>
  F59 o2.1 >>= fun r4 =>
  F68 p1 p2 r4.1 r4.2 >>= fun r6 =>
  (
   if r6 then
    some (w64 (p1 + (w64 (3600 * p2))))
   else
    some p1
  : Option Int) >>= fun m10 =>
  F58l0 p0 p2 m10 0 >>= fun r79 =>
  match r79 with
  | .inl o81 =>
   some (o81.1, o81.2)
  | .inr o82 =>
   F59 0 >>= fun r83 =>
   some (r83.1, r83.2)
 else none
def V58 (b : Nat) (r : I2) : Value := ag [iv r.1, iv r.2]
def N58 (b : Nat) (r : I2) : List Blk := []
def P58l0 (p0 : List I2) (p2 m10 : Int) (r : I2 ⊕ Unit) : Post := fun e a h => (match r with | .inl q0 => e = .ret ∧ Wk Try.prog 1 1 a h (st 77 [(4, pt 1 0)]) [ab 54 e54 p0, cl 29 [iv q0.1, iv q0.2]] | .inr q0 => e = .exit 0 ∧ Wk Try.prog 1 1 a h (st 77 [(4, pt 1 0)]) [ab 54 e54 p0, cl 29 [iv 0, iv 0]])
theorem L58l0 (p0 : List I2) (p2 m10 v33 : Int) (r : I2 ⊕ Unit) (hF : F58l0 p0 p2 m10 v33 = some r) : TL Try.prog 1 1 c58.s2.s2.s1.s2.bd.bd (st 77 [(0, sv 0 p0.length ANY), (3, pt 1 0), (4, pt 2 0), (5, iv v33)]) (H58_2 p0 m10 p2) (P58l0 p0 p2 m10 r) := by
 refine F58l0.partial_correctness p0 p2 m10 (motive := fun v33 r => TL Try.prog 1 1 c58.s2.s2.s1.s2.bd.bd (st 77 [(0, sv 0 p0.length ANY), (3, pt 1 0), (4, pt 2 0), (5, iv v33)]) (H58_2 p0 m10 p2) (P58l0 p0 p2 m10 r)) ?_ v33 r hF
 clear hF r v33
 intro again ih v33 r hF
 refine TL.round (TS.sq (TS.sq (TS.rg (TI.ra 4 [0, 3, 4, 5, 26] (st 77 [(0, sv 0 p0.length ANY), (3, pt 1 0), (4, pt 2 0), (5, iv v33), (26, .bool (decide (v33 < (p0.length : Int))))]) (TI.dn (NX.sq ?_))))))
 refine TS.cd (.tmp 26) (decide (v33 < (p0.length : Int))) (fun hc58 => ?_) (fun hc58 => ?_)
 · replace hF := of_pos hF hc58
   refine TS.sk (NX.sq (TS.sq (TS.bk 1 (TS.sq ?_))))
   obtain ⟨r59, h60, hF⟩ := of_do hF
   refine TS.rg (TI.ra 2 [0, 3, 4, 5, 30, 31] (st 77 [(0, sv 0 p0.length ANY), (3, pt 1 0), (4, pt 2 0), (5, iv v33), (30, sv 0 p0.length ANY), (31, iv v33)]) (TI.cp 66 [sv 0 p0.length ANY, iv v33] (.tuple ⟨[ag [iv r59.1.1, iv r59.1.2], ag [iv r59.2.1, iv r59.2.2]]⟩) [] (PureSim.ren (hc := [ab 54 e54 p0]) (fun i => List.getD [(0, 0)] i (0, 0)) (C66 _ _ _ h60) (.ac (.nil _)) (.cons (Rn.any _ _ _ _ _ _ (nl rfl) rfl rfl (by decide)) (.fl .nil)) (.flat (by kernel_rfl)) newflat_nil) (TI.rn 7 [0, 3, 4, 5, 6, 7] [0, 1, 2, 3, 4] (st 77 [(0, sv 0 p0.length ANY), (3, pt 1 0), (4, pt 2 0), (5, iv v33), (6, pt 3 0), (7, pt 4 0)]) (H58_0 p0 m10 p2 r59) (TI.dn (NX.sq (TS.sq (TS.sq ?_)))))))
   obtain ⟨r61, h62, hF⟩ := of_do hF
   obtain ⟨r63, h64, hF⟩ := of_do hF
   obtain ⟨m69, hm78, hF⟩ := of_do hF
   have hK : NX Try.prog 1 1 [.sq c58.s2.s2.s1.s2.bd.bd.s2.s1.bd.s2.s1.s2, .sq c58.s2.s2.s1.s2.bd.bd.s2.s1.bd.s2.s2, .bk 1, .sq c58.s2.s2.s1.s2.bd.bd.s2.s2] (Rd Try.prog 1 1 c58.s2.s2.s1.s2.bd.bd (P58l0 p0 p2 m10 r)) .normal (st 77 [(0, sv 0 p0.length ANY), (3, pt 1 0), (4, pt 2 0), (5, iv v33), (6, pt 3 0), (7, pt 4 0), (47, .bool m69)]) (H58_0 p0 m10 p2 r59) := by
    refine NX.sq ?_
    cases m69 with
    | true =>
     replace hF := of_pos hF rfl
     refine TS.cdT (.tmp 47) (TS.ex 1 (NX.sqX (NX.bkX (NX.sq (TS.rg (TI.rn 3 [0, 3, 4, 5] [0, 1, 2] (st 77 [(0, sv 0 p0.length ANY), (3, pt 1 0), (4, pt 2 0), (5, iv (w64 (v33 + 1)))]) [ab 54 e54 p0, cl 29 [iv m10, iv p2], cl 29 [iv 0, iv 0], .dead, .dead] (TI.dn ?_)))))))
     exact Rd.again (a2 := (st 77 [(0, sv 0 p0.length ANY), (3, pt 1 0), (4, pt 2 0), (5, iv (w64 (v33 + 1)))])) (h2 := (H58_2 p0 m10 p2)) (Wk.an [1, 2] (.ac (.lt (.fl (.fl .nil)) (.lt (.fl (.fl .nil)) (.nil _)))) [sv 0 p0.length ANY, pt 1 0, pt 2 0, iv (w64 (v33 + 1))] (.sl (.pp (.pp (.fl .nil))))) (ih (w64 (v33 + 1)) _ hF)
    | false =>
     replace hF := of_neg hF rfl
     refine TS.cdF (.tmp 47) (TS.sk (NX.sq (TS.sq ?_)))
     obtain ⟨o70, h71, hF⟩ := of_do hF
     replace h71 := sj h71
     obtain ⟨r72, h73, hF⟩ := of_do hF
     refine TS.rg (TI.ra 13 [3, 4, 6, 7, 52, 60] (st 77 [(3, pt 1 0), (4, pt 2 0), (6, pt 3 0), (7, pt 4 0), (52, iv (w64 (r59.2.2 - r59.1.2))), (60, iv (w64 (m10 - (w64 (r59.1.1 * p2)))))]) (TI.o { val := iv o70 } (q_convI (e := w64 ((w64 (r59.2.2 - r59.1.2)) * (w64 (m10 - (w64 (r59.1.1 * p2)))))) (y := o70) (by kernel_rfl) h71) [3, 4, 6, 7, 61] [0, 1, 2, 3, 4] (st 77 [(3, pt 1 0), (4, pt 2 0), (6, pt 3 0), (7, pt 4 0), (61, iv o70)]) (H58_0 p0 m10 p2 r59) (TI.rn 8 [4, 6, 61, 69] [0, 2, 3] (st 77 [(4, pt 2 0), (6, pt 3 0), (61, iv o70), (69, iv (w64 ((w64 (r59.2.1 - r59.1.1)) * p2)))]) [ab 54 e54 p0, .dead, cl 29 [iv 0, iv 0], cl 54 [iv r59.1.1, iv r59.1.2], .dead] (TI.cf (C67 _ _ _ h73) (TI.rn 2 [4, 6, 8] [0, 2, 3, 5] (st 77 [(4, pt 2 0), (6, pt 3 0), (8, pt 5 0)]) (H58_1 p0 r59 r72) (TI.dn (NX.sq (TS.sq ?_))))))))
     obtain ⟨r74, h75, hF⟩ := of_do hF
     obtain ⟨r76, h77, hF⟩ := of_do hF
     have hT : ∀ e ∈ ([⟨59, [iv r59.1.2], (H58_1 p0 r59 r72), ag [iv r74.1, iv r74.2], []⟩, ⟨70, [ag [iv r74.1, iv r74.2], ag [iv r72.1, iv r72.2]], (H58_1 p0 r59 r72), ag [iv r76.1, iv r76.2], []⟩] : List Entry), PureSim Try.prog e.g e.args e.h e.v e.new := by
      intro e he
      simp only [List.mem_cons, List.not_mem_nil, or_false] at he
      rcases he with rfl | rfl
      · exact PureSim.ak (C59 _ _ h75)
      exact PureSim.ak (C70 _ _ _ _ _ h77)
     refine TS.dp [⟨59, [iv r59.1.2], (H58_1 p0 r59 r72), ag [iv r74.1, iv r74.2], []⟩, ⟨70, [ag [iv r74.1, iv r74.2], ag [iv r72.1, iv r72.2]], (H58_1 p0 r59 r72), ag [iv r76.1, iv r76.2], []⟩] hT mixed 4 [4] [0, 2] (st 77 [(4, pt 2 0)]) [ab 54 e54 p0, .dead, cl 29 [iv r76.1, iv r76.2], .dead, .dead, .dead] ?_ ?_
     · exact QJ.rn (qs (st 77 [(4, pt 2 0), (6, pt 3 0), (8, pt 5 0), (71, pt 3 1), (72, iv r59.1.2)]) (H58_1 p0 r59 r72) [] []) 2 (QJ.o { val := ag [iv r74.1, iv r74.2], new := [] } (qOf_call (g := 59) (args := [iv r59.1.2]) (by kernel_rfl) lookC_hit) (QJ.rn (qs (st 77 [(4, pt 2 0), (6, pt 3 0), (8, pt 5 0), (71, pt 3 1), (72, iv r59.1.2), (73, ag [iv r74.1, iv r74.2]), (74, ag [iv r72.1, iv r72.2])]) (H58_1 p0 r59 r72) [] []) 1 (QJ.dn ⟨rfl, (SJ.o { val := ag [iv r76.1, iv r76.2], new := [] } (qOf_call (g := 70) (args := [ag [iv r74.1, iv r74.2], ag [iv r72.1, iv r72.2]]) (by kernel_rfl) (lookC_skip (fun hg => absurd (show (59 : Nat) = 70 from hg) (by decide)) lookC_hit)) SJ.la)⟩)))
     refine TS.rt (NX.bkR (NX.sqR ?_))
     have hF := sj hF
     subst hF
     exact Rd.out (e := .ret) (by intro h; cases h) (And.intro rfl (Wk.an [2] (.ac (.lt (.fl (.fl .nil)) (.nil _))) [pt 2 0] (.pp .nil)))
   cases r63 with
   | true =>
    replace hm78 := of_pos hm78 rfl
    have hm78 := sj hm78
    subst hm78
    have hT : ∀ e ∈ ([⟨59, [iv r59.1.1], (H58_0 p0 m10 p2 r59), ag [iv r61.1, iv r61.2], []⟩, ⟨68, [ag [iv m10, iv p2], ag [iv r61.1, iv r61.2]], (H58_0 p0 m10 p2 r59), .bool true, []⟩] : List Entry), PureSim Try.prog e.g e.args e.h e.v e.new := by
     intro e he
     simp only [List.mem_cons, List.not_mem_nil, or_false] at he
     rcases he with rfl | rfl
     · exact PureSim.ak (C59 _ _ h62)
     exact PureSim.ak (C68 _ _ _ _ _ h64)
    refine TS.dp [⟨59, [iv r59.1.1], (H58_0 p0 m10 p2 r59), ag [iv r61.1, iv r61.2], []⟩, ⟨68, [ag [iv m10, iv p2], ag [iv r61.1, iv r61.2]], (H58_0 p0 m10 p2 r59), .bool true, []⟩] hT mixed 10 [0, 3, 4, 5, 6, 7, 47] [0, 1, 2, 3, 4] (st 77 [(0, sv 0 p0.length ANY), (3, pt 1 0), (4, pt 2 0), (5, iv v33), (6, pt 3 0), (7, pt 4 0), (47, .bool true)]) (H58_0 p0 m10 p2 r59) ?_ ?_
    · exact QJ.rn (qs (st 77 [(0, sv 0 p0.length ANY), (3, pt 1 0), (4, pt 2 0), (5, iv v33), (6, pt 3 0), (7, pt 4 0), (35, ag [iv m10, iv p2]), (36, pt 3 0), (37, iv r59.1.1)]) (H58_0 p0 m10 p2 r59) [] []) 3 (QJ.o { val := ag [iv r61.1, iv r61.2], new := [] } (qOf_call (g := 59) (args := [iv r59.1.1]) (by kernel_rfl) lookC_hit) (QJ.o { val := .bool true, new := [] } (qOf_call (g := 68) (args := [ag [iv m10, iv p2], ag [iv r61.1, iv r61.2]]) (by kernel_rfl) (lookC_skip (fun hg => absurd (show (59 : Nat) = 68 from hg) (by decide)) lookC_hit)) (QJ.rn (qs (st 77 [(0, sv 0 p0.length ANY), (3, pt 1 0), (4, pt 2 0), (5, iv v33), (6, pt 3 0), (7, pt 4 0), (35, ag [iv m10, iv p2]), (36, pt 3 0), (37, iv r59.1.1), (38, ag [iv r61.1, iv r61.2]), (39, .bool true), (40, .bool true), (41, undef), (42, undef), (43, undef), (44, undef)]) (H58_0 p0 m10 p2 r59) [] []) 5 (QJ.dn ⟨rfl, SJ.la⟩))))
    exact hK
   | false =>
    replace hm78 := of_neg hm78 rfl
    have hX := of_do hm78
    clear hm78
    obtain ⟨r65, h66, hm78⟩ := hX
    have hX := of_do hm78
    clear hm78
    obtain ⟨r67, h68, hm78⟩ := hX
    have hm78 := sj hm78
    subst hm78
    have hT : ∀ e ∈ ([⟨59, [iv r59.1.1], (H58_0 p0 m10 p2 r59), ag [iv r61.1, iv r61.2], []⟩, ⟨68, [ag [iv m10, iv p2], ag [iv r61.1, iv r61.2]], (H58_0 p0 m10 p2 r59), .bool false, []⟩, ⟨59, [iv r59.2.1], (H58_0 p0 m10 p2 r59), ag [iv r65.1, iv r65.2], []⟩, ⟨68, [ag [iv m10, iv p2], ag [iv r65.1, iv r65.2]], (H58_0 p0 m10 p2 r59), .bool r67, []⟩] : List Entry), PureSim Try.prog e.g e.args e.h e.v e.new := by
     intro e he
     simp only [List.mem_cons, List.not_mem_nil, or_false] at he
     rcases he with rfl | rfl | rfl | rfl
     · exact PureSim.ak (C59 _ _ h62)
     · exact PureSim.ak (C68 _ _ _ _ _ h64)
     · exact PureSim.ak (C59 _ _ h66)
     exact PureSim.ak (C68 _ _ _ _ _ h68)
    refine TS.dp [⟨59, [iv r59.1.1], (H58_0 p0 m10 p2 r59), ag [iv r61.1, iv r61.2], []⟩, ⟨68, [ag [iv m10, iv p2], ag [iv r61.1, iv r61.2]], (H58_0 p0 m10 p2 r59), .bool false, []⟩, ⟨59, [iv r59.2.1], (H58_0 p0 m10 p2 r59), ag [iv r65.1, iv r65.2], []⟩, ⟨68, [ag [iv m10, iv p2], ag [iv r65.1, iv r65.2]], (H58_0 p0 m10 p2 r59), .bool r67, []⟩] hT mixed 10 [0, 3, 4, 5, 6, 7, 47] [0, 1, 2, 3, 4] (st 77 [(0, sv 0 p0.length ANY), (3, pt 1 0), (4, pt 2 0), (5, iv v33), (6, pt 3 0), (7, pt 4 0), (47, .bool (!r67))]) (H58_0 p0 m10 p2 r59) ?_ ?_
    · refine QJ.rn (qs (st 77 [(0, sv 0 p0.length ANY), (3, pt 1 0), (4, pt 2 0), (5, iv v33), (6, pt 3 0), (7, pt 4 0), (35, ag [iv m10, iv p2]), (36, pt 3 0), (37, iv r59.1.1)]) (H58_0 p0 m10 p2 r59) [] []) 3 (QJ.o { val := ag [iv r61.1, iv r61.2], new := [] } (qOf_call (g := 59) (args := [iv r59.1.1]) (by kernel_rfl) lookC_hit) (QJ.o { val := .bool false, new := [] } (qOf_call (g := 68) (args := [ag [iv m10, iv p2], ag [iv r61.1, iv r61.2]]) (by kernel_rfl) (lookC_skip (fun hg => absurd (show (59 : Nat) = 68 from hg) (by decide)) lookC_hit)) (QJ.rn (qs (st 77 [(0, sv 0 p0.length ANY), (3, pt 1 0), (4, pt 2 0), (5, iv v33), (6, pt 3 0), (7, pt 4 0), (35, ag [iv m10, iv p2]), (36, pt 3 0), (37, iv r59.1.1), (38, ag [iv r61.1, iv r61.2]), (39, .bool false), (40, .bool false), (41, ag [iv m10, iv p2]), (42, pt 4 0), (43, iv r59.2.1)]) (H58_0 p0 m10 p2 r59) [] []) 4 ?_)))
      refine QJ.o { val := ag [iv r65.1, iv r65.2], new := [] } (qOf_call (g := 59) (args := [iv r59.2.1]) (by kernel_rfl) (lookC_skip (by intro _ ha hh; first | (exact absurd (congrArg List.length hh) (Nat.ne_of_beq_eq_false rfl)) | (have hr := sj (h62.symm.trans (Eq.trans (congrArg F59 (show r59.1.1 = r59.2.1 from congrArg (leafI 0) ha)) h66)); first | (subst hr; rfl) | (cases hr; done) | (cases hr; rfl))) (lookC_skip (fun hg => absurd (show (68 : Nat) = 59 from hg) (by decide)) lookC_hit))) (QJ.dn ⟨rfl, ?_⟩)
      exact SJ.o { val := .bool r67, new := [] } (qOf_call (g := 68) (args := [ag [iv m10, iv p2], ag [iv r65.1, iv r65.2]]) (by kernel_rfl) (lookC_skip (fun hg => absurd (show (59 : Nat) = 68 from hg) (by decide)) (lookC_skip (by intro _ ha hh; first | (exact absurd (congrArg List.length hh) (Nat.ne_of_beq_eq_false rfl)) | (have hr := sj (h64.symm.trans (Eq.trans (congr (congr (congr (congrArg F68 (Eq.refl m10)) (Eq.refl p2)) (show r61.1 = r65.1 from congrArg (leafI 2) ha)) (show r61.2 = r65.2 from congrArg (leafI 3) ha)) h68)); first | (subst hr; rfl) | (cases hr; done) | (cases hr; rfl))) (lookC_skip (fun hg => absurd (show (59 : Nat) = 68 from hg) (by decide)) lookC_hit)))) SJ.la
    exact hK
 replace hF := of_neg hF hc58
 refine TS.ex 0 (NX.sqX ?_)
 have hF := sj hF
 subst hF
 exact Rd.out (e := .exit 0) (by intro h; cases h) (And.intro rfl (Wk.an [2] (.ac (.lt (.fl (.fl .nil)) (.nil _))) [pt 2 0] (.pp .nil)))
theorem B58 (p0 : List I2) (p1 p2 : Int) (r : I2) (hF : F58 p0 p1 p2 = some r) : TS Try.prog 1 1 c58 (st 77 [(0, sv 0 p0.length ANY), (1, ag [iv p1, iv p2])]) [ab 54 e54 p0] (NX Try.prog 1 1 [] (FinP Try.prog Try.f58 1 (V58 1 r) (N58 1 r))) := by
 unfold F58 at hF
 refine TS.sq (TS.rg (TI.rn 2 [0, 3, 4] [0, 1, 2] (S58_4 p0) (H58_3 p0 p1 p2) (TI.dn (NX.sq (TS.sq (TS.sq ?_))))))
 obtain ⟨hg1, hF⟩ := of_guard hF
 obtain ⟨o2, h3, hF⟩ := of_do hF
 replace h3 := sj h3
 obtain ⟨r4, h5, hF⟩ := of_do hF
 obtain ⟨r6, h7, hF⟩ := of_do hF
 have hT : ∀ e ∈ ([⟨59, [iv o2.1], (H58_3 p0 p1 p2), ag [iv r4.1, iv r4.2], []⟩, ⟨68, [ag [iv p1, iv p2], ag [iv r4.1, iv r4.2]], (H58_3 p0 p1 p2), .bool r6, []⟩] : List Entry), PureSim Try.prog e.g e.args e.h e.v e.new := by
  intro e he
  simp only [List.mem_cons, List.not_mem_nil, or_false] at he
  rcases he with rfl | rfl
  · exact PureSim.ak (C59 _ _ h5)
  exact PureSim.ak (C68 _ _ _ _ _ h7)
 refine TS.dp [⟨59, [iv o2.1], (H58_3 p0 p1 p2), ag [iv r4.1, iv r4.2], []⟩, ⟨68, [ag [iv p1, iv p2], ag [iv r4.1, iv r4.2]], (H58_3 p0 p1 p2), .bool r6, []⟩] hT mixed 6 [0, 3, 4, 15] [0, 1, 2] (st 77 [(0, sv 0 p0.length ANY), (3, pt 1 0), (4, pt 2 0), (15, .bool r6)]) (H58_3 p0 p1 p2) ?_ ?_
 · exact QJ.rn (qs (st 77 [(0, sv 0 p0.length ANY), (3, pt 1 0), (4, pt 2 0), (9, ag [iv p1, iv p2]), (10, sv 0 p0.length ANY)]) (H58_3 p0 p1 p2) [] []) 2 (QJ.o { val := .pointer (some ⟨0, 0 + (Int.toNat 0) * 2, none⟩) } (q_ixS 0 0 ((Int.toNat 0) * 2) (by kernel_rfl) hg1) (QJ.rn (qs (st 77 [(0, sv 0 p0.length ANY), (3, pt 1 0), (4, pt 2 0), (9, ag [iv p1, iv p2]), (10, sv 0 p0.length ANY), (11, .pointer (some ⟨0, 0 + (Int.toNat 0) * 2, none⟩)), (12, .pointer (some ⟨0, 0 + (Int.toNat 0) * 2, none⟩))]) (H58_3 p0 p1 p2) [] []) 1 (QJ.o { val := iv o2.1 } (q_n1a Try.prog (H58_3 p0 p1 p2) 3 0 (0 + (Int.toNat 0) * 2) p0 e54 2 54 (Int.toNat 0) 0 (0, 0) h3) (QJ.o { val := ag [iv r4.1, iv r4.2], new := [] } (qOf_call (g := 59) (args := [iv o2.1]) (by kernel_rfl) lookC_hit) (QJ.dn ⟨rfl, (SJ.o { val := .bool r6, new := [] } (qOf_call (g := 68) (args := [ag [iv p1, iv p2], ag [iv r4.1, iv r4.2]]) (by kernel_rfl) (lookC_skip (fun hg => absurd (show (59 : Nat) = 68 from hg) (by decide)) lookC_hit)) SJ.dn)⟩)))))
 obtain ⟨m10, hm11, hF⟩ := of_do hF
 have hK : NX Try.prog 1 1 [.sq c58.s2.s2] (FinP Try.prog Try.f58 1 (V58 1 r) (N58 1 r)) .normal (S58_4 p0) (H58_2 p0 m10 p2) := by
  refine NX.sq (TS.sq (TS.sq (TS.rg (TI.ra 1 [0, 3, 4, 5] (st 77 [(0, sv 0 p0.length ANY), (3, pt 1 0), (4, pt 2 0), (5, iv 0)]) (TI.dn (NX.sq (TS.bk 0 ?_)))))))
  obtain ⟨r79, h80, hF⟩ := of_do hF
  refine TS.lp (TL.weak (a2 := (st 77 [(0, sv 0 p0.length ANY), (3, pt 1 0), (4, pt 2 0), (5, iv 0)])) (h2 := (H58_2 p0 m10 p2)) (Wk.an [1, 2] (.ac (.lt (.fl (.fl .nil)) (.lt (.fl (.fl .nil)) (.nil _)))) [sv 0 p0.length ANY, pt 1 0, pt 2 0, iv 0] (.sl (.pp (.pp (.fl .nil))))) (TL.post (L58l0 p0 p2 m10 0 r79 h80) ?_))
  rintro e a1 h1 hp
  rcases r79 with o81 | o82
  · skip
    obtain ⟨rfl, hw⟩ := hp
    refine ⟨(st 77 [(4, pt 1 0)]), [ab 54 e54 p0, cl 29 [iv o81.1, iv o81.2]], (NX.bkR (NX.sqR ?_)), hw⟩
    have hF := sj hF
    subst hF
    exact ⟨.inr rfl, rfl, ag [iv o81.1, iv o81.2], by kernel_rfl, WkV.flat0 (by kernel_rfl) (nl rfl)⟩
  skip
  obtain ⟨rfl, hw⟩ := hp
  refine ⟨(st 77 [(4, pt 1 0)]), [ab 54 e54 p0, cl 29 [iv 0, iv 0]], (NX.bkX (NX.sq (TS.sq ?_))), hw⟩
  obtain ⟨r83, h84, hF⟩ := of_do hF
  refine TS.rg (TI.cf (C59 _ _ h84) (TI.rn 1 [4] [0, 1] (st 77 [(4, pt 1 0)]) [ab 54 e54 p0, cl 29 [iv r83.1, iv r83.2]] (TI.dn (NX.sq (TS.rt ?_)))))
  have hF := sj hF
  subst hF
  exact ⟨.inr rfl, rfl, ag [iv r83.1, iv r83.2], by kernel_rfl, WkV.flat0 (by kernel_rfl) (nl rfl)⟩
 clear hF
 have hF := hm11
 clear hm11
 refine TS.start ?_
 cases r6 with
 | true =>
  replace hF := of_pos hF rfl
  refine TS.cdT (.tmp 15) (TS.rg (TI.rn 8 [0, 3, 4] [0, 1, 2] (S58_4 p0) [ab 54 e54 p0, cl 29 [iv (w64 (p1 + (w64 (3600 * p2)))), iv p2], cl 29 [iv 0, iv 0]] (TI.dn ?_)))
  have hF := sj hF
  subst hF
  exact TS.weak (by exact (Wk.an [1, 2] (.ac (.lt (.fl (.fl .nil)) (.lt (.fl (.fl .nil)) (.nil _)))) [sv 0 p0.length ANY, pt 1 0, pt 2 0] (.sl (.pp (.pp .nil))))) hK
 | false =>
  replace hF := of_neg hF rfl
  refine TS.cdF (.tmp 15) (TS.sk ?_)
  have hF := sj hF
  subst hF
  exact TS.weak (by exact (Wk.an [1, 2] (.ac (.lt (.fl (.fl .nil)) (.lt (.fl (.fl .nil)) (.nil _)))) [sv 0 p0.length ANY, pt 1 0, pt 2 0] (.sl (.pp (.pp .nil))))) hK
theorem C58 (p0 : List I2) (p1 p2 : Int) (r : I2) (hF : F58 p0 p1 p2 = some r) : PureSim Try.prog 58 [sv 0 p0.length ANY, ag [iv p1, iv p2]] [ab 54 e54 p0] (V58 1 r) (N58 1 r) :=
 PureSim.of_Fin Try.func58 (c := c58) (by kernel_rfl) (by kernel_rfl) 1 rfl [0, 1] [0] (by kernel_rfl) (B58 p0 p1 p2 r hF)
noncomputable def c27 : Code := Try.f27.code
def H27_0 (p0 : List I2) (r18 : (List I2) × Int) : List Blk := [ab 54 e54 p0, cl 29 [iv 0, iv 0], ab 29 e29 r18.1]
def H27_1 (p0 : List I2) (r1 : (List Int) × Int) : List Blk := [ab 54 e54 p0, cl 29 [iv 0, iv 0], ab 3 e3 r1.1]
def H27_2 (p0 : List I2) : List Blk := [ab 54 e54 p0, cl 29 [iv 0, iv 0], .dead]
def F27 (p0 : List I2) (p1 : Int) : Option (I2 × Int) :=
 F20 p0 >>= fun r1 =>
 (
  if r1.2 == 0 then
   F57 p1 >>= fun r4 =>
   some (!r4)
  else
   some (false)
 : Option Bool) >>= fun m6 =>
 (
  if m6 then
   some 1
  else
   some r1.2
 : Option Int) >>= fun m9 =>
 (
  if m9 == 0 then
   some (decide ((r1.1.length : Int) > 0))
  else
   some (false)
 : Option Bool) >>= fun m12 =>
 (
  if m12 then
   some 21
  else
   some m9
 : Option Int) >>= fun m15 =>
 if m15 != 0 then
  some ((0, 0), m15)
 else
  F25 p0 p1 >>= fun r18 =>
  if (0 : Int) ≤ 0 ∧ 0 < (r18.1.length : Int) then
   some (List.getD r18.1 (Int.toNat 0) (0, 0)) >>= fun o21 =>
   F58 p0 o21.1 o21.2 >>= fun r23 =>
   some ((r23.1, r23.2), 0)
  else none
def V27 (b : Nat) (r : I2 × Int) : Value := .tuple ⟨[ag [iv r.1.1, iv r.1.2], iv r.2]⟩
def N27 (b : Nat) (r : I2 × Int) : List Blk := []
theorem B27 (p0 : List I2) (p1 : Int) (r : I2 × Int) (hF : F27 p0 p1 = some r) : TS Try.prog 1 1 c27 (st 44 [(0, sv 0 p0.length ANY), (1, iv p1)]) [ab 54 e54 p0] (NX Try.prog 1 1 [] (FinP Try.prog Try.f27 1 (V27 1 r) (N27 1 r))) := by
 unfold F27 at hF
 refine TS.sq (TS.rg (TI.rn 2 [0, 1, 4] [0, 1] (st 44 [(0, sv 0 p0.length ANY), (1, iv p1), (4, pt 1 0)]) [ab 54 e54 p0, cl 29 [iv 0, iv 0]] (TI.dn (NX.sq (TS.sq ?_)))))
 obtain ⟨r1, h2, hF⟩ := of_do hF
 refine TS.rg (TI.ra 1 [0, 1, 4, 11] (st 44 [(0, sv 0 p0.length ANY), (1, iv p1), (4, pt 1 0), (11, sv 0 p0.length ANY)]) (TI.cp 20 [sv 0 p0.length ANY] (.tuple ⟨[accV 2 r1.1.length, iv r1.2]⟩) [ab 3 e3 r1.1] (PureSim.ren (hc := [ab 54 e54 p0]) (fun i => List.getD [(0, 0)] i (0, 0)) (C20 _ _ h2) (.ac (.nil _)) (.cons (Rn.any _ _ _ _ _ _ (nl rfl) rfl rfl (by decide)) .nil) (Rn.tuple' (.cons (Rn.acc (i' := 2) (nl rfl) rfl) (.fl .nil))) (newflat_cons (accB_flat (fun _ => rfl)) newflat_nil)) (TI.rn 5 [0, 1, 4, 6, 7] [0, 1, 2] (st 44 [(0, sv 0 p0.length ANY), (1, iv p1), (4, pt 1 0), (6, accV 2 r1.1.length), (7, iv r1.2)]) (H27_1 p0 r1) (TI.dn (NX.sq (TS.sq (TS.sq ?_)))))))
 obtain ⟨m6, hm26, hF⟩ := of_do hF
 have hK : NX Try.prog 1 1 [.sq c27.s2.s2.s1.s2, .sq c27.s2.s2.s2] (FinP Try.prog Try.f27 1 (V27 1 r) (N27 1 r)) .normal (st 44 [(0, sv 0 p0.length ANY), (1, iv p1), (4, pt 1 0), (6, accV 2 r1.1.length), (7, iv r1.2), (21, .bool m6)]) (H27_1 p0 r1) := by
  refine NX.sq ?_
  obtain ⟨m9, hm10, hF⟩ := of_do hF
  have hK : NX Try.prog 1 1 [.sq c27.s2.s2.s2] (FinP Try.prog Try.f27 1 (V27 1 r) (N27 1 r)) .normal (st 44 [(0, sv 0 p0.length ANY), (1, iv p1), (4, pt 1 0), (6, accV 2 r1.1.length), (7, iv m9)]) (H27_1 p0 r1) := by
   refine NX.sq (TS.sq (TS.sq ?_))
   obtain ⟨m12, hm25, hF⟩ := of_do hF
   have hK : NX Try.prog 1 1 [.sq c27.s2.s2.s2.s1.s2, .sq c27.s2.s2.s2.s2] (FinP Try.prog Try.f27 1 (V27 1 r) (N27 1 r)) .normal (st 44 [(0, sv 0 p0.length ANY), (1, iv p1), (4, pt 1 0), (7, iv m9), (28, .bool m12)]) (H27_2 p0) := by
    refine NX.sq ?_
    obtain ⟨m15, hm16, hF⟩ := of_do hF
    have hK : NX Try.prog 1 1 [.sq c27.s2.s2.s2.s2] (FinP Try.prog Try.f27 1 (V27 1 r) (N27 1 r)) .normal (st 44 [(0, sv 0 p0.length ANY), (1, iv p1), (4, pt 1 0), (7, iv m15)]) [ab 54 e54 p0, cl 29 [iv 0, iv 0]] := by
     refine NX.sq (TS.sq (TS.sq (TS.rg (TI.ra 2 [0, 1, 4, 7, 30] (st 44 [(0, sv 0 p0.length ANY), (1, iv p1), (4, pt 1 0), (7, iv m15), (30, .bool (m15 != 0))]) (TI.dn (NX.sq ?_))))))
     refine TS.cd (.tmp 30) (m15 != 0) (fun hc17 => ?_) (fun hc17 => ?_)
     · replace hF := of_pos hF hc17
       refine TS.sq (TS.rg (TI.ra 4 [4, 5] (st 44 [(4, pt 1 0), (5, iv m15)]) (TI.dn (NX.sq (TS.rt (NX.sqR ?_))))))
       have hF := sj hF
       subst hF
       exact ⟨.inr rfl, rfl, .tuple ⟨[ag [iv 0, iv 0], iv m15]⟩, by kernel_rfl, WkV.flat0 (by kernel_rfl) (nl rfl)⟩
     replace hF := of_neg hF hc17
     refine TS.sk (NX.sq (TS.sq ?_))
     obtain ⟨r18, h19, hF⟩ := of_do hF
     refine TS.rg (TI.ra 2 [0, 4, 34, 35] (st 44 [(0, sv 0 p0.length ANY), (4, pt 1 0), (34, sv 0 p0.length ANY), (35, iv p1)]) (TI.cp 25 [sv 0 p0.length ANY, iv p1] (.tuple ⟨[accV 2 r18.1.length, iv r18.2]⟩) [ab 29 e29 r18.1] (PureSim.ren (hc := [ab 54 e54 p0]) (fun i => List.getD [(0, 0)] i (0, 0)) (C25 _ _ _ h19) (.ac (.nil _)) (.cons (Rn.any _ _ _ _ _ _ (nl rfl) rfl rfl (by decide)) (.fl .nil)) (Rn.tuple' (.cons (Rn.acc (i' := 2) (nl rfl) rfl) (.fl .nil))) (newflat_cons (accB_flat (fun _ => rfl)) newflat_nil)) (TI.rn 5 [0, 4, 8] [0, 1, 2] (st 44 [(0, sv 0 p0.length ANY), (4, pt 1 0), (8, accV 2 r18.1.length)]) (H27_0 p0 r18) (TI.dn (NX.sq (TS.sq ?_))))))
     obtain ⟨hg20, hF⟩ := of_guard hF
     obtain ⟨o21, h22, hF⟩ := of_do hF
     replace h22 := sj h22
     obtain ⟨r23, h24, hF⟩ := of_do hF
     refine TS.rg (TI.ra 2 [4, 39, 40] (st 44 [(4, pt 1 0), (39, sv 0 p0.length ANY), (40, accV 2 r18.1.length)]) (TI.o { val := .pointer (some ⟨2, 0 + (Int.toNat 0) * 2, none⟩) } (q_ixAcc (P := Try.prog) (t := 42) (s := 2) (e := 29) 2 r18.1.length (by kernel_rfl) hg20 (by kernel_rfl) (by kernel_rfl)) [4, 39, 41] [0, 1, 2] (st 44 [(4, pt 1 0), (39, sv 0 p0.length ANY), (41, .pointer (some ⟨2, 0 + (Int.toNat 0) * 2, none⟩))]) (H27_0 p0 r18) (TI.o { val := ag [iv o21.1, iv o21.2] } (q_nAa Try.prog (H27_0 p0 r18) 29 2 (0 + (Int.toNat 0) * 2) r18.1 e29 2 29 (Int.toNat 0) (0, 0) h22) [4, 39, 42] [0, 1] (st 44 [(4, pt 1 0), (39, sv 0 p0.length ANY), (42, ag [iv o21.1, iv o21.2])]) (H27_2 p0) (TI.cp 58 [sv 0 p0.length ANY, ag [iv o21.1, iv o21.2]] (ag [iv r23.1, iv r23.2]) [] (PureSim.ren (hc := [ab 54 e54 p0]) (fun i => List.getD [(0, 0)] i (0, 0)) (C58 _ _ _ _ h24) (.ac (.nil _)) (.cons (Rn.any _ _ _ _ _ _ (nl rfl) rfl rfl (by decide)) (.fl .nil)) (.flat (by kernel_rfl)) newflat_nil) (TI.rn 2 [4, 5] [0, 1] (st 44 [(4, pt 1 0), (5, iv 0)]) [ab 54 e54 p0, cl 29 [iv r23.1, iv r23.2], .dead] (TI.dn (NX.sq (TS.rt ?_))))))))
     have hF := sj hF
     subst hF
     exact ⟨.inr rfl, rfl, .tuple ⟨[ag [iv r23.1, iv r23.2], iv 0]⟩, by kernel_rfl, WkV.flat0 (by kernel_rfl) (nl rfl)⟩
    clear hF
    have hF := hm16
    clear hm16
    refine TS.start ?_
    cases m12 with
    | true =>
     replace hF := of_pos hF rfl
     refine TS.cdT (.tmp 28) (TS.rg (TI.ra 1 [0, 1, 4, 7] (st 44 [(0, sv 0 p0.length ANY), (1, iv p1), (4, pt 1 0), (7, iv 21)]) (TI.dn ?_)))
     have hF := sj hF
     subst hF
     exact TS.weak (by exact (Wk.an [1] (.ac (.lt (.fl (.fl .nil)) (.nil _))) [sv 0 p0.length ANY, iv p1, pt 1 0, iv 21] (.sl (.fl (.pp (.fl .nil)))))) hK
    | false =>
     replace hF := of_neg hF rfl
     refine TS.cdF (.tmp 28) (TS.sk ?_)
     have hF := sj hF
     subst hF
     exact TS.weak (by exact (Wk.an [1] (.ac (.lt (.fl (.fl .nil)) (.nil _))) [sv 0 p0.length ANY, iv p1, pt 1 0, iv m9] (.sl (.fl (.pp (.fl .nil)))))) hK
   rcases Bool.eq_false_or_eq_true (m9 == 0) with hc11 | hc11
   · replace hm25 := of_pos hm25 hc11
     have hm25 := sj hm25
     subst hm25
     exact TS.rg (TI.ra 1 [0, 1, 4, 6, 7, 22] (st 44 [(0, sv 0 p0.length ANY), (1, iv p1), (4, pt 1 0), (6, accV 2 r1.1.length), (7, iv m9), (22, iv m9)]) (TI.o { val := .bool true } (q_conv (e := m9 == 0) (b := true) (by kernel_rfl) hc11) [0, 1, 4, 6, 7, 23] [0, 1, 2] (st 44 [(0, sv 0 p0.length ANY), (1, iv p1), (4, pt 1 0), (6, accV 2 r1.1.length), (7, iv m9), (23, .bool true)]) (H27_1 p0 r1) (TI.rn 5 [0, 1, 4, 7, 28] [0, 1] (st 44 [(0, sv 0 p0.length ANY), (1, iv p1), (4, pt 1 0), (7, iv m9), (28, .bool (decide ((r1.1.length : Int) > 0)))]) (H27_2 p0) (TI.dn hK))))
   replace hm25 := of_neg hm25 hc11
   have hm25 := sj hm25
   subst hm25
   exact TS.rg (TI.ra 1 [0, 1, 4, 6, 7, 22] (st 44 [(0, sv 0 p0.length ANY), (1, iv p1), (4, pt 1 0), (6, accV 2 r1.1.length), (7, iv m9), (22, iv m9)]) (TI.o { val := .bool false } (q_conv (e := m9 == 0) (b := false) (by kernel_rfl) hc11) [0, 1, 4, 6, 7, 23] [0, 1, 2] (st 44 [(0, sv 0 p0.length ANY), (1, iv p1), (4, pt 1 0), (6, accV 2 r1.1.length), (7, iv m9), (23, .bool false)]) (H27_1 p0 r1) (TI.rn 5 [0, 1, 4, 7, 28] [0, 1] (st 44 [(0, sv 0 p0.length ANY), (1, iv p1), (4, pt 1 0), (7, iv m9), (28, .bool false)]) (H27_2 p0) (TI.dn hK))))
  clear hF
  have hF := hm10
  clear hm10
  refine TS.start ?_
  cases m6 with
  | true =>
   replace hF := of_pos hF rfl
   refine TS.cdT (.tmp 21) (TS.rg (TI.ra 1 [0, 1, 4, 6, 7] (st 44 [(0, sv 0 p0.length ANY), (1, iv p1), (4, pt 1 0), (6, accV 2 r1.1.length), (7, iv 1)]) (TI.dn ?_)))
   have hF := sj hF
   subst hF
   exact TS.weak (by exact (Wk.an [1, 2] (.ac (.lt (.fl (.fl .nil)) (.ac (.nil _)))) [sv 0 p0.length ANY, iv p1, pt 1 0, accV 2 r1.1.length, iv 1] (.sl (.fl (.pp (.cons (Rn.acc (nl rfl) rfl) (.fl .nil))))))) hK
  | false =>
   replace hF := of_neg hF rfl
   refine TS.cdF (.tmp 21) (TS.sk ?_)
   have hF := sj hF
   subst hF
   exact TS.weak (by exact (Wk.an [1, 2] (.ac (.lt (.fl (.fl .nil)) (.ac (.nil _)))) [sv 0 p0.length ANY, iv p1, pt 1 0, accV 2 r1.1.length, iv r1.2] (.sl (.fl (.pp (.cons (Rn.acc (nl rfl) rfl) (.fl .nil))))))) hK
 rcases Bool.eq_false_or_eq_true (r1.2 == 0) with hc3 | hc3
 · replace hm26 := of_pos hm26 hc3
   have hX := of_do hm26
   clear hm26
   obtain ⟨r4, h5, hm26⟩ := hX
   have hm26 := sj hm26
   subst hm26
   exact TS.rg (TI.ra 1 [0, 1, 4, 6, 7, 15] (st 44 [(0, sv 0 p0.length ANY), (1, iv p1), (4, pt 1 0), (6, accV 2 r1.1.length), (7, iv r1.2), (15, iv r1.2)]) (TI.o { val := .bool true } (q_conv (e := r1.2 == 0) (b := true) (by kernel_rfl) hc3) [0, 1, 4, 6, 7, 16] [0, 1, 2] (st 44 [(0, sv 0 p0.length ANY), (1, iv p1), (4, pt 1 0), (6, accV 2 r1.1.length), (7, iv r1.2), (16, .bool true)]) (H27_1 p0 r1) (TI.ra 2 [0, 1, 4, 6, 7, 17, 18] (st 44 [(0, sv 0 p0.length ANY), (1, iv p1), (4, pt 1 0), (6, accV 2 r1.1.length), (7, iv r1.2), (17, .bool true), (18, iv p1)]) (TI.cf (C57 _ _ h5) (TI.ra 2 [0, 1, 4, 6, 7, 21] (st 44 [(0, sv 0 p0.length ANY), (1, iv p1), (4, pt 1 0), (6, accV 2 r1.1.length), (7, iv r1.2), (21, .bool (!r4))]) (TI.dn hK))))))
 replace hm26 := of_neg hm26 hc3
 have hm26 := sj hm26
 subst hm26
 exact TS.rg (TI.ra 1 [0, 1, 4, 6, 7, 15] (st 44 [(0, sv 0 p0.length ANY), (1, iv p1), (4, pt 1 0), (6, accV 2 r1.1.length), (7, iv r1.2), (15, iv r1.2)]) (TI.o { val := .bool false } (q_conv (e := r1.2 == 0) (b := false) (by kernel_rfl) hc3) [0, 1, 4, 6, 7, 16] [0, 1, 2] (st 44 [(0, sv 0 p0.length ANY), (1, iv p1), (4, pt 1 0), (6, accV 2 r1.1.length), (7, iv r1.2), (16, .bool false)]) (H27_1 p0 r1) (TI.ra 5 [0, 1, 4, 6, 7, 21] (st 44 [(0, sv 0 p0.length ANY), (1, iv p1), (4, pt 1 0), (6, accV 2 r1.1.length), (7, iv r1.2), (21, .bool false)]) (TI.dn hK))))
theorem C27 (p0 : List I2) (p1 : Int) (r : I2 × Int) (hF : F27 p0 p1 = some r) : PureSim Try.prog 27 [sv 0 p0.length ANY, iv p1] [ab 54 e54 p0] (V27 1 r) (N27 1 r) :=
 PureSim.of_Fin Try.func27 (c := c27) (by kernel_rfl) (by kernel_rfl) 1 rfl [0, 1] [0] (by kernel_rfl) (B27 p0 p1 r hF)
noncomputable def c35 : Code := Try.f35.code
def H35_0 (p0 : List (Int × I2)) (r22 r26 : I2 × Int) : List Blk := [ab 124 e124 p0, cl 29 [iv r22.1.1, iv r22.1.2], cl 29 [iv r26.1.1, iv r26.1.2], .dead, cl 29 [iv r22.1.1, iv r22.1.2], .dead, cl 29 [iv r26.1.1, iv r26.1.2]]
def H35_1 (p0 : List (Int × I2)) (r22 r26 : I2 × Int) : List Blk := [ab 124 e124 p0, cl 29 [iv r22.1.1, iv r22.1.2], cl 29 [iv 0, iv 0], .dead, cl 29 [iv r22.1.1, iv r22.1.2], .dead, cl 29 [iv r26.1.1, iv r26.1.2]]
def S35_2 (r22 r26 : I2 × Int) : CAct := (st 48 [(4, pt 1 0), (5, pt 2 0), (8, pt 4 0), (10, pt 6 0), (46, ag [iv r22.1.1, iv r22.1.2]), (47, ag [iv r26.1.1, iv r26.1.2])])
def H35_3 (p0 : List (Int × I2)) : List Blk := [ab 124 e124 p0, cl 29 [iv 0, iv 0], cl 29 [iv 0, iv 0]]
def F35 (p0 : List (Int × I2)) (p1 : Int) : Option (I2 × I2 × Int) :=
 F84 p0 >>= fun r1 =>
 (
  if r1 == 0 then
   F57 p1 >>= fun r4 =>
   some (!r4)
  else
   some (false)
 : Option Bool) >>= fun m6 =>
 (
  if m6 then
   some 1
  else
   some r1
 : Option Int) >>= fun m9 =>
 (
  if m9 == 0 then
   F85 p0 >>= fun r12 =>
   some (r12)
  else
   some (false)
 : Option Bool) >>= fun m14 =>
 (
  if m14 then
   some 21
  else
   some m9
 : Option Int) >>= fun m17 =>
 if m17 != 0 then
  some ((0, 0), (0, 0), m17)
 else
  F86 p0 false >>= fun r20 =>
  F27 r20 p1 >>= fun r22 =>
  F86 p0 true >>= fun r24 =>
  F27 r24 p1 >>= fun r26 =>
  some ((r22.1.1, r22.1.2), (r26.1.1, r26.1.2), 0)
def V35 (b : Nat) (r : I2 × I2 × Int) : Value := .tuple ⟨[ag [iv r.1.1, iv r.1.2], ag [iv r.2.1.1, iv r.2.1.2], iv r.2.2]⟩
def N35 (b : Nat) (r : I2 × I2 × Int) : List Blk := []
theorem B35 (p0 : List (Int × I2)) (p1 : Int) (r : I2 × I2 × Int) (hF : F35 p0 p1 = some r) : TS Try.prog 1 1 c35 (st 48 [(0, sv 0 p0.length ANY), (1, iv p1)]) [ab 124 e124 p0] (NX Try.prog 1 1 [] (FinP Try.prog Try.f35 1 (V35 1 r) (N35 1 r))) := by
 unfold F35 at hF
 refine TS.sq (TS.rg (TI.rn 3 [0, 1, 4, 5] [0, 1, 2] (st 48 [(0, sv 0 p0.length ANY), (1, iv p1), (4, pt 1 0), (5, pt 2 0)]) (H35_3 p0) (TI.dn (NX.sq (TS.sq ?_)))))
 obtain ⟨r1, h2, hF⟩ := of_do hF
 refine TS.rg (TI.ra 1 [0, 1, 4, 5, 12] (st 48 [(0, sv 0 p0.length ANY), (1, iv p1), (4, pt 1 0), (5, pt 2 0), (12, sv 0 p0.length ANY)]) (TI.cp 84 [sv 0 p0.length ANY] (iv r1) [] (PureSim.ren (hc := [ab 124 e124 p0]) (fun i => List.getD [(0, 0)] i (0, 0)) (C84 _ _ h2) (.ac (.nil _)) (.cons (Rn.any _ _ _ _ _ _ (nl rfl) rfl rfl (by decide)) .nil) (.flat (by kernel_rfl)) newflat_nil) (TI.ra 1 [0, 1, 4, 5, 7] (st 48 [(0, sv 0 p0.length ANY), (1, iv p1), (4, pt 1 0), (5, pt 2 0), (7, iv r1)]) (TI.dn (NX.sq (TS.sq (TS.sq ?_)))))))
 obtain ⟨m6, hm29, hF⟩ := of_do hF
 have hK : NX Try.prog 1 1 [.sq c35.s2.s2.s1.s2, .sq c35.s2.s2.s2] (FinP Try.prog Try.f35 1 (V35 1 r) (N35 1 r)) .normal (st 48 [(0, sv 0 p0.length ANY), (1, iv p1), (4, pt 1 0), (5, pt 2 0), (7, iv r1), (20, .bool m6)]) (H35_3 p0) := by
  refine NX.sq ?_
  obtain ⟨m9, hm10, hF⟩ := of_do hF
  have hK : NX Try.prog 1 1 [.sq c35.s2.s2.s2] (FinP Try.prog Try.f35 1 (V35 1 r) (N35 1 r)) .normal (st 48 [(0, sv 0 p0.length ANY), (1, iv p1), (4, pt 1 0), (5, pt 2 0), (7, iv m9)]) (H35_3 p0) := by
   refine NX.sq (TS.sq (TS.sq ?_))
   obtain ⟨m14, hm28, hF⟩ := of_do hF
   have hK : NX Try.prog 1 1 [.sq c35.s2.s2.s2.s1.s2, .sq c35.s2.s2.s2.s2] (FinP Try.prog Try.f35 1 (V35 1 r) (N35 1 r)) .normal (st 48 [(0, sv 0 p0.length ANY), (1, iv p1), (4, pt 1 0), (5, pt 2 0), (7, iv m9), (26, .bool m14)]) (H35_3 p0) := by
    refine NX.sq ?_
    obtain ⟨m17, hm18, hF⟩ := of_do hF
    have hK : NX Try.prog 1 1 [.sq c35.s2.s2.s2.s2] (FinP Try.prog Try.f35 1 (V35 1 r) (N35 1 r)) .normal (st 48 [(0, sv 0 p0.length ANY), (1, iv p1), (4, pt 1 0), (5, pt 2 0), (7, iv m17)]) (H35_3 p0) := by
     refine NX.sq (TS.sq (TS.sq (TS.rg (TI.ra 2 [0, 1, 4, 5, 7, 28] (st 48 [(0, sv 0 p0.length ANY), (1, iv p1), (4, pt 1 0), (5, pt 2 0), (7, iv m17), (28, .bool (m17 != 0))]) (TI.dn (NX.sq ?_))))))
     refine TS.cd (.tmp 28) (m17 != 0) (fun hc19 => ?_) (fun hc19 => ?_)
     · replace hF := of_pos hF hc19
       refine TS.sq (TS.rg (TI.ra 6 [4, 5, 6] (st 48 [(4, pt 1 0), (5, pt 2 0), (6, iv m17)]) (TI.dn (NX.sq (TS.rt (NX.sqR ?_))))))
       have hF := sj hF
       subst hF
       exact ⟨.inr rfl, rfl, .tuple ⟨[ag [iv 0, iv 0], ag [iv 0, iv 0], iv m17]⟩, by kernel_rfl, WkV.flat0 (by kernel_rfl) (nl rfl)⟩
     replace hF := of_neg hF hc19
     refine TS.sk (NX.sq (TS.sq ?_))
     obtain ⟨r20, h21, hF⟩ := of_do hF
     obtain ⟨r22, h23, hF⟩ := of_do hF
     refine TS.rg (TI.ra 1 [0, 1, 4, 5, 33] (st 48 [(0, sv 0 p0.length ANY), (1, iv p1), (4, pt 1 0), (5, pt 2 0), (33, sv 0 p0.length ANY)]) (TI.cp 86 [sv 0 p0.length ANY, .bool false] (accV 3 r20.length) [ab 54 e54 r20] (PureSim.ren (hc := [ab 124 e124 p0]) (fun i => List.getD [(0, 0)] i (0, 0)) (C86 _ _ _ h21) (.ac (.nil _)) (.cons (Rn.any _ _ _ _ _ _ (nl rfl) rfl rfl (by decide)) (.fl .nil)) (Rn.acc (i' := 3) (nl rfl) rfl) (newflat_cons (accB_flat (fun _ => rfl)) newflat_nil)) (TI.rn 1 [0, 1, 4, 5, 34, 35] [0, 1, 2, 3] (st 48 [(0, sv 0 p0.length ANY), (1, iv p1), (4, pt 1 0), (5, pt 2 0), (34, accV 3 r20.length), (35, iv p1)]) [ab 124 e124 p0, cl 29 [iv 0, iv 0], cl 29 [iv 0, iv 0], ab 54 e54 r20] (TI.cp 27 [accV 3 r20.length, iv p1] (.tuple ⟨[ag [iv r22.1.1, iv r22.1.2], iv r22.2]⟩) [] (PureSim.ren (hc := [ab 54 e54 r20]) (fun i => List.getD [(3, 0)] i (0, 0)) (C27 _ _ _ h23) (.ac (.nil _)) (.cons (Rn.accA (i' := 3) (nl rfl) rfl) (.fl .nil)) (.flat (by kernel_rfl)) newflat_nil) (TI.rn 6 [0, 1, 4, 5, 8] [0, 1, 2, 4] (st 48 [(0, sv 0 p0.length ANY), (1, iv p1), (4, pt 1 0), (5, pt 2 0), (8, pt 4 0)]) [ab 124 e124 p0, cl 29 [iv 0, iv 0], cl 29 [iv 0, iv 0], .dead, cl 29 [iv r22.1.1, iv r22.1.2]] (TI.dn (NX.sq (TS.sq ?_))))))))
     obtain ⟨r24, h25, hF⟩ := of_do hF
     obtain ⟨r26, h27, hF⟩ := of_do hF
     refine TS.rg (TI.ra 1 [1, 4, 5, 8, 40] (st 48 [(1, iv p1), (4, pt 1 0), (5, pt 2 0), (8, pt 4 0), (40, sv 0 p0.length ANY)]) (TI.cp 86 [sv 0 p0.length ANY, .bool true] (accV 5 r24.length) [ab 54 e54 r24] (PureSim.ren (hc := [ab 124 e124 p0]) (fun i => List.getD [(0, 0)] i (0, 0)) (C86 _ _ _ h25) (.ac (.nil _)) (.cons (Rn.any _ _ _ _ _ _ (nl rfl) rfl rfl (by decide)) (.fl .nil)) (Rn.acc (i' := 5) (nl rfl) rfl) (newflat_cons (accB_flat (fun _ => rfl)) newflat_nil)) (TI.rn 1 [4, 5, 8, 41, 42] [0, 1, 2, 4, 5] (st 48 [(4, pt 1 0), (5, pt 2 0), (8, pt 4 0), (41, accV 5 r24.length), (42, iv p1)]) [ab 124 e124 p0, cl 29 [iv 0, iv 0], cl 29 [iv 0, iv 0], .dead, cl 29 [iv r22.1.1, iv r22.1.2], ab 54 e54 r24] (TI.cp 27 [accV 5 r24.length, iv p1] (.tuple ⟨[ag [iv r26.1.1, iv r26.1.2], iv r26.2]⟩) [] (PureSim.ren (hc := [ab 54 e54 r24]) (fun i => List.getD [(5, 0)] i (0, 0)) (C27 _ _ _ h27) (.ac (.nil _)) (.cons (Rn.accA (i' := 5) (nl rfl) rfl) (.fl .nil)) (.flat (by kernel_rfl)) newflat_nil) (TI.rn 6 [4, 5, 8, 10] [0, 1, 2, 4, 6] (st 48 [(4, pt 1 0), (5, pt 2 0), (8, pt 4 0), (10, pt 6 0)]) [ab 124 e124 p0, cl 29 [iv 0, iv 0], cl 29 [iv 0, iv 0], .dead, cl 29 [iv r22.1.1, iv r22.1.2], .dead, cl 29 [iv r26.1.1, iv r26.1.2]] (TI.dn (NX.sq (TS.sq ?_))))))))
     refine TS.draw' (id := 10) (b := true) (ops := c35.s2.s2.s2.s2.s2.s2.s2.s1.rops) (fin := (qs (S35_2 r22 r26) (H35_1 p0 r22 r26) [] [(2, 1)])) (fin2 := (qs (S35_2 r22 r26) (H35_1 p0 r22 r26) [] [(2, 1)])) (a1 := (st 48 [(4, pt 1 0), (5, pt 2 0), (6, iv 0), (8, pt 4 0), (10, pt 6 0), (46, ag [iv r22.1.1, iv r22.1.2]), (47, ag [iv r26.1.1, iv r26.1.2])])) (h1 := (H35_0 p0 r22 r26)) (a2 := (st 48 [(4, pt 1 0), (5, pt 2 0), (6, iv 0)])) (h2 := [ab 124 e124 p0, cl 29 [iv r22.1.1, iv r22.1.2], cl 29 [iv r26.1.1, iv r26.1.2], .dead, .dead, .dead, .dead]) [] (fun e he => by cases he) mixed (by kernel_rfl) rfl 3 (by kernel_rfl) [(2, 1)] ?_ rfl (.inr ⟨?_, (by kernel_rfl)⟩) ?_ [4, 5, 6] [0, 1, 2] (by kernel_rfl) ?_
     · exact QI.run (s1 := (qs (S35_2 r22 r26) (H35_1 p0 r22 r26) [] [(2, 1)])) 3 (by kernel_rfl) (by kernel_rfl) (QI.done (by kernel_rfl))
     · exact QI.run (s1 := (qs (S35_2 r22 r26) (H35_1 p0 r22 r26) [] [(2, 1)])) 3 (by kernel_rfl) (by kernel_rfl) (QI.done (by kernel_rfl))
     · exact SI.run (a2 := (st 48 [(4, pt 1 0), (5, pt 2 0), (6, iv 0), (8, pt 4 0), (10, pt 6 0), (46, ag [iv r22.1.1, iv r22.1.2]), (47, ag [iv r26.1.1, iv r26.1.2])])) (h2 := (H35_0 p0 r22 r26)) 2 (by kernel_rfl) (SI.done (by kernel_rfl))
     refine TS.rt ?_
     have hF := sj hF
     subst hF
     exact ⟨.inr rfl, rfl, .tuple ⟨[ag [iv r22.1.1, iv r22.1.2], ag [iv r26.1.1, iv r26.1.2], iv 0]⟩, by kernel_rfl, WkV.flat0 (by kernel_rfl) (nl rfl)⟩
    clear hF
    have hF := hm18
    clear hm18
    refine TS.start ?_
    cases m14 with
    | true =>
     replace hF := of_pos hF rfl
     refine TS.cdT (.tmp 26) (TS.rg (TI.ra 1 [0, 1, 4, 5, 7] (st 48 [(0, sv 0 p0.length ANY), (1, iv p1), (4, pt 1 0), (5, pt 2 0), (7, iv 21)]) (TI.dn ?_)))
     have hF := sj hF
     subst hF
     exact TS.weak (by exact (Wk.an [1, 2] (.ac (.lt (.fl (.fl .nil)) (.lt (.fl (.fl .nil)) (.nil _)))) [sv 0 p0.length ANY, iv p1, pt 1 0, pt 2 0, iv 21] (.sl (.fl (.pp (.pp (.fl .nil))))))) hK
    | false =>
     replace hF := of_neg hF rfl
     refine TS.cdF (.tmp 26) (TS.sk ?_)
     have hF := sj hF
     subst hF
     exact TS.weak (by exact (Wk.an [1, 2] (.ac (.lt (.fl (.fl .nil)) (.lt (.fl (.fl .nil)) (.nil _)))) [sv 0 p0.length ANY, iv p1, pt 1 0, pt 2 0, iv m9] (.sl (.fl (.pp (.pp (.fl .nil))))))) hK
   rcases Bool.eq_false_or_eq_true (m9 == 0) with hc11 | hc11
   · replace hm28 := of_pos hm28 hc11
     have hX := of_do hm28
     clear hm28
     obtain ⟨r12, h13, hm28⟩ := hX
     have hm28 := sj hm28
     subst hm28
     exact TS.rg (TI.ra 1 [0, 1, 4, 5, 7, 21] (st 48 [(0, sv 0 p0.length ANY), (1, iv p1), (4, pt 1 0), (5, pt 2 0), (7, iv m9), (21, iv m9)]) (TI.o { val := .bool true } (q_conv (e := m9 == 0) (b := true) (by kernel_rfl) hc11) [0, 1, 4, 5, 7, 22] [0, 1, 2] (st 48 [(0, sv 0 p0.length ANY), (1, iv p1), (4, pt 1 0), (5, pt 2 0), (7, iv m9), (22, .bool true)]) (H35_3 p0) (TI.ra 2 [0, 1, 4, 5, 7, 23, 24] (st 48 [(0, sv 0 p0.length ANY), (1, iv p1), (4, pt 1 0), (5, pt 2 0), (7, iv m9), (23, .bool true), (24, sv 0 p0.length ANY)]) (TI.cp 85 [sv 0 p0.length ANY] (.bool r12) [] (PureSim.ren (hc := [ab 124 e124 p0]) (fun i => List.getD [(0, 0)] i (0, 0)) (C85 _ _ h13) (.ac (.nil _)) (.cons (Rn.any _ _ _ _ _ _ (nl rfl) rfl rfl (by decide)) .nil) (.flat (by kernel_rfl)) newflat_nil) (TI.ra 1 [0, 1, 4, 5, 7, 26] (st 48 [(0, sv 0 p0.length ANY), (1, iv p1), (4, pt 1 0), (5, pt 2 0), (7, iv m9), (26, .bool r12)]) (TI.dn hK))))))
   replace hm28 := of_neg hm28 hc11
   have hm28 := sj hm28
   subst hm28
   exact TS.rg (TI.ra 1 [0, 1, 4, 5, 7, 21] (st 48 [(0, sv 0 p0.length ANY), (1, iv p1), (4, pt 1 0), (5, pt 2 0), (7, iv m9), (21, iv m9)]) (TI.o { val := .bool false } (q_conv (e := m9 == 0) (b := false) (by kernel_rfl) hc11) [0, 1, 4, 5, 7, 22] [0, 1, 2] (st 48 [(0, sv 0 p0.length ANY), (1, iv p1), (4, pt 1 0), (5, pt 2 0), (7, iv m9), (22, .bool false)]) (H35_3 p0) (TI.ra 4 [0, 1, 4, 5, 7, 26] (st 48 [(0, sv 0 p0.length ANY), (1, iv p1), (4, pt 1 0), (5, pt 2 0), (7, iv m9), (26, .bool false)]) (TI.dn hK))))
  clear hF
  have hF := hm10
  clear hm10
  refine TS.start ?_
  cases m6 with
  | true =>
   replace hF := of_pos hF rfl
   refine TS.cdT (.tmp 20) (TS.rg (TI.ra 1 [0, 1, 4, 5, 7] (st 48 [(0, sv 0 p0.length ANY), (1, iv p1), (4, pt 1 0), (5, pt 2 0), (7, iv 1)]) (TI.dn ?_)))
   have hF := sj hF
   subst hF
   exact TS.weak (by exact (Wk.an [1, 2] (.ac (.lt (.fl (.fl .nil)) (.lt (.fl (.fl .nil)) (.nil _)))) [sv 0 p0.length ANY, iv p1, pt 1 0, pt 2 0, iv 1] (.sl (.fl (.pp (.pp (.fl .nil))))))) hK
  | false =>
   replace hF := of_neg hF rfl
   refine TS.cdF (.tmp 20) (TS.sk ?_)
   have hF := sj hF
   subst hF
   exact TS.weak (by exact (Wk.an [1, 2] (.ac (.lt (.fl (.fl .nil)) (.lt (.fl (.fl .nil)) (.nil _)))) [sv 0 p0.length ANY, iv p1, pt 1 0, pt 2 0, iv r1] (.sl (.fl (.pp (.pp (.fl .nil))))))) hK
 rcases Bool.eq_false_or_eq_true (r1 == 0) with hc3 | hc3
 · replace hm29 := of_pos hm29 hc3
   have hX := of_do hm29
   clear hm29
   obtain ⟨r4, h5, hm29⟩ := hX
   have hm29 := sj hm29
   subst hm29
   exact TS.rg (TI.ra 1 [0, 1, 4, 5, 7, 14] (st 48 [(0, sv 0 p0.length ANY), (1, iv p1), (4, pt 1 0), (5, pt 2 0), (7, iv r1), (14, iv r1)]) (TI.o { val := .bool true } (q_conv (e := r1 == 0) (b := true) (by kernel_rfl) hc3) [0, 1, 4, 5, 7, 15] [0, 1, 2] (st 48 [(0, sv 0 p0.length ANY), (1, iv p1), (4, pt 1 0), (5, pt 2 0), (7, iv r1), (15, .bool true)]) (H35_3 p0) (TI.ra 2 [0, 1, 4, 5, 7, 16, 17] (st 48 [(0, sv 0 p0.length ANY), (1, iv p1), (4, pt 1 0), (5, pt 2 0), (7, iv r1), (16, .bool true), (17, iv p1)]) (TI.cf (C57 _ _ h5) (TI.ra 2 [0, 1, 4, 5, 7, 20] (st 48 [(0, sv 0 p0.length ANY), (1, iv p1), (4, pt 1 0), (5, pt 2 0), (7, iv r1), (20, .bool (!r4))]) (TI.dn hK))))))
 replace hm29 := of_neg hm29 hc3
 have hm29 := sj hm29
 subst hm29
 exact TS.rg (TI.ra 1 [0, 1, 4, 5, 7, 14] (st 48 [(0, sv 0 p0.length ANY), (1, iv p1), (4, pt 1 0), (5, pt 2 0), (7, iv r1), (14, iv r1)]) (TI.o { val := .bool false } (q_conv (e := r1 == 0) (b := false) (by kernel_rfl) hc3) [0, 1, 4, 5, 7, 15] [0, 1, 2] (st 48 [(0, sv 0 p0.length ANY), (1, iv p1), (4, pt 1 0), (5, pt 2 0), (7, iv r1), (15, .bool false)]) (H35_3 p0) (TI.ra 5 [0, 1, 4, 5, 7, 20] (st 48 [(0, sv 0 p0.length ANY), (1, iv p1), (4, pt 1 0), (5, pt 2 0), (7, iv r1), (20, .bool false)]) (TI.dn hK))))
theorem C35 (p0 : List (Int × I2)) (p1 : Int) (r : I2 × I2 × Int) (hF : F35 p0 p1 = some r) : PureSim Try.prog 35 [sv 0 p0.length ANY, iv p1] [ab 124 e124 p0] (V35 1 r) (N35 1 r) :=
 PureSim.of_Fin Try.func35 (c := c35) (by kernel_rfl) (by kernel_rfl) 1 rfl [0, 1] [0] (by kernel_rfl) (B35 p0 p1 r hF)
noncomputable def c37 : Code := Try.f37.code
def F37 (p0 : List (Int × I2)) : Option Int :=
 F84 p0 >>= fun r1 =>
 (
  if r1 == 0 then
   F85 p0 >>= fun r4 =>
   some (r4)
  else
   some (false)
 : Option Bool) >>= fun m6 =>
 (
  if m6 then
   some 21
  else
   some r1
 : Option Int) >>= fun m9 =>
 some m9
def V37 (b : Nat) (r : Int) : Value := iv r
def N37 (b : Nat) (r : Int) : List Blk := []
theorem B37 (p0 : List (Int × I2)) (r : Int) (hF : F37 p0 = some r) : TS Try.prog 1 1 c37 (st 13 [(0, sv 0 p0.length ANY)]) [ab 124 e124 p0] (NX Try.prog 1 1 [] (FinP Try.prog Try.f37 1 (V37 1 r) (N37 1 r))) := by
 unfold F37 at hF
 refine TS.sq (TS.rg (TI.ra 1 [0] (st 13 [(0, sv 0 p0.length ANY)]) (TI.dn (NX.sq (TS.sq ?_)))))
 obtain ⟨r1, h2, hF⟩ := of_do hF
 refine TS.rg (TI.ra 1 [0, 4] (st 13 [(0, sv 0 p0.length ANY), (4, sv 0 p0.length ANY)]) (TI.cp 84 [sv 0 p0.length ANY] (iv r1) [] (PureSim.ren (hc := [ab 124 e124 p0]) (fun i => List.getD [(0, 0)] i (0, 0)) (C84 _ _ h2) (.ac (.nil _)) (.cons (Rn.any _ _ _ _ _ _ (nl rfl) rfl rfl (by decide)) .nil) (.flat (by kernel_rfl)) newflat_nil) (TI.ra 1 [0, 3] (st 13 [(0, sv 0 p0.length ANY), (3, iv r1)]) (TI.dn (NX.sq (TS.sq (TS.sq ?_)))))))
 obtain ⟨m6, hm11, hF⟩ := of_do hF
 have hK : NX Try.prog 1 1 [.sq c37.s2.s2.s1.s2, .sq c37.s2.s2.s2] (FinP Try.prog Try.f37 1 (V37 1 r) (N37 1 r)) .normal (st 13 [(3, iv r1), (11, .bool m6)]) [ab 124 e124 p0] := by
  refine NX.sq ?_
  obtain ⟨m9, hm10, hF⟩ := of_do hF
  have hK : NX Try.prog 1 1 [.sq c37.s2.s2.s2] (FinP Try.prog Try.f37 1 (V37 1 r) (N37 1 r)) .normal (st 13 [(3, iv m9)]) [ab 124 e124 p0] := by
   refine NX.sq (TS.sq (TS.rg (TI.ra 2 [2] (st 13 [(2, iv m9)]) (TI.dn (NX.sq (TS.rt ?_))))))
   have hF := sj hF
   subst hF
   exact ⟨.inr rfl, rfl, iv m9, by kernel_rfl, WkV.flat0 (by kernel_rfl) (nl rfl)⟩
  clear hF
  have hF := hm10
  clear hm10
  refine TS.start ?_
  cases m6 with
  | true =>
   replace hF := of_pos hF rfl
   refine TS.cdT (.tmp 11) (TS.rg (TI.ra 1 [3] (st 13 [(3, iv 21)]) (TI.dn ?_)))
   have hF := sj hF
   subst hF
   exact TS.weak (by exact (Wk.an [] (.ac (.nil _)) [iv 21] (.fl .nil))) hK
  | false =>
   replace hF := of_neg hF rfl
   refine TS.cdF (.tmp 11) (TS.sk ?_)
   have hF := sj hF
   subst hF
   exact TS.weak (by exact (Wk.an [] (.ac (.nil _)) [iv r1] (.fl .nil))) hK
 rcases Bool.eq_false_or_eq_true (r1 == 0) with hc3 | hc3
 · replace hm11 := of_pos hm11 hc3
   have hX := of_do hm11
   clear hm11
   obtain ⟨r4, h5, hm11⟩ := hX
   have hm11 := sj hm11
   subst hm11
   exact TS.rg (TI.ra 1 [0, 3, 6] (st 13 [(0, sv 0 p0.length ANY), (3, iv r1), (6, iv r1)]) (TI.o { val := .bool true } (q_conv (e := r1 == 0) (b := true) (by kernel_rfl) hc3) [0, 3, 7] [0] (st 13 [(0, sv 0 p0.length ANY), (3, iv r1), (7, .bool true)]) [ab 124 e124 p0] (TI.ra 2 [3, 8, 9] (st 13 [(3, iv r1), (8, .bool true), (9, sv 0 p0.length ANY)]) (TI.cp 85 [sv 0 p0.length ANY] (.bool r4) [] (PureSim.ren (hc := [ab 124 e124 p0]) (fun i => List.getD [(0, 0)] i (0, 0)) (C85 _ _ h5) (.ac (.nil _)) (.cons (Rn.any _ _ _ _ _ _ (nl rfl) rfl rfl (by decide)) .nil) (.flat (by kernel_rfl)) newflat_nil) (TI.ra 1 [3, 11] (st 13 [(3, iv r1), (11, .bool r4)]) (TI.dn hK))))))
 replace hm11 := of_neg hm11 hc3
 have hm11 := sj hm11
 subst hm11
 exact TS.rg (TI.ra 1 [0, 3, 6] (st 13 [(0, sv 0 p0.length ANY), (3, iv r1), (6, iv r1)]) (TI.o { val := .bool false } (q_conv (e := r1 == 0) (b := false) (by kernel_rfl) hc3) [0, 3, 7] [0] (st 13 [(0, sv 0 p0.length ANY), (3, iv r1), (7, .bool false)]) [ab 124 e124 p0] (TI.ra 4 [3, 11] (st 13 [(3, iv r1), (11, .bool false)]) (TI.dn hK))))
theorem C37 (p0 : List (Int × I2)) (r : Int) (hF : F37 p0 = some r) : PureSim Try.prog 37 [sv 0 p0.length ANY] [ab 124 e124 p0] (V37 1 r) (N37 1 r) :=
 PureSim.of_Fin Try.func37 (c := c37) (by kernel_rfl) (by kernel_rfl) 1 rfl [0] [0] (by kernel_rfl) (B37 p0 r hF)
noncomputable def c6 : Code := Try.f6.code
def S6_0 (p0 r4 : List (Int × I2)) (r6 r8 : I2 × I2 × Int) : CAct := (st 55 [(0, sv 0 p0.length ANY), (5, accV 1 r4.length), (7, pt 3 0), (8, iv r6.2.2), (10, pt 5 0), (11, iv r8.2.2), (32, ag [iv r6.1.1, iv r6.1.2]), (33, ag [iv r8.1.1, iv r8.1.2])])
def S6_1 (p0 r4 : List (Int × I2)) (r6 r8 : I2 × I2 × Int) : CAct := (st 55 [(0, sv 0 p0.length ANY), (5, accV 1 r4.length), (8, iv r6.2.2), (11, iv r8.2.2), (35, .bool true), (36, ag [iv r6.2.1.1, iv r6.2.1.2]), (37, ag [iv r8.2.1.1, iv r8.2.1.2])])
def H6_2 (p0 r4 : List (Int × I2)) (r6 r8 : I2 × I2 × Int) : List Blk := [ab 92 e92 p0, ab 124 e124 r4, .dead, cl 29 [iv r6.2.1.1, iv r6.2.1.2], .dead, cl 29 [iv r8.2.1.1, iv r8.2.1.2]]
def S6_3 (p0 r4 : List (Int × I2)) (r6 r8 : I2 × I2 × Int) : CAct := (st 55 [(0, sv 0 p0.length ANY), (5, accV 1 r4.length), (7, pt 3 0), (8, iv r6.2.2), (10, pt 5 0), (11, iv r8.2.2), (34, .bool true)])
def S6_4 (p0 r4 : List (Int × I2)) (r6 r8 : I2 × I2 × Int) : CAct := (st 55 [(0, sv 0 p0.length ANY), (5, accV 1 r4.length), (8, iv r6.2.2), (11, iv r8.2.2), (35, .bool true), (38, .bool true)])
def S6_5 (p0 r4 : List (Int × I2)) (r6 r8 : I2 × I2 × Int) : CAct := (st 55 [(0, sv 0 p0.length ANY), (5, accV 1 r4.length), (40, .bool true), (41, iv r6.2.2), (42, iv r8.2.2)])
def H6_6 (p0 r4 : List (Int × I2)) : List Blk := [ab 92 e92 p0, ab 124 e124 r4, .dead, .dead, .dead, .dead]
def H6_7 (p0 : List (Int × I2)) : List Blk := [ab 92 e92 p0, .dead, .dead, .dead, .dead, .dead]
def F6 (p0 : List (Int × I2)) (p1 : Int) : Option Bool :=
 if decide ((p0.length : Int) > 60) then
  F15 >>= fun r2 =>
  some r2
 else
  F33 p0 >>= fun r4 =>
  F34 p0 p1 >>= fun r6 =>
  F35 r4 p1 >>= fun r8 =>
  (
   if ((r6.1.1 == r8.1.1) && ((r6.1.2 == r8.1.2) && true)) then
    if ((r6.2.1.1 == r8.2.1.1) && ((r6.2.1.2 == r8.2.1.2) && true)) then
     if r6.2.2 == r8.2.2 then
      F36 p0 >>= fun r13 =>
      F37 r4 >>= fun r15 =>
      if r13 == r15 then
       F15 >>= fun r18 =>
       some (r18)
      else
       some (false)
     else
      some (false)
    else
     some (false)
   else
    some (false)
  : Option Bool) >>= fun m20 =>
  some m20
def V6 (b : Nat) (r : Bool) : Value := .bool r
def N6 (b : Nat) (r : Bool) : List Blk := []
theorem B6 (p0 : List (Int × I2)) (p1 : Int) (r : Bool) (hF : F6 p0 p1 = some r) : TS Try.prog 1 1 c6 (st 55 [(0, sv 0 p0.length ANY), (1, iv p1)]) [ab 92 e92 p0] (NX Try.prog 1 1 [] (FinP Try.prog Try.f6 1 (V6 1 r) (N6 1 r))) := by
 unfold F6 at hF
 refine TS.sq (TS.rg (TI.ra 1 [0, 1] (st 55 [(0, sv 0 p0.length ANY), (1, iv p1)]) (TI.dn (NX.sq (TS.sq (TS.sq (TS.rg (TI.ra 3 [0, 1, 14] (st 55 [(0, sv 0 p0.length ANY), (1, iv p1), (14, .bool (decide ((p0.length : Int) > 60)))]) ?_))))))))
 refine TI.dn (NX.sq ?_)
 refine TS.cd (.tmp 14) (decide ((p0.length : Int) > 60)) (fun hc1 => ?_) (fun hc1 => ?_)
 · replace hF := of_pos hF hc1
   refine TS.sq ?_
   obtain ⟨r2, h3, hF⟩ := of_do hF
   refine TS.rg (TI.cf (C15 _ h3) (TI.ra 1 [4] (st 55 [(4, .bool r2)]) (TI.dn (NX.sq (TS.rt (NX.sqR ?_))))))
   have hF := sj hF
   subst hF
   exact ⟨.inr rfl, rfl, .bool r2, by kernel_rfl, WkV.flat0 (by kernel_rfl) (nl rfl)⟩
 replace hF := of_neg hF hc1
 refine TS.sk (NX.sq (TS.sq ?_))
 obtain ⟨r4, h5, hF⟩ := of_do hF
 refine TS.rg (TI.ra 1 [0, 1, 16] (st 55 [(0, sv 0 p0.length ANY), (1, iv p1), (16, sv 0 p0.length ANY)]) (TI.cp 33 [sv 0 p0.length ANY] (accV 1 r4.length) [ab 124 e124 r4] (PureSim.ren (hc := [ab 92 e92 p0]) (fun i => List.getD [(0, 0)] i (0, 0)) (C33 _ _ h5) (.ac (.nil _)) (.cons (Rn.any _ _ _ _ _ _ (nl rfl) rfl rfl (by decide)) .nil) (Rn.acc (i' := 1) (nl rfl) rfl) (newflat_cons (accB_flat (fun _ => rfl)) newflat_nil)) (TI.rn 1 [0, 1, 5] [0, 1] (st 55 [(0, sv 0 p0.length ANY), (1, iv p1), (5, accV 1 r4.length)]) [ab 92 e92 p0, ab 124 e124 r4] (TI.dn (NX.sq (TS.sq ?_))))))
 obtain ⟨r6, h7, hF⟩ := of_do hF
 refine TS.rg (TI.ra 2 [0, 1, 5, 19, 20] (st 55 [(0, sv 0 p0.length ANY), (1, iv p1), (5, accV 1 r4.length), (19, sv 0 p0.length ANY), (20, iv p1)]) (TI.cp 34 [sv 0 p0.length ANY, iv p1] (.tuple ⟨[ag [iv r6.1.1, iv r6.1.2], ag [iv r6.2.1.1, iv r6.2.1.2], iv r6.2.2]⟩) [] (PureSim.ren (hc := [ab 92 e92 p0]) (fun i => List.getD [(0, 0)] i (0, 0)) (C34 _ _ _ h7) (.ac (.nil _)) (.cons (Rn.any _ _ _ _ _ _ (nl rfl) rfl rfl (by decide)) (.fl .nil)) (.flat (by kernel_rfl)) newflat_nil) (TI.rn 9 [0, 1, 5, 6, 7, 8] [0, 1, 2, 3] (st 55 [(0, sv 0 p0.length ANY), (1, iv p1), (5, accV 1 r4.length), (6, pt 2 0), (7, pt 3 0), (8, iv r6.2.2)]) [ab 92 e92 p0, ab 124 e124 r4, cl 29 [iv r6.1.1, iv r6.1.2], cl 29 [iv r6.2.1.1, iv r6.2.1.2]] (TI.dn (NX.sq (TS.sq ?_))))))
 obtain ⟨r8, h9, hF⟩ := of_do hF
 refine TS.rg (TI.ra 2 [0, 5, 6, 7, 8, 26, 27] (st 55 [(0, sv 0 p0.length ANY), (5, accV 1 r4.length), (6, pt 2 0), (7, pt 3 0), (8, iv r6.2.2), (26, accV 1 r4.length), (27, iv p1)]) (TI.cp 35 [accV 1 r4.length, iv p1] (.tuple ⟨[ag [iv r8.1.1, iv r8.1.2], ag [iv r8.2.1.1, iv r8.2.1.2], iv r8.2.2]⟩) [] (PureSim.ren (hc := [ab 124 e124 r4]) (fun i => List.getD [(1, 0)] i (0, 0)) (C35 _ _ _ h9) (.ac (.nil _)) (.cons (Rn.accA (i' := 1) (nl rfl) rfl) (.fl .nil)) (.flat (by kernel_rfl)) newflat_nil) (TI.rn 9 [0, 5, 6, 7, 8, 9, 10, 11] [0, 1, 2, 3, 4, 5] (st 55 [(0, sv 0 p0.length ANY), (5, accV 1 r4.length), (6, pt 2 0), (7, pt 3 0), (8, iv r6.2.2), (9, pt 4 0), (10, pt 5 0), (11, iv r8.2.2)]) [ab 92 e92 p0, ab 124 e124 r4, cl 29 [iv r6.1.1, iv r6.1.2], cl 29 [iv r6.2.1.1, iv r6.2.1.2], cl 29 [iv r8.1.1, iv r8.1.2], cl 29 [iv r8.2.1.1, iv r8.2.1.2]] (TI.dn (NX.sq (TS.sq ?_))))))
 obtain ⟨m20, hm21, hF⟩ := of_do hF
 have hK : NX Try.prog 1 1 [.sq c6.s2.s2.s2.s2.s2.s2] (FinP Try.prog Try.f6 1 (V6 1 r) (N6 1 r)) .normal (st 55 [(4, .bool m20)]) (H6_7 p0) := by
  refine NX.sq (TS.rt ?_)
  have hF := sj hF
  subst hF
  exact ⟨.inr rfl, rfl, .bool m20, by kernel_rfl, WkV.flat0 (by kernel_rfl) (nl rfl)⟩
 rcases Bool.eq_false_or_eq_true (((r6.1.1 == r8.1.1) && ((r6.1.2 == r8.1.2) && true))) with hc10 | hc10
 · replace hm21 := of_pos hm21 hc10
   rcases Bool.eq_false_or_eq_true (((r6.2.1.1 == r8.2.1.1) && ((r6.2.1.2 == r8.2.1.2) && true))) with hc11 | hc11
   · replace hm21 := of_pos hm21 hc11
     rcases Bool.eq_false_or_eq_true (r6.2.2 == r8.2.2) with hc12 | hc12
     · replace hm21 := of_pos hm21 hc12
       have hX := of_do hm21
       clear hm21
       obtain ⟨r13, h14, hm21⟩ := hX
       have hX := of_do hm21
       clear hm21
       obtain ⟨r15, h16, hm21⟩ := hX
       rcases Bool.eq_false_or_eq_true (r13 == r15) with hc17 | hc17
       · replace hm21 := of_pos hm21 hc17
         have hX := of_do hm21
         clear hm21
         obtain ⟨r18, h19, hm21⟩ := hX
         have hm21 := sj hm21
         subst hm21
         refine TS.rg (TI.rn 2 [0, 5, 7, 8, 10, 11, 32, 33] [0, 1, 3, 5] (S6_0 p0 r4 r6 r8) (H6_2 p0 r4 r6 r8) (TI.o { val := .bool true } (q_conv (e := ((r6.1.1 == r8.1.1) && ((r6.1.2 == r8.1.2) && true))) (b := true) (by kernel_rfl) hc10) [0, 5, 7, 8, 10, 11, 34] [0, 1, 3, 5] (S6_3 p0 r4 r6 r8) (H6_2 p0 r4 r6 r8) (TI.rn 3 [0, 5, 8, 11, 35, 36, 37] [0, 1] (S6_1 p0 r4 r6 r8) (H6_6 p0 r4) (TI.o { val := .bool true } (q_conv (e := ((r6.2.1.1 == r8.2.1.1) && ((r6.2.1.2 == r8.2.1.2) && true))) (b := true) (by kernel_rfl) hc11) [0, 5, 8, 11, 35, 38] [0, 1] (S6_4 p0 r4 r6 r8) (H6_6 p0 r4) (TI.ra 4 [0, 5, 40, 41, 42] (S6_5 p0 r4 r6 r8) (TI.o { val := .bool true } (q_conv (e := r6.2.2 == r8.2.2) (b := true) (by kernel_rfl) hc12) [0, 5, 40, 43] [0, 1] (st 55 [(0, sv 0 p0.length ANY), (5, accV 1 r4.length), (40, .bool true), (43, .bool true)]) (H6_6 p0 r4) (TI.ra 3 [5, 45, 46] (st 55 [(5, accV 1 r4.length), (45, .bool true), (46, sv 0 p0.length ANY)]) (TI.cp 36 [sv 0 p0.length ANY] (iv r13) [] (PureSim.ren (hc := [ab 92 e92 p0]) (fun i => List.getD [(0, 0)] i (0, 0)) (C36 _ _ h14) (.ac (.nil _)) (.cons (Rn.any _ _ _ _ _ _ (nl rfl) rfl rfl (by decide)) .nil) (.flat (by kernel_rfl)) newflat_nil) ?_))))))))
         exact TI.ra 1 [45, 47, 48] (st 55 [(45, .bool true), (47, iv r13), (48, accV 1 r4.length)]) (TI.callM (g := 37) (args := [accV 1 r4.length]) (v := iv r15) (new := []) (by kernel_rfl) (PureSim.ren (hc := [ab 124 e124 r4]) (fun i => List.getD [(1, 0)] i (0, 0)) (C37 _ _ h16) (.ac (.nil _)) (.cons (Rn.accA (i' := 1) (nl rfl) rfl) .nil) (.flat (by kernel_rfl)) newflat_nil) [45, 47, 49] [0] (a2 := (st 55 [(45, .bool true), (47, iv r13), (49, iv r15)])) (h2 := (H6_7 p0)) (by kernel_rfl) (TI.o { val := .bool true } (q_conv (e := r13 == r15) (b := true) (by kernel_rfl) hc17) [45, 50] [0] (st 55 [(45, .bool true), (50, .bool true)]) (H6_7 p0) (TI.ra 2 [52] (st 55 [(52, .bool true)]) (TI.cf (C15 _ h19) (TI.ra 2 [4] (st 55 [(4, .bool r18)]) (TI.dn hK))))))
       replace hm21 := of_neg hm21 hc17
       have hm21 := sj hm21
       subst hm21
       refine TS.rg (TI.rn 2 [0, 5, 7, 8, 10, 11, 32, 33] [0, 1, 3, 5] (S6_0 p0 r4 r6 r8) (H6_2 p0 r4 r6 r8) (TI.o { val := .bool true } (q_conv (e := ((r6.1.1 == r8.1.1) && ((r6.1.2 == r8.1.2) && true))) (b := true) (by kernel_rfl) hc10) [0, 5, 7, 8, 10, 11, 34] [0, 1, 3, 5] (S6_3 p0 r4 r6 r8) (H6_2 p0 r4 r6 r8) (TI.rn 3 [0, 5, 8, 11, 35, 36, 37] [0, 1] (S6_1 p0 r4 r6 r8) (H6_6 p0 r4) (TI.o { val := .bool true } (q_conv (e := ((r6.2.1.1 == r8.2.1.1) && ((r6.2.1.2 == r8.2.1.2) && true))) (b := true) (by kernel_rfl) hc11) [0, 5, 8, 11, 35, 38] [0, 1] (S6_4 p0 r4 r6 r8) (H6_6 p0 r4) (TI.ra 4 [0, 5, 40, 41, 42] (S6_5 p0 r4 r6 r8) (TI.o { val := .bool true } (q_conv (e := r6.2.2 == r8.2.2) (b := true) (by kernel_rfl) hc12) [0, 5, 40, 43] [0, 1] (st 55 [(0, sv 0 p0.length ANY), (5, accV 1 r4.length), (40, .bool true), (43, .bool true)]) (H6_6 p0 r4) (TI.ra 3 [5, 45, 46] (st 55 [(5, accV 1 r4.length), (45, .bool true), (46, sv 0 p0.length ANY)]) (TI.cp 36 [sv 0 p0.length ANY] (iv r13) [] (PureSim.ren (hc := [ab 92 e92 p0]) (fun i => List.getD [(0, 0)] i (0, 0)) (C36 _ _ h14) (.ac (.nil _)) (.cons (Rn.any _ _ _ _ _ _ (nl rfl) rfl rfl (by decide)) .nil) (.flat (by kernel_rfl)) newflat_nil) ?_))))))))
       exact TI.ra 1 [45, 47, 48] (st 55 [(45, .bool true), (47, iv r13), (48, accV 1 r4.length)]) (TI.callM (g := 37) (args := [accV 1 r4.length]) (v := iv r15) (new := []) (by kernel_rfl) (PureSim.ren (hc := [ab 124 e124 r4]) (fun i => List.getD [(1, 0)] i (0, 0)) (C37 _ _ h16) (.ac (.nil _)) (.cons (Rn.accA (i' := 1) (nl rfl) rfl) .nil) (.flat (by kernel_rfl)) newflat_nil) [45, 47, 49] [0] (a2 := (st 55 [(45, .bool true), (47, iv r13), (49, iv r15)])) (h2 := (H6_7 p0)) (by kernel_rfl) (TI.o { val := .bool false } (q_conv (e := r13 == r15) (b := false) (by kernel_rfl) hc17) [45, 50] [0] (st 55 [(45, .bool true), (50, .bool false)]) (H6_7 p0) (TI.ra 5 [4] (st 55 [(4, .bool false)]) (TI.dn hK))))
     replace hm21 := of_neg hm21 hc12
     have hm21 := sj hm21
     subst hm21
     refine TS.rg (TI.rn 2 [0, 5, 7, 8, 10, 11, 32, 33] [0, 1, 3, 5] (S6_0 p0 r4 r6 r8) (H6_2 p0 r4 r6 r8) (TI.o { val := .bool true } (q_conv (e := ((r6.1.1 == r8.1.1) && ((r6.1.2 == r8.1.2) && true))) (b := true) (by kernel_rfl) hc10) [0, 5, 7, 8, 10, 11, 34] [0, 1, 3, 5] (S6_3 p0 r4 r6 r8) (H6_2 p0 r4 r6 r8) (TI.rn 3 [0, 5, 8, 11, 35, 36, 37] [0, 1] (S6_1 p0 r4 r6 r8) (H6_6 p0 r4) (TI.o { val := .bool true } (q_conv (e := ((r6.2.1.1 == r8.2.1.1) && ((r6.2.1.2 == r8.2.1.2) && true))) (b := true) (by kernel_rfl) hc11) [0, 5, 8, 11, 35, 38] [0, 1] (S6_4 p0 r4 r6 r8) (H6_6 p0 r4) (TI.ra 4 [0, 5, 40, 41, 42] (S6_5 p0 r4 r6 r8) (TI.o { val := .bool false } (q_conv (e := r6.2.2 == r8.2.2) (b := false) (by kernel_rfl) hc12) [0, 5, 40, 43] [0, 1] (st 55 [(0, sv 0 p0.length ANY), (5, accV 1 r4.length), (40, .bool true), (43, .bool false)]) (H6_6 p0 r4) (TI.rn 12 [4] [0] (st 55 [(4, .bool false)]) (H6_7 p0) (TI.dn ?_))))))))
     exact hK
   replace hm21 := of_neg hm21 hc11
   have hm21 := sj hm21
   subst hm21
   exact TS.rg (TI.rn 2 [0, 5, 7, 8, 10, 11, 32, 33] [0, 1, 3, 5] (S6_0 p0 r4 r6 r8) (H6_2 p0 r4 r6 r8) (TI.o { val := .bool true } (q_conv (e := ((r6.1.1 == r8.1.1) && ((r6.1.2 == r8.1.2) && true))) (b := true) (by kernel_rfl) hc10) [0, 5, 7, 8, 10, 11, 34] [0, 1, 3, 5] (S6_3 p0 r4 r6 r8) (H6_2 p0 r4 r6 r8) (TI.rn 3 [0, 5, 8, 11, 35, 36, 37] [0, 1] (S6_1 p0 r4 r6 r8) (H6_6 p0 r4) (TI.o { val := .bool false } (q_conv (e := ((r6.2.1.1 == r8.2.1.1) && ((r6.2.1.2 == r8.2.1.2) && true))) (b := false) (by kernel_rfl) hc11) [0, 5, 8, 11, 35, 38] [0, 1] (st 55 [(0, sv 0 p0.length ANY), (5, accV 1 r4.length), (8, iv r6.2.2), (11, iv r8.2.2), (35, .bool true), (38, .bool false)]) (H6_6 p0 r4) (TI.rn 17 [4] [0] (st 55 [(4, .bool false)]) (H6_7 p0) (TI.dn hK))))))
 replace hm21 := of_neg hm21 hc10
 have hm21 := sj hm21
 subst hm21
 exact TS.rg (TI.rn 2 [0, 5, 7, 8, 10, 11, 32, 33] [0, 1, 3, 5] (S6_0 p0 r4 r6 r8) (H6_2 p0 r4 r6 r8) (TI.o { val := .bool false } (q_conv (e := ((r6.1.1 == r8.1.1) && ((r6.1.2 == r8.1.2) && true))) (b := false) (by kernel_rfl) hc10) [0, 5, 7, 8, 10, 11, 34] [0, 1, 3, 5] (st 55 [(0, sv 0 p0.length ANY), (5, accV 1 r4.length), (7, pt 3 0), (8, iv r6.2.2), (10, pt 5 0), (11, iv r8.2.2), (34, .bool false)]) (H6_2 p0 r4 r6 r8) (TI.rn 21 [4] [0] (st 55 [(4, .bool false)]) (H6_7 p0) (TI.dn hK))))
theorem C6 (p0 : List (Int × I2)) (p1 : Int) (r : Bool) (hF : F6 p0 p1 = some r) : PureSim Try.prog 6 [sv 0 p0.length ANY, iv p1] [ab 92 e92 p0] (V6 1 r) (N6 1 r) :=
 PureSim.of_Fin Try.func6 (c := c6) (by kernel_rfl) (by kernel_rfl) 1 rfl [0, 1] [0] (by kernel_rfl) (B6 p0 p1 r hF)
end
end Go.Proofs.Ythpfffijnkmdgaa
