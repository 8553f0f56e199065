/- What functions of the program compute, and that they do. -/
import Derived.Test.YtdekbjfjbbdjgaaGW
set_option linter.unusedVariables false
set_option linter.unusedSimpArgs false
set_option maxRecDepth 100000
set_option maxHeartbeats 4000000
namespace Go.Proofs.Ytdekbjfjbbdjgaa
open Go Go.Cl
noncomputable section
noncomputable def c56 : Code := Try.f56.code
def F56l0 (p0 : List (I2 × PL)) (v6 : List Int) (v4 v5 : Int) : Option (List Int) :=
 some (Option.getD (mget p0 (v4, v5)) ((0, 0), 0, 0, (0, 0))) >>= fun o12 =>
 if decide (o12.2.2.1 ≥ 0) then
  if List.length v6 ≤ 1000000000 then
   F56l0 p0 (v6 ++ [o12.2.2.1]) o12.2.2.2.1 o12.2.2.2.2
  else none
 else
  some v6
 partial_fixpoint
def F56 (p0 : List (I2 × PL)) (p1 p2 : Int) : Option (List Int) :=
 F56l0 p0 ([]) p1 p2 >>= fun r16 =>
 some r16
def V56 (b : Nat) (r : List Int) : Value := accV (b + 0) r.length
def N56 (b : Nat) (r : List Int) : List Blk := [ab 3 e3 r]
def P56l0 (p0 : List (I2 × PL)) (r : List Int) : Post := fun e a h => e = .exit 0 ∧ Wk Try.prog 1 1 a h (st 23 [(5, accV 1 r.length)]) [mb 83 u83 u85 p0, ab 3 e3 r]
theorem L56l0 (p0 : List (I2 × PL)) (v6 : List Int) (v4 v5 : Int) (r : List Int) (hF : F56l0 p0 v6 v4 v5 = some r) : TL Try.prog 1 1 c56.s2.s2.s1.bd.bd (st 23 [(0, .map (some 0)), (3, pt 1 0), (5, accV 2 v6.length)]) [mb 83 u83 u85 p0, cl 83 [iv v4, iv v5], ab 3 e3 v6] (P56l0 p0 r) := by
 refine F56l0.partial_correctness p0 (motive := fun v6 v4 v5 r => TL Try.prog 1 1 c56.s2.s2.s1.bd.bd (st 23 [(0, .map (some 0)), (3, pt 1 0), (5, accV 2 v6.length)]) [mb 83 u83 u85 p0, cl 83 [iv v4, iv v5], ab 3 e3 v6] (P56l0 p0 r)) ?_ v6 v4 v5 r hF
 clear hF r v6 v4 v5
 intro again ih v6 v4 v5 r hF
 refine TL.round (TS.sq (TS.sq ?_))
 obtain ⟨o12, h13, hF⟩ := of_do hF
 replace h13 := sj h13
 refine TS.rg (TI.ra 2 [0, 3, 5, 6, 7] (st 23 [(0, .map (some 0)), (3, pt 1 0), (5, accV 2 v6.length), (6, .map (some 0)), (7, ag [iv v4, iv v5])]) (TI.o { val := ag [iv o12.1.1, iv o12.1.2, iv o12.2.1, iv o12.2.2.1, iv o12.2.2.2.1, iv o12.2.2.2.2] } (q_gN Try.prog [mb 83 u83 u85 p0, cl 83 [iv v4, iv v5], ab 3 e3 v6] 76 0 p0 (v4, v5) 83 85 u83 u85 (ag [iv v4, iv v5]) ((0, 0), 0, 0, (0, 0)) u83_fit u83_eq h13) [0, 3, 5, 8] [0, 1, 2] (st 23 [(0, .map (some 0)), (3, pt 1 0), (5, accV 2 v6.length), (8, ag [iv o12.1.1, iv o12.1.2, iv o12.2.1, iv o12.2.2.1, iv o12.2.2.2.1, iv o12.2.2.2.2])]) [mb 83 u83 u85 p0, cl 83 [iv v4, iv v5], ab 3 e3 v6] (TI.ra 2 [0, 3, 5, 10] (st 23 [(0, .map (some 0)), (3, pt 1 0), (5, accV 2 v6.length), (10, .bool (decide (o12.2.2.1 ≥ 0)))]) (TI.dn (NX.sq ?_)))))
 refine TS.cd (.tmp 10) (decide (o12.2.2.1 ≥ 0)) (fun hc14 => ?_) (fun hc14 => ?_)
 · replace hF := of_pos hF hc14
   refine TS.sk (NX.sq (TS.bk 1 (TS.sq ?_)))
   obtain ⟨hg15, hF⟩ := of_guard hF
   refine TS.rg (TI.ra 3 [0, 3, 11, 12, 13] (st 23 [(0, .map (some 0)), (3, pt 1 0), (11, accV 2 v6.length), (12, .map (some 0)), (13, ag [iv v4, iv v5])]) (TI.o { val := ag [iv o12.1.1, iv o12.1.2, iv o12.2.1, iv o12.2.2.1, iv o12.2.2.2.1, iv o12.2.2.2.2] } (q_gN Try.prog [mb 83 u83 u85 p0, cl 83 [iv v4, iv v5], ab 3 e3 v6] 76 0 p0 (v4, v5) 83 85 u83 u85 (ag [iv v4, iv v5]) ((0, 0), 0, 0, (0, 0)) u83_fit u83_eq h13) [0, 3, 11, 14] [0, 1, 2] (st 23 [(0, .map (some 0)), (3, pt 1 0), (11, accV 2 v6.length), (14, ag [iv o12.1.1, iv o12.1.2, iv o12.2.1, iv o12.2.2.1, iv o12.2.2.2.1, iv o12.2.2.2.2])]) [mb 83 u83 u85 p0, cl 83 [iv v4, iv v5], ab 3 e3 v6] (TI.rn 2 [0, 3, 11, 16] [0, 1, 2, 3] (st 23 [(0, .map (some 0)), (3, pt 1 0), (11, accV 2 v6.length), (16, sv 3 1 1)]) [mb 83 u83 u85 p0, cl 83 [iv v4, iv v5], ab 3 e3 v6, cl 3 [iv o12.2.2.1]] (TI.acc (l := v6) (b := 2) (ts := #[30, 30]) (e := 3) (bytes := 8) (z := iv 0) (y := sv 3 1 1) (ys := [o12.2.2.1]) (xs := List.flatMap e3 ([o12.2.2.1])) (m := 1) (s := 1) (enc := e3) (by kernel_rfl) (by kernel_rfl) (by decide) (by kernel_rfl) (by kernel_rfl) (by kernel_rfl) (by kernel_rfl) (by kernel_rfl) (by kernel_rfl) (by kernel_rfl) (by kernel_rfl) (fun _ => rfl) rfl rfl (by omega) [0, 3, 17] [0, 1, 4] (a2 := (st 23 [(0, .map (some 0)), (3, pt 1 0), (17, sv 4 (List.length (v6 ++ [o12.2.2.1])) UNK)])) (h2 := [mb 83 u83 u85 p0, cl 83 [iv v4, iv v5], .dead, .dead, .cells 3 (List.flatMap e3 (v6 ++ [o12.2.2.1]))]) (by kernel_rfl) (TI.ra 1 [0, 3, 5] (st 23 [(0, .map (some 0)), (3, pt 1 0), (5, sv 4 (List.length (v6 ++ [o12.2.2.1])) UNK)]) (TI.dn (NX.sq (TS.rg ?_))))))))
   refine TI.ra 2 [0, 3, 5, 18, 19] (st 23 [(0, .map (some 0)), (3, pt 1 0), (5, sv 4 (List.length (v6 ++ [o12.2.2.1])) UNK), (18, .map (some 0)), (19, ag [iv v4, iv v5])]) (TI.o { val := ag [iv o12.1.1, iv o12.1.2, iv o12.2.1, iv o12.2.2.1, iv o12.2.2.2.1, iv o12.2.2.2.2] } (q_gN Try.prog [mb 83 u83 u85 p0, cl 83 [iv v4, iv v5], .dead, .dead, .cells 3 (List.flatMap e3 (v6 ++ [o12.2.2.1]))] 76 0 p0 (v4, v5) 83 85 u83 u85 (ag [iv v4, iv v5]) ((0, 0), 0, 0, (0, 0)) u83_fit u83_eq h13) [0, 3, 5, 20] [0, 1, 4] (st 23 [(0, .map (some 0)), (3, pt 1 0), (5, sv 4 (List.length (v6 ++ [o12.2.2.1])) UNK), (20, ag [iv o12.1.1, iv o12.1.2, iv o12.2.1, iv o12.2.2.1, iv o12.2.2.2.1, iv o12.2.2.2.2])]) [mb 83 u83 u85 p0, cl 83 [iv v4, iv v5], .dead, .dead, .cells 3 (List.flatMap e3 (v6 ++ [o12.2.2.1]))] (TI.rn 2 [0, 3, 5] [0, 1, 4] (st 23 [(0, .map (some 0)), (3, pt 1 0), (5, sv 4 (List.length (v6 ++ [o12.2.2.1])) UNK)]) [mb 83 u83 u85 p0, cl 83 [iv o12.2.2.2.1, iv o12.2.2.2.2], .dead, .dead, .cells 3 (List.flatMap e3 (v6 ++ [o12.2.2.1]))] (TI.dn (NX.bk ?_))))
   exact Rd.again (a2 := (st 23 [(0, .map (some 0)), (3, pt 1 0), (5, accV 2 (List.length (v6 ++ [o12.2.2.1])))])) (h2 := [mb 83 u83 u85 p0, cl 83 [iv o12.2.2.2.1, iv o12.2.2.2.2], accB 3 (List.length (v6 ++ [o12.2.2.1])) (List.flatMap e3 (v6 ++ [o12.2.2.1]))]) (Wk.an [1, 4] (.cons (At.blk (by kernel_rfl) (RnB.map _ _)) (.lt (.fl (.fl .nil)) (.cons (At.accU (by kernel_rfl) rfl (fun _ => rfl)) (.nil _)))) [.map (some 0), pt 1 0, sv 4 (List.length (v6 ++ [o12.2.2.1])) UNK] (.cons (Rn.map _ (nl rfl)) (.pp (.cons (Rn.accU (nl rfl) rfl (by simp)) .nil)))) (ih (v6 ++ [o12.2.2.1]) o12.2.2.2.1 o12.2.2.2.2 _ hF)
 replace hF := of_neg hF hc14
 refine TS.ex 0 (NX.sqX ?_)
 have hF := sj hF
 subst hF
 exact Rd.out (e := .exit 0) (by intro h; cases h) (And.intro rfl (Wk.an [2] (.cons (At.blk (by kernel_rfl) (RnB.map _ _)) (.ac (.nil _))) [accV 2 v6.length] (.cons (Rn.acc (nl rfl) rfl) .nil)))
theorem B56 (p0 : List (I2 × PL)) (p1 p2 : Int) (r : List Int) (hF : F56 p0 p1 p2 = some r) : TS Try.prog 1 1 c56 (st 23 [(0, .map (some 0)), (1, ag [iv p1, iv p2])]) [mb 83 u83 u85 p0] (NX Try.prog 1 1 [] (FinP Try.prog Try.f56 1 (V56 1 r) (N56 1 r))) := by
 unfold F56 at hF
 refine TS.sq (TS.rg (TI.rn 2 [0, 3] [0, 1] (st 23 [(0, .map (some 0)), (3, pt 1 0)]) [mb 83 u83 u85 p0, cl 83 [iv p1, iv p2]] (TI.dn (NX.sq (TS.sq (TS.rg (TI.ra 1 [0, 3, 5] (st 23 [(0, .map (some 0)), (3, pt 1 0), (5, .slice none 0 0)]) (TI.dn ?_))))))))
 refine NX.sq (TS.sq (TS.bk 0 ?_))
 obtain ⟨r16, h17, hF⟩ := of_do hF
 refine TS.lp (TL.weak (a2 := (st 23 [(0, .map (some 0)), (3, pt 1 0), (5, accV 2 (List.length ([])))])) (h2 := [mb 83 u83 u85 p0, cl 83 [iv p1, iv p2], accB 3 (List.length ([])) (List.flatMap e3 ([]))]) (Wk.an [1, 2] (.cons (At.blk (by kernel_rfl) (RnB.map _ _)) (.lt (.fl (.fl .nil)) (.cons At.accN (.nil _)))) [.map (some 0), pt 1 0, .slice none 0 0] (.cons (Rn.map _ (nl rfl)) (.pp (.cons (Rn.accN) .nil)))) (TL.post (L56l0 p0 ([]) p1 p2 r16 h17) ?_))
 rintro e a1 h1 hp
 obtain ⟨rfl, hw⟩ := hp
 refine ⟨(st 23 [(5, accV 1 r16.length)]), [mb 83 u83 u85 p0, ab 3 e3 r16], (NX.bkX (NX.sq (TS.sq (TS.rg (TI.ra 2 [4] (st 23 [(4, accV 1 r16.length)]) (TI.dn (NX.sq (TS.rt ?_)))))))), hw⟩
 have hF := sj hF
 subst hF
 exact ⟨.inr rfl, rfl, accV 1 r16.length, by kernel_rfl, WkV.made (L := 1) (f := [1]) (by decide) (by decide) rfl (.ac (.nil _)) (Rn.acc (nl rfl) rfl)⟩
theorem C56 (p0 : List (I2 × PL)) (p1 p2 : Int) (r : List Int) (hF : F56 p0 p1 p2 = some r) : PureSim Try.prog 56 [.map (some 0), ag [iv p1, iv p2]] [mb 83 u83 u85 p0] (V56 1 r) (N56 1 r) :=
 PureSim.of_Fin Try.func56 (c := c56) (by kernel_rfl) (by kernel_rfl) 1 rfl [0, 1] [0] (by kernel_rfl) (B56 p0 p1 p2 r hF)
noncomputable def c58 : Code := Try.f58.code
def H58_0 (p0 p1 p2 : List Int) (o4 : Int) : List Blk := [cl 30 [sv 1 p0.length ANY, sv 2 p1.length ANY, sv 3 p2.length ANY], ab 3 e3 p0, ab 3 e3 p1, ab 3 e3 p2, .dead, .dead, .cells 3 (List.flatMap e3 (((List.take (Int.toNat 0) (List.replicate (Int.toNat (w64 ((w64 (o4 + (p2.length : Int))) - 0))) (0 : Int))) ++ p0) ++ p1))]
def H58_1 (p0 p1 p2 : List Int) (o4 : Int) : List Blk := [cl 30 [sv 1 p0.length ANY, sv 2 p1.length ANY, sv 3 p2.length ANY], ab 3 e3 p0, ab 3 e3 p1, ab 3 e3 p2, .dead, .cells 3 (List.flatMap e3 ((List.take (Int.toNat 0) (List.replicate (Int.toNat (w64 ((w64 (o4 + (p2.length : Int))) - 0))) (0 : Int))) ++ p0))]
def H58_2 (p0 p1 p2 : List Int) (o4 : Int) : List Blk := [cl 30 [sv 1 p0.length ANY, sv 2 p1.length ANY, sv 3 p2.length ANY], ab 3 e3 p0, ab 3 e3 p1, ab 3 e3 p2, .cells 3 (List.flatMap e3 (List.replicate (Int.toNat (w64 ((w64 (o4 + (p2.length : Int))) - 0))) (0 : Int)))]
def H58_3 (p0 p1 p2 : List Int) : List Blk := [cl 30 [sv 1 p0.length ANY, sv 2 p1.length ANY, sv 3 p2.length ANY], ab 3 e3 p0, ab 3 e3 p1, ab 3 e3 p2, .dead, accB 3 (List.length (p0 ++ p1)) (List.flatMap e3 (p0 ++ p1))]
def H58_4 (p0 p1 p2 : List Int) : List Blk := [cl 30 [sv 1 p0.length ANY, sv 2 p1.length ANY, sv 3 p2.length ANY], ab 3 e3 p0, ab 3 e3 p1, ab 3 e3 p2, ab 3 e3 p0]
def H58_5 (p0 p1 p2 : List Int) : List Blk := [cl 30 [sv 1 p0.length ANY, sv 2 p1.length ANY, sv 3 p2.length ANY], ab 3 e3 p0, ab 3 e3 p1, ab 3 e3 p2]
def S58_6 (o4 : Int) (p2 : List Int) : CAct := (st 36 [(0, sv 0 3 3), (3, iv (w64 (o4 + (p2.length : Int)))), (9, sv 0 3 3), (10, iv 3), (11, iv 2)])
def S58_7 (p0 : List Int) : CAct := (st 36 [(0, sv 0 3 3), (3, iv (w64 (0 + (p0.length : Int)))), (9, sv 0 3 3), (10, iv 3), (11, iv 0)])
def S58_8 (o4 : Int) : CAct := (st 36 [(0, sv 0 3 3), (3, iv o4), (9, sv 0 3 3), (10, iv 3), (11, iv 1)])
def S58_9 (o4 : Int) (p2 : List Int) : CAct := (st 27 [(0, .slice none 0 0), (1, iv (w64 (o4 + (p2.length : Int))))])
noncomputable def c58f65 : Code := Try.f65.code
def F58 (p0 p1 p2 : List Int) : Option (List Int) :=
 (
  if decide ((w64 (0 + (p0.length : Int))) < 0) then
   none
  else
   some ()
 : Option Unit) >>= fun m2 =>
 some (w64 ((w64 (0 + (p0.length : Int))) + (p1.length : Int))) >>= fun o4 =>
 (
  if decide (o4 < 0) then
   none
  else
   some ()
 : Option Unit) >>= fun m7 =>
 (
  if decide ((w64 (o4 + (p2.length : Int))) < 0) then
   none
  else
   some ()
 : Option Unit) >>= fun m10 =>
 (
  if decide ((w64 (o4 + (p2.length : Int))) < 0) then
   none
  else
   some ()
 : Option Unit) >>= fun m13 =>
 if decide ((w64 ((w64 (o4 + (p2.length : Int))) - 0)) > 0) then
  if (0 : Int) < w64 ((w64 (o4 + (p2.length : Int))) - 0) ∧ w64 ((w64 (o4 + (p2.length : Int))) - 0) ≤ 1000000000 then
   if (0 : Int) ≤ 0 ∧ 0 ≤ (List.length (List.replicate (Int.toNat (w64 ((w64 (o4 + (p2.length : Int))) - 0))) (0 : Int)) : Int) then
    if List.length (List.take (Int.toNat 0) (List.replicate (Int.toNat (w64 ((w64 (o4 + (p2.length : Int))) - 0))) (0 : Int))) ≤ 1000000000 then
     if List.length p0 ≤ 1000000000 then
      if List.length ((List.take (Int.toNat 0) (List.replicate (Int.toNat (w64 ((w64 (o4 + (p2.length : Int))) - 0))) (0 : Int))) ++ p0) ≤ 1000000000 then
       if List.length p1 ≤ 1000000000 then
        if List.length (((List.take (Int.toNat 0) (List.replicate (Int.toNat (w64 ((w64 (o4 + (p2.length : Int))) - 0))) (0 : Int))) ++ p0) ++ p1) ≤ 1000000000 then
         if List.length p2 ≤ 1000000000 then
          some ((((List.take (Int.toNat 0) (List.replicate (Int.toNat (w64 ((w64 (o4 + (p2.length : Int))) - 0))) (0 : Int))) ++ p0) ++ p1) ++ p2)
         else none
        else none
       else none
      else none
     else none
    else none
   else none
  else none
 else
  if List.length p0 ≤ 1000000000 then
   if List.length p1 ≤ 1000000000 then
    if List.length (p0 ++ p1) ≤ 1000000000 then
     if List.length p2 ≤ 1000000000 then
      some ((p0 ++ p1) ++ p2)
     else none
    else none
   else none
  else none
def V58 (b : Nat) (r : List Int) : Value := .slice (some ⟨b + 0, 0, none⟩) r.length ANY
def N58 (b : Nat) (r : List Int) : List Blk := [ab 3 e3 r]
theorem B58 (p0 p1 p2 r : List Int) (hF : F58 p0 p1 p2 = some r) : TS Try.prog 4 4 c58 (st 36 [(0, sv 0 3 3)]) (H58_5 p0 p1 p2) (NX Try.prog 4 4 [] (FinP Try.prog Try.f58 4 (V58 4 r) (N58 4 r))) := by
 unfold F58 at hF
 refine TS.sq (TS.rg (TI.ra 1 [0] (st 36 [(0, sv 0 3 3)]) (TI.dn (NX.sq (TS.sq (TS.rg (TI.ra 1 [0, 3] (st 36 [(0, sv 0 3 3), (3, iv 0)]) (TI.dn ?_))))))))
 refine NX.sq (TS.sq (TS.sq (TS.rg (TI.ra 3 [0, 3, 9, 10, 11] (st 36 [(0, sv 0 3 3), (3, iv 0), (9, sv 0 3 3), (10, iv 3), (11, iv 0)]) (TI.dn (NX.sq (TS.bk 0 (TS.lp ?_))))))))
 refine TL.round (TS.sq (TS.rg (TI.ra 1 [0, 3, 9, 10, 11, 12] (st 36 [(0, sv 0 3 3), (3, iv 0), (9, sv 0 3 3), (10, iv 3), (11, iv 0), (12, .bool true)]) (TI.dn (NX.sq (TS.sq (TS.cdT (.tmp 12) (TS.sk ?_))))))))
 refine NX.sq (TS.sq (TS.bk 1 (TS.sq (TS.rg (TI.ra 3 [0, 3, 5, 9, 10, 11] (st 36 [(0, sv 0 3 3), (3, iv 0), (5, sv 1 p0.length ANY), (9, sv 0 3 3), (10, iv 3), (11, iv 0)]) (TI.dn (NX.sq (TS.sq ?_))))))))
 refine TS.rg (TI.ra 5 [0, 3, 9, 10, 11] (S58_7 p0) (TI.dn (NX.sq (TS.sq (TS.rg (TI.ra 2 [0, 3, 9, 10, 11, 20] (st 36 [(0, sv 0 3 3), (3, iv (w64 (0 + (p0.length : Int)))), (9, sv 0 3 3), (10, iv 3), (11, iv 0), (20, .bool (decide ((w64 (0 + (p0.length : Int))) < 0)))]) (TI.dn (NX.sq ?_))))))))
 obtain ⟨m2, hm3, hF⟩ := of_do hF
 have hK : NX Try.prog 4 4 [.bk 1, .sq c58.s2.s2.s1.s2.bd.bd.s2.s2.s2] (Rd Try.prog 4 4 c58.s2.s2.s1.s2.bd.bd (NX Try.prog 4 4 [.bk 0, .sq c58.s2.s2.s2] (FinP Try.prog Try.f58 4 (V58 4 r) (N58 4 r)))) .normal (S58_7 p0) (H58_5 p0 p1 p2) := by
  refine NX.bk (NX.sq (TS.rg (TI.ra 2 [0, 3, 9, 10, 11] (st 36 [(0, sv 0 3 3), (3, iv (w64 (0 + (p0.length : Int)))), (9, sv 0 3 3), (10, iv 3), (11, iv 1)]) (TI.dn ?_))))
  refine Rd.again Wk.refl (TL.round (TS.sq (TS.rg (TI.ra 1 [0, 3, 9, 10, 11, 12] (st 36 [(0, sv 0 3 3), (3, iv (w64 (0 + (p0.length : Int)))), (9, sv 0 3 3), (10, iv 3), (11, iv 1), (12, .bool true)]) (TI.dn (NX.sq (TS.sq (TS.cdT (.tmp 12) (TS.sk ?_)))))))))
  refine NX.sq (TS.sq (TS.bk 1 (TS.sq (TS.rg (TI.ra 3 [0, 3, 5, 9, 10, 11] (st 36 [(0, sv 0 3 3), (3, iv (w64 (0 + (p0.length : Int)))), (5, sv 2 p1.length ANY), (9, sv 0 3 3), (10, iv 3), (11, iv 1)]) (TI.dn (NX.sq (TS.sq ?_))))))))
  obtain ⟨o4, h5, hF⟩ := of_do hF
  replace h5 := sj h5
  refine TS.rg (TI.ra 3 [0, 9, 10, 11, 15, 17] (st 36 [(0, sv 0 3 3), (9, sv 0 3 3), (10, iv 3), (11, iv 1), (15, iv (w64 (0 + (p0.length : Int)))), (17, iv (p1.length : Int))]) (TI.o { val := iv o4 } (q_convI (e := w64 ((w64 (0 + (p0.length : Int))) + (p1.length : Int))) (y := o4) (by kernel_rfl) h5) [0, 9, 10, 11, 18] [0, 1, 2, 3] (st 36 [(0, sv 0 3 3), (9, sv 0 3 3), (10, iv 3), (11, iv 1), (18, iv o4)]) (H58_5 p0 p1 p2) (TI.ra 1 [0, 3, 9, 10, 11] (S58_8 o4) (TI.dn (NX.sq (TS.sq (TS.rg (TI.ra 2 [0, 3, 9, 10, 11, 20] (st 36 [(0, sv 0 3 3), (3, iv o4), (9, sv 0 3 3), (10, iv 3), (11, iv 1), (20, .bool (decide (o4 < 0)))]) ?_))))))))
  refine TI.dn (NX.sq ?_)
  obtain ⟨m7, hm8, hF⟩ := of_do hF
  have hK : NX Try.prog 4 4 [.bk 1, .sq c58.s2.s2.s1.s2.bd.bd.s2.s2.s2] (Rd Try.prog 4 4 c58.s2.s2.s1.s2.bd.bd (NX Try.prog 4 4 [.bk 0, .sq c58.s2.s2.s2] (FinP Try.prog Try.f58 4 (V58 4 r) (N58 4 r)))) .normal (S58_8 o4) (H58_5 p0 p1 p2) := by
   refine NX.bk (NX.sq (TS.rg (TI.ra 2 [0, 3, 9, 10, 11] (st 36 [(0, sv 0 3 3), (3, iv o4), (9, sv 0 3 3), (10, iv 3), (11, iv 2)]) (TI.dn ?_))))
   refine Rd.again Wk.refl (TL.round (TS.sq (TS.rg (TI.ra 1 [0, 3, 9, 10, 11, 12] (st 36 [(0, sv 0 3 3), (3, iv o4), (9, sv 0 3 3), (10, iv 3), (11, iv 2), (12, .bool true)]) (TI.dn (NX.sq (TS.sq (TS.cdT (.tmp 12) (TS.sk ?_)))))))))
   refine NX.sq (TS.sq (TS.bk 1 (TS.sq (TS.rg (TI.ra 3 [0, 3, 5, 9, 10, 11] (st 36 [(0, sv 0 3 3), (3, iv o4), (5, sv 3 p2.length ANY), (9, sv 0 3 3), (10, iv 3), (11, iv 2)]) (TI.dn (NX.sq (TS.sq ?_))))))))
   refine TS.rg (TI.ra 5 [0, 3, 9, 10, 11] (S58_6 o4 p2) (TI.dn (NX.sq (TS.sq (TS.rg (TI.ra 2 [0, 3, 9, 10, 11, 20] (st 36 [(0, sv 0 3 3), (3, iv (w64 (o4 + (p2.length : Int)))), (9, sv 0 3 3), (10, iv 3), (11, iv 2), (20, .bool (decide ((w64 (o4 + (p2.length : Int))) < 0)))]) (TI.dn (NX.sq ?_))))))))
   obtain ⟨m10, hm11, hF⟩ := of_do hF
   have hK : NX Try.prog 4 4 [.bk 1, .sq c58.s2.s2.s1.s2.bd.bd.s2.s2.s2] (Rd Try.prog 4 4 c58.s2.s2.s1.s2.bd.bd (NX Try.prog 4 4 [.bk 0, .sq c58.s2.s2.s2] (FinP Try.prog Try.f58 4 (V58 4 r) (N58 4 r)))) .normal (S58_6 o4 p2) (H58_5 p0 p1 p2) := by
    refine NX.bk (NX.sq (TS.rg (TI.ra 2 [0, 3, 9, 10, 11] (st 36 [(0, sv 0 3 3), (3, iv (w64 (o4 + (p2.length : Int)))), (9, sv 0 3 3), (10, iv 3), (11, iv 3)]) (TI.dn ?_))))
    refine Rd.again Wk.refl (TL.round (TS.sq (TS.rg (TI.ra 1 [0, 3, 9, 10, 11, 12] (st 36 [(0, sv 0 3 3), (3, iv (w64 (o4 + (p2.length : Int)))), (9, sv 0 3 3), (10, iv 3), (11, iv 3), (12, .bool false)]) (TI.dn (NX.sq (TS.sq (TS.cdF (.tmp 12) (TS.ex 0 ?_)))))))))
    refine NX.sqX ?_
    refine Rd.out (by simp) (NX.bkX (NX.sq (TS.sq (TS.rg (TI.ra 1 [0, 23] (st 36 [(0, sv 0 3 3), (23, iv (w64 (o4 + (p2.length : Int))))]) (TI.inline (g := 65) (args := [.slice none 0 0, iv (w64 (o4 + (p2.length : Int)))]) (fn := Try.f65) (c := c58f65) (n := 4) (by kernel_rfl) (by kernel_rfl) (by kernel_rfl) (by kernel_rfl) (by kernel_rfl) [0, 1] (a2 := (S58_9 o4 p2)) (by kernel_rfl) (TS.sq (TS.rg ?_))))))))
    refine TI.ra 1 [0, 1] (S58_9 o4 p2) (TI.dn (NX.sq (TS.sq (TS.sq (TS.rg (TI.ra 2 [0, 1, 6] (st 27 [(0, .slice none 0 0), (1, iv (w64 (o4 + (p2.length : Int)))), (6, .bool (decide ((w64 (o4 + (p2.length : Int))) < 0)))]) (TI.dn (NX.sq ?_))))))))
    obtain ⟨m13, hm14, hF⟩ := of_do hF
    have hK : NX Try.prog 4 4 [.sq c58f65.s2.s2] (InlP Try.prog 4 4 Try.f65 (fun v2 h2 => TI Try.prog 4 4 c58.s2.s2.s2.s1.rops 2 (putAt c58.s2.s2.s2.s1.rops 1 (st 36 [(0, sv 0 3 3), (23, iv (w64 (o4 + (p2.length : Int))))]) v2) h2 (NX Try.prog 4 4 [.sq c58.s2.s2.s2.s2] (FinP Try.prog Try.f58 4 (V58 4 r) (N58 4 r)) .normal))) .normal (S58_9 o4 p2) (H58_5 p0 p1 p2) := by
     refine NX.sq (TS.sq (TS.sq (TS.rg (TI.ra 8 [0, 1] (st 27 [(0, .slice none 0 0), (1, iv (w64 ((w64 (o4 + (p2.length : Int))) - 0)))]) (TI.dn (NX.sq (TS.sq (TS.rg ?_))))))))
     refine TI.ra 2 [0, 1, 16] (st 27 [(0, .slice none 0 0), (1, iv (w64 ((w64 (o4 + (p2.length : Int))) - 0))), (16, .bool (decide ((w64 ((w64 (o4 + (p2.length : Int))) - 0)) > 0)))]) (TI.dn (NX.sq ?_))
     refine TS.cd (.tmp 16) (decide ((w64 ((w64 (o4 + (p2.length : Int))) - 0)) > 0)) (fun hc19 => ?_) (fun hc19 => ?_)
     · replace hF := of_pos hF hc19
       obtain ⟨hg20, hF⟩ := of_guard hF
       obtain ⟨hg21, hF⟩ := of_guard hF
       refine TS.rg (TI.ra 5 [0, 20, 21] (st 27 [(0, .slice none 0 0), (20, .slice none 0 0), (21, iv (w64 ((w64 (o4 + (p2.length : Int))) - 0)))]) (TI.o { val := sv 4 (List.length (List.replicate (Int.toNat (w64 ((w64 (o4 + (p2.length : Int))) - 0))) (0 : Int))) UNK, new := [.cells 3 (List.flatMap e3 (List.replicate (Int.toNat (w64 ((w64 (o4 + (p2.length : Int))) - 0))) (0 : Int)))] } (q_appZ (P := Try.prog) (base := 4) (hp := (H58_5 p0 p1 p2)) (n := 4) (s := 1) (enc := e3) (ts := #[30, 3]) (e := 3) (bytes := 8) (z := iv 0) (v := w64 ((w64 (o4 + (p2.length : Int))) - 0)) (0 : Int) (by kernel_rfl) (by kernel_rfl) (by kernel_rfl) (by kernel_rfl) (by kernel_rfl) (by kernel_rfl) (by kernel_rfl) rfl hg20.1 hg20.2 (by decide)) [0, 22] [0, 1, 2, 3, 4] (st 27 [(0, .slice none 0 0), (22, sv 4 (List.length (List.replicate (Int.toNat (w64 ((w64 (o4 + (p2.length : Int))) - 0))) (0 : Int))) UNK)]) (H58_2 p0 p1 p2 o4) (TI.ra 2 [22, 24] (st 27 [(22, sv 4 (List.length (List.replicate (Int.toNat (w64 ((w64 (o4 + (p2.length : Int))) - 0))) (0 : Int))) UNK), (24, iv 0)]) (TI.o { val := sv 4 (List.length (List.take (Int.toNat 0) (List.replicate (Int.toNat (w64 ((w64 (o4 + (p2.length : Int))) - 0))) (0 : Int)))) UNK } (q_slUhi (P := Try.prog) (t := 30) (e := 3) (s := 1) (b := 4) (off := 0) (ys := List.replicate (Int.toNat (w64 ((w64 (o4 + (p2.length : Int))) - 0))) (0 : Int)) (k := .i64) (v := 0) (by kernel_rfl) (by kernel_rfl) (by kernel_rfl) hg21) [25] [0, 1, 2, 3, 4] (st 27 [(25, sv 4 (List.length (List.take (Int.toNat 0) (List.replicate (Int.toNat (w64 ((w64 (o4 + (p2.length : Int))) - 0))) (0 : Int)))) UNK)]) (H58_2 p0 p1 p2 o4) (TI.ra 1 [0] (st 27 [(0, sv 4 (List.length (List.take (Int.toNat 0) (List.replicate (Int.toNat (w64 ((w64 (o4 + (p2.length : Int))) - 0))) (0 : Int)))) UNK)]) (TI.dn (NX.sq (TS.sq ?_))))))))
       refine TS.rg (TI.ra 2 [4] (st 27 [(4, sv 4 (List.length (List.take (Int.toNat 0) (List.replicate (Int.toNat (w64 ((w64 (o4 + (p2.length : Int))) - 0))) (0 : Int)))) UNK)]) (TI.dn (NX.sq (TS.rt ?_))))
       refine ⟨.inr rfl, rfl, sv 4 (List.length (List.take (Int.toNat 0) (List.replicate (Int.toNat (w64 ((w64 (o4 + (p2.length : Int))) - 0))) (0 : Int)))) UNK, sv 4 (List.length (List.take (Int.toNat 0) (List.replicate (Int.toNat (w64 ((w64 (o4 + (p2.length : Int))) - 0))) (0 : Int)))) UNK, (H58_2 p0 p1 p2 o4), by kernel_rfl, WkV.refl, (TI.rn 0 [0, 24] [0, 1, 2, 3, 4] (st 36 [(0, sv 0 3 3), (24, sv 4 (List.length (List.take (Int.toNat 0) (List.replicate (Int.toNat (w64 ((w64 (o4 + (p2.length : Int))) - 0))) (0 : Int)))) UNK)]) (H58_2 p0 p1 p2 o4) (TI.ra 1 [0, 6] (st 36 [(0, sv 0 3 3), (6, sv 4 (List.length (List.take (Int.toNat 0) (List.replicate (Int.toNat (w64 ((w64 (o4 + (p2.length : Int))) - 0))) (0 : Int)))) UNK)]) (TI.dn (NX.sq (TS.sq (TS.sq (TS.rg (TI.ra 3 [6, 25, 26, 27] (st 36 [(6, sv 4 (List.length (List.take (Int.toNat 0) (List.replicate (Int.toNat (w64 ((w64 (o4 + (p2.length : Int))) - 0))) (0 : Int)))) UNK), (25, sv 0 3 3), (26, iv 3), (27, iv 0)]) ?_))))))))⟩
       refine TI.dn (NX.sq (TS.bk 2 (TS.lp (TL.round (TS.sq (TS.rg (TI.ra 1 [6, 25, 26, 27, 28] (st 36 [(6, sv 4 (List.length (List.take (Int.toNat 0) (List.replicate (Int.toNat (w64 ((w64 (o4 + (p2.length : Int))) - 0))) (0 : Int)))) UNK), (25, sv 0 3 3), (26, iv 3), (27, iv 0), (28, .bool true)]) (TI.dn ?_))))))))
       refine NX.sq (TS.sq (TS.cdT (.tmp 28) (TS.sk (NX.sq (TS.sq (TS.bk 3 (TS.sq (TS.rg ?_))))))))
       refine TI.ra 3 [6, 8, 25, 26, 27] (st 36 [(6, sv 4 (List.length (List.take (Int.toNat 0) (List.replicate (Int.toNat (w64 ((w64 (o4 + (p2.length : Int))) - 0))) (0 : Int)))) UNK), (8, sv 1 p0.length ANY), (25, sv 0 3 3), (26, iv 3), (27, iv 0)]) (TI.dn (NX.sq ?_))
       obtain ⟨hg22, hF⟩ := of_guard hF
       obtain ⟨hg23, hF⟩ := of_guard hF
       refine TS.rg (TI.ra 2 [25, 26, 27, 31, 32] (st 36 [(25, sv 0 3 3), (26, iv 3), (27, iv 0), (31, sv 4 (List.length (List.take (Int.toNat 0) (List.replicate (Int.toNat (w64 ((w64 (o4 + (p2.length : Int))) - 0))) (0 : Int)))) UNK), (32, sv 1 p0.length ANY)]) ?_)
       refine TI.o { val := ownV 5 (List.length ((List.take (Int.toNat 0) (List.replicate (Int.toNat (w64 ((w64 (o4 + (p2.length : Int))) - 0))) (0 : Int))) ++ p0)), new := [.cells 3 (List.flatMap e3 ((List.take (Int.toNat 0) (List.replicate (Int.toNat (w64 ((w64 (o4 + (p2.length : Int))) - 0))) (0 : Int))) ++ p0))], upd := some (4, .dead) } (q_appP (P := Try.prog) (base := 4) (hp := (H58_2 p0 p1 p2 o4)) (n := 5) (s := 1) (enc := e3) (ts := #[30, 30]) (e := 3) (bytes := 8) (z := iv 0) (y := sv 1 p0.length ANY) (ys := p0) (b := 4) (L := List.replicate (Int.toNat (w64 ((w64 (o4 + (p2.length : Int))) - 0))) (0 : Int)) (l := List.take (Int.toNat 0) (List.replicate (Int.toNat (w64 ((w64 (o4 + (p2.length : Int))) - 0))) (0 : Int))) (win_take win_all _) (by kernel_rfl) (by kernel_rfl) (by decide) (by kernel_rfl) (by kernel_rfl) (by kernel_rfl) (by kernel_rfl) (by kernel_rfl) (arg_win (e := 3) (off := 0) (L := p0) (ys := p0) win_all (holds_acc (hp := (H58_2 p0 p1 p2 o4)) (b := 1) (T := 3) (enc := e3) (L := p0) (by kernel_rfl)) (fun _ => rfl) (by kernel_rfl)) (cells_ok (fun _ => rfl)) (fun _ => rfl) (by first | omega | (simp only [List.length_append, List.length_cons, List.length_nil]; omega))) [25, 26, 27, 33] [0, 1, 2, 3, 5] (st 36 [(25, sv 0 3 3), (26, iv 3), (27, iv 0), (33, ownV 5 (List.length ((List.take (Int.toNat 0) (List.replicate (Int.toNat (w64 ((w64 (o4 + (p2.length : Int))) - 0))) (0 : Int))) ++ p0)))]) (H58_1 p0 p1 p2 o4) (TI.ra 1 [6, 25, 26, 27] (st 36 [(6, ownV 5 (List.length ((List.take (Int.toNat 0) (List.replicate (Int.toNat (w64 ((w64 (o4 + (p2.length : Int))) - 0))) (0 : Int))) ++ p0))), (25, sv 0 3 3), (26, iv 3), (27, iv 0)]) (TI.dn (NX.bk (NX.sq (TS.rg (TI.ra 2 [6, 25, 26, 27] (st 36 [(6, ownV 5 (List.length ((List.take (Int.toNat 0) (List.replicate (Int.toNat (w64 ((w64 (o4 + (p2.length : Int))) - 0))) (0 : Int))) ++ p0))), (25, sv 0 3 3), (26, iv 3), (27, iv 1)]) (TI.dn ?_)))))))
       refine Rd.again Wk.refl (TL.round (TS.sq (TS.rg (TI.ra 1 [6, 25, 26, 27, 28] (st 36 [(6, ownV 5 (List.length ((List.take (Int.toNat 0) (List.replicate (Int.toNat (w64 ((w64 (o4 + (p2.length : Int))) - 0))) (0 : Int))) ++ p0))), (25, sv 0 3 3), (26, iv 3), (27, iv 1), (28, .bool true)]) (TI.dn (NX.sq (TS.sq (TS.cdT (.tmp 28) (TS.sk ?_)))))))))
       refine NX.sq (TS.sq (TS.bk 3 (TS.sq (TS.rg (TI.ra 3 [6, 8, 25, 26, 27] (st 36 [(6, ownV 5 (List.length ((List.take (Int.toNat 0) (List.replicate (Int.toNat (w64 ((w64 (o4 + (p2.length : Int))) - 0))) (0 : Int))) ++ p0))), (8, sv 2 p1.length ANY), (25, sv 0 3 3), (26, iv 3), (27, iv 1)]) (TI.dn (NX.sq ?_)))))))
       obtain ⟨hg24, hF⟩ := of_guard hF
       obtain ⟨hg25, hF⟩ := of_guard hF
       refine TS.rg (TI.ra 2 [25, 26, 27, 31, 32] (st 36 [(25, sv 0 3 3), (26, iv 3), (27, iv 1), (31, ownV 5 (List.length ((List.take (Int.toNat 0) (List.replicate (Int.toNat (w64 ((w64 (o4 + (p2.length : Int))) - 0))) (0 : Int))) ++ p0))), (32, sv 2 p1.length ANY)]) ?_)
       refine TI.o { val := ownV 6 (List.length (((List.take (Int.toNat 0) (List.replicate (Int.toNat (w64 ((w64 (o4 + (p2.length : Int))) - 0))) (0 : Int))) ++ p0) ++ p1)), new := [.cells 3 (List.flatMap e3 (((List.take (Int.toNat 0) (List.replicate (Int.toNat (w64 ((w64 (o4 + (p2.length : Int))) - 0))) (0 : Int))) ++ p0) ++ p1))], upd := some (5, .dead) } (q_appO (P := Try.prog) (base := 4) (hp := (H58_1 p0 p1 p2 o4)) (n := 6) (s := 1) (enc := e3) (ts := #[30, 30]) (e := 3) (bytes := 8) (z := iv 0) (y := sv 2 p1.length ANY) (ys := p1) (b := 5) (l := (List.take (Int.toNat 0) (List.replicate (Int.toNat (w64 ((w64 (o4 + (p2.length : Int))) - 0))) (0 : Int))) ++ p0) (by kernel_rfl) (by kernel_rfl) (by decide) (by kernel_rfl) (by kernel_rfl) (by kernel_rfl) (by kernel_rfl) (by kernel_rfl) (arg_win (e := 3) (off := 0) (L := p1) (ys := p1) win_all (holds_acc (hp := (H58_1 p0 p1 p2 o4)) (b := 2) (T := 3) (enc := e3) (L := p1) (by kernel_rfl)) (fun _ => rfl) (by kernel_rfl)) (cells_ok (fun _ => rfl)) (fun _ => rfl) (by first | omega | (simp only [List.length_append, List.length_cons, List.length_nil]; omega))) [25, 26, 27, 33] [0, 1, 2, 3, 6] (st 36 [(25, sv 0 3 3), (26, iv 3), (27, iv 1), (33, ownV 6 (List.length (((List.take (Int.toNat 0) (List.replicate (Int.toNat (w64 ((w64 (o4 + (p2.length : Int))) - 0))) (0 : Int))) ++ p0) ++ p1)))]) (H58_0 p0 p1 p2 o4) (TI.ra 1 [6, 25, 26, 27] (st 36 [(6, ownV 6 (List.length (((List.take (Int.toNat 0) (List.replicate (Int.toNat (w64 ((w64 (o4 + (p2.length : Int))) - 0))) (0 : Int))) ++ p0) ++ p1))), (25, sv 0 3 3), (26, iv 3), (27, iv 1)]) (TI.dn (NX.bk (NX.sq (TS.rg (TI.ra 2 [6, 25, 26, 27] (st 36 [(6, ownV 6 (List.length (((List.take (Int.toNat 0) (List.replicate (Int.toNat (w64 ((w64 (o4 + (p2.length : Int))) - 0))) (0 : Int))) ++ p0) ++ p1))), (25, sv 0 3 3), (26, iv 3), (27, iv 2)]) (TI.dn ?_)))))))
       refine Rd.again Wk.refl (TL.round (TS.sq (TS.rg (TI.ra 1 [6, 25, 26, 27, 28] (st 36 [(6, ownV 6 (List.length (((List.take (Int.toNat 0) (List.replicate (Int.toNat (w64 ((w64 (o4 + (p2.length : Int))) - 0))) (0 : Int))) ++ p0) ++ p1))), (25, sv 0 3 3), (26, iv 3), (27, iv 2), (28, .bool true)]) (TI.dn (NX.sq (TS.sq (TS.cdT (.tmp 28) (TS.sk ?_)))))))))
       refine NX.sq (TS.sq (TS.bk 3 (TS.sq (TS.rg (TI.ra 3 [6, 8, 25, 26, 27] (st 36 [(6, ownV 6 (List.length (((List.take (Int.toNat 0) (List.replicate (Int.toNat (w64 ((w64 (o4 + (p2.length : Int))) - 0))) (0 : Int))) ++ p0) ++ p1))), (8, sv 3 p2.length ANY), (25, sv 0 3 3), (26, iv 3), (27, iv 2)]) (TI.dn (NX.sq ?_)))))))
       obtain ⟨hg26, hF⟩ := of_guard hF
       obtain ⟨hg27, hF⟩ := of_guard hF
       refine TS.rg (TI.ra 2 [25, 26, 27, 31, 32] (st 36 [(25, sv 0 3 3), (26, iv 3), (27, iv 2), (31, ownV 6 (List.length (((List.take (Int.toNat 0) (List.replicate (Int.toNat (w64 ((w64 (o4 + (p2.length : Int))) - 0))) (0 : Int))) ++ p0) ++ p1))), (32, sv 3 p2.length ANY)]) ?_)
       refine TI.o { val := ownV 7 (List.length ((((List.take (Int.toNat 0) (List.replicate (Int.toNat (w64 ((w64 (o4 + (p2.length : Int))) - 0))) (0 : Int))) ++ p0) ++ p1) ++ p2)), new := [.cells 3 (List.flatMap e3 ((((List.take (Int.toNat 0) (List.replicate (Int.toNat (w64 ((w64 (o4 + (p2.length : Int))) - 0))) (0 : Int))) ++ p0) ++ p1) ++ p2))], upd := some (6, .dead) } (q_appO (P := Try.prog) (base := 4) (hp := (H58_0 p0 p1 p2 o4)) (n := 7) (s := 1) (enc := e3) (ts := #[30, 30]) (e := 3) (bytes := 8) (z := iv 0) (y := sv 3 p2.length ANY) (ys := p2) (b := 6) (l := ((List.take (Int.toNat 0) (List.replicate (Int.toNat (w64 ((w64 (o4 + (p2.length : Int))) - 0))) (0 : Int))) ++ p0) ++ p1) (by kernel_rfl) (by kernel_rfl) (by decide) (by kernel_rfl) (by kernel_rfl) (by kernel_rfl) (by kernel_rfl) (by kernel_rfl) (arg_win (e := 3) (off := 0) (L := p2) (ys := p2) win_all (holds_acc (hp := (H58_0 p0 p1 p2 o4)) (b := 3) (T := 3) (enc := e3) (L := p2) (by kernel_rfl)) (fun _ => rfl) (by kernel_rfl)) (cells_ok (fun _ => rfl)) (fun _ => rfl) (by first | omega | (simp only [List.length_append, List.length_cons, List.length_nil]; omega))) [25, 26, 27, 33] [0, 1, 2, 3, 7] (st 36 [(25, sv 0 3 3), (26, iv 3), (27, iv 2), (33, ownV 7 (List.length ((((List.take (Int.toNat 0) (List.replicate (Int.toNat (w64 ((w64 (o4 + (p2.length : Int))) - 0))) (0 : Int))) ++ p0) ++ p1) ++ p2)))]) [cl 30 [sv 1 p0.length ANY, sv 2 p1.length ANY, sv 3 p2.length ANY], ab 3 e3 p0, ab 3 e3 p1, ab 3 e3 p2, .dead, .dead, .dead, .cells 3 (List.flatMap e3 ((((List.take (Int.toNat 0) (List.replicate (Int.toNat (w64 ((w64 (o4 + (p2.length : Int))) - 0))) (0 : Int))) ++ p0) ++ p1) ++ p2))] (TI.ra 1 [6, 25, 26, 27] (st 36 [(6, ownV 7 (List.length ((((List.take (Int.toNat 0) (List.replicate (Int.toNat (w64 ((w64 (o4 + (p2.length : Int))) - 0))) (0 : Int))) ++ p0) ++ p1) ++ p2))), (25, sv 0 3 3), (26, iv 3), (27, iv 2)]) (TI.dn (NX.bk (NX.sq (TS.rg (TI.ra 2 [6, 25, 26, 27] (st 36 [(6, ownV 7 (List.length ((((List.take (Int.toNat 0) (List.replicate (Int.toNat (w64 ((w64 (o4 + (p2.length : Int))) - 0))) (0 : Int))) ++ p0) ++ p1) ++ p2))), (25, sv 0 3 3), (26, iv 3), (27, iv 3)]) (TI.dn ?_)))))))
       refine Rd.again Wk.refl (TL.round (TS.sq (TS.rg (TI.ra 1 [6, 25, 26, 27, 28] (st 36 [(6, ownV 7 (List.length ((((List.take (Int.toNat 0) (List.replicate (Int.toNat (w64 ((w64 (o4 + (p2.length : Int))) - 0))) (0 : Int))) ++ p0) ++ p1) ++ p2))), (25, sv 0 3 3), (26, iv 3), (27, iv 3), (28, .bool false)]) (TI.dn (NX.sq (TS.sq (TS.cdF (.tmp 28) (TS.ex 2 ?_)))))))))
       refine NX.sqX ?_
       refine Rd.out (by simp) (NX.bkX (NX.sq (TS.sq (TS.rg (TI.ra 2 [2] (st 36 [(2, ownV 7 (List.length ((((List.take (Int.toNat 0) (List.replicate (Int.toNat (w64 ((w64 (o4 + (p2.length : Int))) - 0))) (0 : Int))) ++ p0) ++ p1) ++ p2)))]) (TI.dn (NX.sq (TS.rt ?_))))))))
       have hF := sj hF
       subst hF
       exact ⟨.inr rfl, rfl, ownV 7 (List.length ((((List.take (Int.toNat 0) (List.replicate (Int.toNat (w64 ((w64 (o4 + (p2.length : Int))) - 0))) (0 : Int))) ++ p0) ++ p1) ++ p2)), by kernel_rfl, WkV.made (L := 4) (f := [7]) (by decide) (by decide) rfl (.cons (At.accU (by kernel_rfl) rfl (fun _ => rfl)) (.nil _)) (Rn.ownA (nl rfl) rfl (by first | rfl | simp only [List.length_set]))⟩
     replace hF := of_neg hF hc19
     refine TS.sk (NX.sq (TS.sq (TS.rg (TI.ra 2 [4] (st 27 [(4, .slice none 0 0)]) (TI.dn (NX.sq (TS.rt ?_)))))))
     refine ⟨.inr rfl, rfl, .slice none 0 0, .slice none 0 0, (H58_5 p0 p1 p2), by kernel_rfl, WkV.refl, (TI.rn 0 [0, 24] [0, 1, 2, 3] (st 36 [(0, sv 0 3 3), (24, .slice none 0 0)]) (H58_5 p0 p1 p2) (TI.ra 1 [0, 6] (st 36 [(0, sv 0 3 3), (6, .slice none 0 0)]) (TI.dn (NX.sq (TS.sq (TS.sq (TS.rg (TI.ra 3 [6, 25, 26, 27] (st 36 [(6, .slice none 0 0), (25, sv 0 3 3), (26, iv 3), (27, iv 0)]) ?_))))))))⟩
     refine TI.dn (NX.sq (TS.bk 2 (TS.lp (TL.round (TS.sq (TS.rg (TI.ra 1 [6, 25, 26, 27, 28] (st 36 [(6, .slice none 0 0), (25, sv 0 3 3), (26, iv 3), (27, iv 0), (28, .bool true)]) (TI.dn ?_))))))))
     refine NX.sq (TS.sq (TS.cdT (.tmp 28) (TS.sk (NX.sq (TS.sq (TS.bk 3 (TS.sq (TS.rg ?_))))))))
     refine TI.ra 3 [6, 8, 25, 26, 27] (st 36 [(6, .slice none 0 0), (8, sv 1 p0.length ANY), (25, sv 0 3 3), (26, iv 3), (27, iv 0)]) (TI.dn (NX.sq ?_))
     obtain ⟨hg28, hF⟩ := of_guard hF
     refine TS.rg (TI.ra 2 [25, 26, 27, 31, 32] (st 36 [(25, sv 0 3 3), (26, iv 3), (27, iv 0), (31, .slice none 0 0), (32, sv 1 p0.length ANY)]) ?_)
     refine TI.accN (s := 1) (enc := e3) (ts := #[30, 30]) (e := 3) (bytes := 8) (z := iv 0) (y := sv 1 p0.length ANY) (ys := p0) (by kernel_rfl) (by kernel_rfl) (by kernel_rfl) (by kernel_rfl) (by kernel_rfl) (by kernel_rfl) (arg_win (e := 3) (off := 0) (L := p0) (ys := p0) win_all (holds_acc (hp := (H58_5 p0 p1 p2)) (b := 1) (T := 3) (enc := e3) (L := p0) (by kernel_rfl)) (fun _ => rfl) (by kernel_rfl)) (by first | omega | (simp only [List.length_append, List.length_cons, List.length_nil]; omega)) [25, 26, 27, 33] [0, 1, 2, 3, 4] (a2 := (st 36 [(25, sv 0 3 3), (26, iv 3), (27, iv 0), (33, accV 4 p0.length)])) (h2 := (H58_4 p0 p1 p2)) (by kernel_rfl) (TI.ra 1 [6, 25, 26, 27] (st 36 [(6, accV 4 p0.length), (25, sv 0 3 3), (26, iv 3), (27, iv 0)]) (TI.dn (NX.bk (NX.sq (TS.rg (TI.ra 2 [6, 25, 26, 27] (st 36 [(6, accV 4 p0.length), (25, sv 0 3 3), (26, iv 3), (27, iv 1)]) (TI.dn ?_)))))))
     refine Rd.again Wk.refl (TL.round (TS.sq (TS.rg (TI.ra 1 [6, 25, 26, 27, 28] (st 36 [(6, accV 4 p0.length), (25, sv 0 3 3), (26, iv 3), (27, iv 1), (28, .bool true)]) (TI.dn (NX.sq (TS.sq (TS.cdT (.tmp 28) (TS.sk ?_)))))))))
     refine NX.sq (TS.sq (TS.bk 3 (TS.sq (TS.rg (TI.ra 3 [6, 8, 25, 26, 27] (st 36 [(6, accV 4 p0.length), (8, sv 2 p1.length ANY), (25, sv 0 3 3), (26, iv 3), (27, iv 1)]) (TI.dn (NX.sq ?_)))))))
     obtain ⟨hg29, hF⟩ := of_guard hF
     refine TS.rg (TI.ra 2 [25, 26, 27, 31, 32] (st 36 [(25, sv 0 3 3), (26, iv 3), (27, iv 1), (31, accV 4 p0.length), (32, sv 2 p1.length ANY)]) ?_)
     refine TI.accL (l := p0) (b := 4) (s := 1) (enc := e3) (ts := #[30, 30]) (e := 3) (bytes := 8) (z := iv 0) (y := sv 2 p1.length ANY) (ys := p1) (by kernel_rfl) (by kernel_rfl) (by decide) (by kernel_rfl) (by kernel_rfl) (by kernel_rfl) (by kernel_rfl) (by kernel_rfl) (arg_win (e := 3) (off := 0) (L := p1) (ys := p1) win_all (holds_acc (hp := (H58_4 p0 p1 p2)) (b := 2) (T := 3) (enc := e3) (L := p1) (by kernel_rfl)) (fun _ => rfl) (by kernel_rfl)) (cells_ok (fun _ => rfl)) (fun _ => rfl) (by first | omega | (simp only [List.length_append, List.length_cons, List.length_nil]; omega)) [25, 26, 27, 33] [0, 1, 2, 3, 5] (a2 := (st 36 [(25, sv 0 3 3), (26, iv 3), (27, iv 1), (33, accV 5 (List.length (p0 ++ p1)))])) (h2 := (H58_3 p0 p1 p2)) (by kernel_rfl) (TI.ra 1 [6, 25, 26, 27] (st 36 [(6, accV 5 (List.length (p0 ++ p1))), (25, sv 0 3 3), (26, iv 3), (27, iv 1)]) (TI.dn (NX.bk (NX.sq (TS.rg (TI.ra 2 [6, 25, 26, 27] (st 36 [(6, accV 5 (List.length (p0 ++ p1))), (25, sv 0 3 3), (26, iv 3), (27, iv 2)]) (TI.dn ?_)))))))
     refine Rd.again Wk.refl (TL.round (TS.sq (TS.rg (TI.ra 1 [6, 25, 26, 27, 28] (st 36 [(6, accV 5 (List.length (p0 ++ p1))), (25, sv 0 3 3), (26, iv 3), (27, iv 2), (28, .bool true)]) (TI.dn (NX.sq (TS.sq (TS.cdT (.tmp 28) (TS.sk ?_)))))))))
     refine NX.sq (TS.sq (TS.bk 3 (TS.sq (TS.rg (TI.ra 3 [6, 8, 25, 26, 27] (st 36 [(6, accV 5 (List.length (p0 ++ p1))), (8, sv 3 p2.length ANY), (25, sv 0 3 3), (26, iv 3), (27, iv 2)]) (TI.dn (NX.sq ?_)))))))
     obtain ⟨hg30, hF⟩ := of_guard hF
     obtain ⟨hg31, hF⟩ := of_guard hF
     refine TS.rg (TI.ra 2 [25, 26, 27, 31, 32] (st 36 [(25, sv 0 3 3), (26, iv 3), (27, iv 2), (31, accV 5 (List.length (p0 ++ p1))), (32, sv 3 p2.length ANY)]) ?_)
     refine TI.accL (l := p0 ++ p1) (b := 5) (s := 1) (enc := e3) (ts := #[30, 30]) (e := 3) (bytes := 8) (z := iv 0) (y := sv 3 p2.length ANY) (ys := p2) (by kernel_rfl) (by kernel_rfl) (by decide) (by kernel_rfl) (by kernel_rfl) (by kernel_rfl) (by kernel_rfl) (by kernel_rfl) (arg_win (e := 3) (off := 0) (L := p2) (ys := p2) win_all (holds_acc (hp := (H58_3 p0 p1 p2)) (b := 3) (T := 3) (enc := e3) (L := p2) (by kernel_rfl)) (fun _ => rfl) (by kernel_rfl)) (cells_ok (fun _ => rfl)) (fun _ => rfl) (by first | omega | (simp only [List.length_append, List.length_cons, List.length_nil]; omega)) [25, 26, 27, 33] [0, 1, 2, 3, 6] (a2 := (st 36 [(25, sv 0 3 3), (26, iv 3), (27, iv 2), (33, accV 6 (List.length ((p0 ++ p1) ++ p2)))])) (h2 := [cl 30 [sv 1 p0.length ANY, sv 2 p1.length ANY, sv 3 p2.length ANY], ab 3 e3 p0, ab 3 e3 p1, ab 3 e3 p2, .dead, .dead, accB 3 (List.length ((p0 ++ p1) ++ p2)) (List.flatMap e3 ((p0 ++ p1) ++ p2))]) (by kernel_rfl) (TI.ra 1 [6, 25, 26, 27] (st 36 [(6, accV 6 (List.length ((p0 ++ p1) ++ p2))), (25, sv 0 3 3), (26, iv 3), (27, iv 2)]) (TI.dn (NX.bk (NX.sq (TS.rg (TI.ra 2 [6, 25, 26, 27] (st 36 [(6, accV 6 (List.length ((p0 ++ p1) ++ p2))), (25, sv 0 3 3), (26, iv 3), (27, iv 3)]) (TI.dn ?_)))))))
     refine Rd.again Wk.refl (TL.round (TS.sq (TS.rg (TI.ra 1 [6, 25, 26, 27, 28] (st 36 [(6, accV 6 (List.length ((p0 ++ p1) ++ p2))), (25, sv 0 3 3), (26, iv 3), (27, iv 3), (28, .bool false)]) (TI.dn (NX.sq (TS.sq (TS.cdF (.tmp 28) (TS.ex 2 ?_)))))))))
     refine NX.sqX ?_
     refine Rd.out (by simp) (NX.bkX (NX.sq (TS.sq (TS.rg (TI.ra 2 [2] (st 36 [(2, accV 6 (List.length ((p0 ++ p1) ++ p2)))]) (TI.dn (NX.sq (TS.rt ?_))))))))
     have hF := sj hF
     subst hF
     exact ⟨.inr rfl, rfl, accV 6 (List.length ((p0 ++ p1) ++ p2)), by kernel_rfl, WkV.made (L := 4) (f := [6]) (by decide) (by decide) rfl (.ac (.nil _)) (accAE (nl rfl) rfl (by first | rfl | simp only [List.length_set]))⟩
    clear hF
    have hF := hm14
    clear hm14
    refine TS.start ?_
    refine TS.cd (.tmp 6) (decide ((w64 (o4 + (p2.length : Int))) < 0)) (fun hc32 => ?_) (fun hc32 => ?_)
    · replace hF := of_pos hF hc32
      cases hF
    replace hF := of_neg hF hc32
    refine TS.sk ?_
    have hF := sj hF
    subst hF
    exact TS.weak (by exact (Wk.an [] (.lt (.sl (.sl (.sl .nil))) (.ac (.ac (.ac (.nil _))))) [.slice none 0 0, iv (w64 (o4 + (p2.length : Int)))] (.fl (.fl .nil)))) hK
   clear hF
   have hF := hm11
   clear hm11
   refine TS.start ?_
   refine TS.cd (.tmp 20) (decide ((w64 (o4 + (p2.length : Int))) < 0)) (fun hc33 => ?_) (fun hc33 => ?_)
   · replace hF := of_pos hF hc33
     cases hF
   replace hF := of_neg hF hc33
   refine TS.sk ?_
   have hF := sj hF
   subst hF
   exact TS.weak (by exact (Wk.an [] (.lt (.sl (.sl (.sl .nil))) (.ac (.ac (.ac (.nil _))))) [sv 0 3 3, iv (w64 (o4 + (p2.length : Int))), sv 0 3 3, iv 3, iv 2] (.sl (.fl (.sl (.fl (.fl .nil))))))) hK
  clear hF
  have hF := hm8
  clear hm8
  refine TS.start ?_
  refine TS.cd (.tmp 20) (decide (o4 < 0)) (fun hc34 => ?_) (fun hc34 => ?_)
  · replace hF := of_pos hF hc34
    cases hF
  replace hF := of_neg hF hc34
  refine TS.sk ?_
  have hF := sj hF
  subst hF
  exact TS.weak (by exact (Wk.an [] (.lt (.sl (.sl (.sl .nil))) (.ac (.ac (.ac (.nil _))))) [sv 0 3 3, iv o4, sv 0 3 3, iv 3, iv 1] (.sl (.fl (.sl (.fl (.fl .nil))))))) hK
 clear hF
 have hF := hm3
 clear hm3
 refine TS.start ?_
 refine TS.cd (.tmp 20) (decide ((w64 (0 + (p0.length : Int))) < 0)) (fun hc35 => ?_) (fun hc35 => ?_)
 · replace hF := of_pos hF hc35
   cases hF
 replace hF := of_neg hF hc35
 refine TS.sk ?_
 have hF := sj hF
 subst hF
 exact TS.weak (by exact (Wk.an [] (.lt (.sl (.sl (.sl .nil))) (.ac (.ac (.ac (.nil _))))) [sv 0 3 3, iv (w64 (0 + (p0.length : Int))), sv 0 3 3, iv 3, iv 0] (.sl (.fl (.sl (.fl (.fl .nil))))))) hK
theorem C58 (p0 p1 p2 r : List Int) (hF : F58 p0 p1 p2 = some r) : PureSim Try.prog 58 [sv 0 3 3] (H58_5 p0 p1 p2) (V58 4 r) (N58 4 r) :=
 PureSim.of_Fin Try.func58 (c := c58) (by kernel_rfl) (by kernel_rfl) 4 rfl [0] [0, 1, 2, 3] (by kernel_rfl) (B58 p0 p1 p2 r hF)
noncomputable def c29 : Code := Try.f29.code
def S29_0 (r6 : Int) (v28 v29 : List Int) : CAct := (st 81 [(6, iv r6), (9, sv 1 (List.length (List.take (Int.toNat (w64 ((v28.length : Int) - 1))) v28)) ANY), (10, sv 2 (List.length (List.take (Int.toNat (w64 ((v29.length : Int) - 1))) v29)) ANY), (62, .bool true), (63, sv 1 v28.length ANY), (64, sv 1 v28.length ANY), (65, iv (v28.length : Int)), (66, iv (w64 ((v28.length : Int) - 1))), (67, sv 1 (List.length (List.take (Int.toNat (w64 ((v28.length : Int) - 1))) v28)) ANY), (68, sv 2 v29.length ANY), (69, sv 2 v29.length ANY), (70, iv (v29.length : Int)), (71, iv (w64 ((v29.length : Int) - 1))), (72, sv 2 (List.length (List.take (Int.toNat (w64 ((v29.length : Int) - 1))) v29)) ANY)])
def S29_1 (r6 : Int) (v28 v29 : List Int) : CAct := (st 81 [(6, iv r6), (9, sv 1 (List.length (List.take (Int.toNat (w64 ((v28.length : Int) - 1))) v28)) ANY), (10, sv 2 v29.length ANY), (62, .bool true), (63, sv 1 v28.length ANY), (64, sv 1 v28.length ANY), (65, iv (v28.length : Int)), (66, iv (w64 ((v28.length : Int) - 1))), (67, sv 1 (List.length (List.take (Int.toNat (w64 ((v28.length : Int) - 1))) v28)) ANY), (68, sv 2 v29.length ANY), (69, sv 2 v29.length ANY), (70, iv (v29.length : Int)), (71, iv (w64 ((v29.length : Int) - 1))), (72, sv 2 (List.length (List.take (Int.toNat (w64 ((v29.length : Int) - 1))) v29)) ANY)])
def S29_2 (v67 : List Int) (v65 v66 o78 o81 : Int) : CAct := (st 28 [(0, sv 2 v67.length ANY), (2, iv v65), (3, iv v66), (9, .bool (decide (v65 < v66))), (14, sv 2 v67.length ANY), (15, iv v65), (16, sv 2 v67.length ANY), (17, iv v66), (18, sv 2 v67.length ANY), (19, iv v66), (20, .pointer (some ⟨2, 0 + (Int.toNat v66) * 1, none⟩)), (21, iv o78), (22, sv 2 v67.length ANY), (23, iv v65), (24, .pointer (some ⟨2, 0 + (Int.toNat v65) * 1, none⟩)), (25, iv o81), (26, .pointer (some ⟨2, 0 + (Int.toNat v65) * 1, none⟩)), (27, .pointer (some ⟨2, 0 + (Int.toNat v66) * 1, none⟩))])
def S29_3 (r6 : Int) (r12 : I2 × I2) (p0 p1 : Int) (p2 : List I2) (o10 : I2) : CAct := (st 81 [(1, pt 1 0), (5, .map (some 2)), (6, iv r6), (7, pt 3 0), (8, pt 4 0), (22, .bool (decide (r6 < 0))), (23, .tuple ⟨[ag [iv r12.1.1, iv r12.1.2], ag [iv r12.2.1, iv r12.2.2]]⟩), (24, ag [iv p0, iv p1, sv 0 p2.length ANY]), (25, pt 1 2), (26, sv 0 p2.length ANY), (27, iv r6), (28, .pointer (some ⟨0, 0 + (Int.toNat r6) * 2, none⟩)), (29, .pointer (some ⟨0, 0 + (Int.toNat r6) * 2, none⟩)), (30, iv o10.1), (31, .tuple ⟨[ag [iv r12.1.1, iv r12.1.2], ag [iv r12.2.1, iv r12.2.2]]⟩), (32, ag [iv r12.1.1, iv r12.1.2]), (33, ag [iv r12.2.1, iv r12.2.2])])
def S29_4 (v67 : List Int) (v65 v66 o78 o81 : Int) : CAct := (st 28 [(0, sv 2 v67.length ANY), (2, iv v65), (3, iv v66), (9, .bool (decide (v65 < v66))), (14, sv 2 v67.length ANY), (15, iv v65), (16, sv 2 v67.length ANY), (17, iv v66), (18, sv 2 v67.length ANY), (19, iv v66), (20, .pointer (some ⟨2, 0 + (Int.toNat v66) * 1, none⟩)), (21, iv o78), (22, sv 2 v67.length ANY), (23, iv v65), (24, .pointer (some ⟨2, 0 + (Int.toNat v65) * 1, none⟩)), (25, iv o81), (26, .pointer (some ⟨2, 0 + (Int.toNat v65) * 1, none⟩))])
def S29_5 (v67 : List Int) (v65 v66 o78 o81 : Int) : CAct := (st 28 [(0, sv 2 v67.length ANY), (2, iv v65), (3, iv v66), (9, .bool (decide (v65 < v66))), (14, sv 2 v67.length ANY), (15, iv v65), (16, sv 2 v67.length ANY), (17, iv v66), (18, sv 2 v67.length ANY), (19, iv v66), (20, .pointer (some ⟨2, 0 + (Int.toNat v66) * 1, none⟩)), (21, iv o78), (22, sv 2 v67.length ANY), (23, iv v65), (24, .pointer (some ⟨2, 0 + (Int.toNat v65) * 1, none⟩)), (25, iv o81)])
def S29_6 (v67 : List Int) (v65 v66 o78 : Int) : CAct := (st 28 [(0, sv 2 v67.length ANY), (2, iv v65), (3, iv v66), (9, .bool (decide (v65 < v66))), (14, sv 2 v67.length ANY), (15, iv v65), (16, sv 2 v67.length ANY), (17, iv v66), (18, sv 2 v67.length ANY), (19, iv v66), (20, .pointer (some ⟨2, 0 + (Int.toNat v66) * 1, none⟩)), (21, iv o78), (22, sv 2 v67.length ANY), (23, iv v65), (24, .pointer (some ⟨2, 0 + (Int.toNat v65) * 1, none⟩))])
def S29_7 (v67 : List Int) (v65 v66 o78 : Int) : CAct := (st 28 [(0, sv 2 v67.length ANY), (2, iv v65), (3, iv v66), (9, .bool (decide (v65 < v66))), (14, sv 2 v67.length ANY), (15, iv v65), (16, sv 2 v67.length ANY), (17, iv v66), (18, sv 2 v67.length ANY), (19, iv v66), (20, .pointer (some ⟨2, 0 + (Int.toNat v66) * 1, none⟩)), (21, iv o78), (22, sv 2 v67.length ANY), (23, iv v65)])
def S29_8 (r6 p0 p1 : Int) (p2 : List I2) (o10 : I2) (r12 : I2 × I2) : CAct := (st 81 [(1, pt 1 0), (5, .map (some 2)), (6, iv r6), (22, .bool (decide (r6 < 0))), (24, ag [iv p0, iv p1, sv 0 p2.length ANY]), (25, pt 1 2), (26, sv 0 p2.length ANY), (27, iv r6), (28, .pointer (some ⟨0, 0 + (Int.toNat r6) * 2, none⟩)), (29, .pointer (some ⟨0, 0 + (Int.toNat r6) * 2, none⟩)), (30, iv o10.1), (31, .tuple ⟨[ag [iv r12.1.1, iv r12.1.2], ag [iv r12.2.1, iv r12.2.2]]⟩)])
def S29_9 (v67 : List Int) (v65 v66 o78 : Int) : CAct := (st 28 [(0, sv 2 v67.length ANY), (2, iv v65), (3, iv v66), (9, .bool (decide (v65 < v66))), (14, sv 2 v67.length ANY), (15, iv v65), (16, sv 2 v67.length ANY), (17, iv v66), (18, sv 2 v67.length ANY), (19, iv v66), (20, .pointer (some ⟨2, 0 + (Int.toNat v66) * 1, none⟩)), (21, iv o78)])
def S29_10 (v67 : List Int) (v65 v66 : Int) : CAct := (st 28 [(0, sv 2 v67.length ANY), (2, iv v65), (3, iv v66), (9, .bool (decide (v65 < v66))), (14, sv 2 v67.length ANY), (15, iv v65), (16, sv 2 v67.length ANY), (17, iv v66), (18, sv 2 v67.length ANY), (19, iv v66), (20, .pointer (some ⟨2, 0 + (Int.toNat v66) * 1, none⟩))])
def S29_11 (r6 p0 p1 : Int) (p2 : List I2) (o10 : I2) : CAct := (st 81 [(1, pt 1 0), (5, .map (some 2)), (6, iv r6), (22, .bool (decide (r6 < 0))), (24, ag [iv p0, iv p1, sv 0 p2.length ANY]), (25, pt 1 2), (26, sv 0 p2.length ANY), (27, iv r6), (28, .pointer (some ⟨0, 0 + (Int.toNat r6) * 2, none⟩)), (29, .pointer (some ⟨0, 0 + (Int.toNat r6) * 2, none⟩)), (30, iv o10.1)])
def S29_12 (r6 p0 p1 : Int) (p2 : List I2) : CAct := (st 81 [(1, pt 1 0), (5, .map (some 2)), (6, iv r6), (22, .bool (decide (r6 < 0))), (24, ag [iv p0, iv p1, sv 0 p2.length ANY]), (25, pt 1 2), (26, sv 0 p2.length ANY), (27, iv r6), (28, .pointer (some ⟨0, 0 + (Int.toNat r6) * 2, none⟩)), (29, .pointer (some ⟨0, 0 + (Int.toNat r6) * 2, none⟩))])
def S29_13 (r6 : Int) (v28 v29 : List Int) : CAct := (st 81 [(6, iv r6), (9, sv 1 v28.length ANY), (10, sv 2 v29.length ANY), (40, sv 1 v28.length ANY), (41, iv (v28.length : Int)), (42, .bool true), (43, .bool true), (44, sv 2 v29.length ANY), (45, iv (v29.length : Int))])
def S29_14 (v67 : List Int) (v65 v66 : Int) : CAct := (st 28 [(0, sv 2 v67.length ANY), (2, iv v65), (3, iv v66), (9, .bool (decide (v65 < v66))), (14, sv 2 v67.length ANY), (15, iv v65), (16, sv 2 v67.length ANY), (17, iv v66), (18, sv 2 v67.length ANY), (19, iv v66)])
def S29_15 (r6 p0 p1 : Int) (p2 : List I2) : CAct := (st 81 [(1, pt 1 0), (5, .map (some 2)), (6, iv r6), (22, .bool (decide (r6 < 0))), (24, ag [iv p0, iv p1, sv 0 p2.length ANY]), (25, pt 1 2), (26, sv 0 p2.length ANY), (27, iv r6), (28, .pointer (some ⟨0, 0 + (Int.toNat r6) * 2, none⟩))])
def S29_16 (r6 p0 p1 : Int) (p2 : List I2) : CAct := (st 81 [(1, pt 1 0), (5, .map (some 2)), (6, iv r6), (22, .bool (decide (r6 < 0))), (24, ag [iv p0, iv p1, sv 0 p2.length ANY]), (25, pt 1 2), (26, sv 0 p2.length ANY), (27, iv r6)])
def S29_17 (r6 : Int) (v28 v29 : List Int) : CAct := (st 81 [(6, iv r6), (9, sv 1 v28.length ANY), (10, sv 2 v29.length ANY), (40, sv 1 v28.length ANY), (41, iv (v28.length : Int))])
def H29_18 (p2 : List I2) (p0 p1 : Int) (r4 : List (I2 × PL)) (r12 : I2 × I2) : List Blk := [ab 57 e57 p2, cl 24 [iv p0, iv p1, sv 0 p2.length ANY], mb 83 u83 u85 r4, cl 83 [iv r12.1.1, iv r12.1.2], cl 83 [iv 0, iv 0]]
def H29_19 (p2 : List I2) (r4 : List (I2 × PL)) (r12 : I2 × I2) (r14 : List Int) : List Blk := [ab 57 e57 p2, .dead, mb 83 u83 u85 r4, cl 83 [iv r12.1.1, iv r12.1.2], cl 83 [iv r12.2.1, iv r12.2.2], ab 3 e3 r14]
def H29_20 (p2 : List I2) (r56 : (List Int) × (List Int)) (v67 : List Int) (v65 o78 : Int) : List Blk := [ab 57 e57 p2, ab 3 e3 r56.1, .cells 3 (List.flatMap e3 (List.set v67 (Int.toNat v65) o78))]
def H29_21 (p2 : List I2) (p0 p1 : Int) (r4 : List (I2 × PL)) : List Blk := [ab 57 e57 p2, cl 24 [iv p0, iv p1, sv 0 p2.length ANY], mb 83 u83 u85 r4]
def H29_22 (p2 : List I2) (r4 : List (I2 × PL)) (r12 : I2 × I2) : List Blk := [ab 57 e57 p2, .dead, mb 83 u83 u85 r4, cl 83 [iv r12.1.1, iv r12.1.2], cl 83 [iv r12.2.1, iv r12.2.2]]
def S29_23 (r6 : Int) (v28 v29 : List Int) : CAct := (st 81 [(6, iv r6), (9, sv 1 v28.length ANY), (10, sv 2 v29.length ANY), (62, .bool false)])
def H29_24 (p2 : List I2) (r56 : (List Int) × (List Int)) (v67 : List Int) : List Blk := [ab 57 e57 p2, ab 3 e3 r56.1, ab 3 e3 v67]
def H29_25 (p2 : List I2) (r56 : (List Int) × (List Int)) (r83 : List Int) : List Blk := [ab 57 e57 p2, ab 3 e3 r56.1, ab 3 e3 r83]
def H29_26 (p2 : List I2) (v28 v29 : List Int) : List Blk := [ab 57 e57 p2, ab 3 e3 v28, ab 3 e3 v29]
def S29_27 (r56 : (List Int) × (List Int)) : CAct := (st 28 [(0, sv 2 r56.2.length ANY), (2, iv 0), (3, iv (w64 ((r56.2.length : Int) - 1)))])
noncomputable def c29f57 : Code := Try.f57.code
def F29l0 (p2 : List I2) (r6 : Int) (v28 v29 : List Int) : Option ((List Int) × (List Int)) :=
 (
  if decide ((v28.length : Int) > 0) then
   if decide ((v29.length : Int) > 0) then
    if (0 : Int) ≤ w64 ((v28.length : Int) - 1) ∧ w64 ((v28.length : Int) - 1) < (v28.length : Int) then
     some (List.getD v28 (Int.toNat (w64 ((v28.length : Int) - 1))) 0) >>= fun o47 =>
     if (0 : Int) ≤ w64 ((v29.length : Int) - 1) ∧ w64 ((v29.length : Int) - 1) < (v29.length : Int) then
      some (List.getD v29 (Int.toNat (w64 ((v29.length : Int) - 1))) 0) >>= fun o50 =>
      some (o47 == o50)
     else none
    else none
   else
    some (false)
  else
   some (false)
 : Option Bool) >>= fun m52 =>
 if m52 then
  if (0 : Int) ≤ w64 ((v28.length : Int) - 1) ∧ w64 ((v28.length : Int) - 1) ≤ (v28.length : Int) then
   if (0 : Int) ≤ w64 ((v29.length : Int) - 1) ∧ w64 ((v29.length : Int) - 1) ≤ (v29.length : Int) then
    F29l0 p2 r6 (List.take (Int.toNat (w64 ((v28.length : Int) - 1))) v28) (List.take (Int.toNat (w64 ((v29.length : Int) - 1))) v29)
   else none
  else none
 else
  some (v28, v29)
 partial_fixpoint
def F29l1 (p2 : List I2) (r56 : (List Int) × (List Int)) (v65 v66 : Int) (v67 : List Int) : Option (List Int) :=
 if decide (v65 < v66) then
  if (0 : Int) ≤ v66 ∧ v66 < (v67.length : Int) then
   some (List.getD v67 (Int.toNat v66) 0) >>= fun o78 =>
   if (0 : Int) ≤ v65 ∧ v65 < (v67.length : Int) then
    some (List.getD v67 (Int.toNat v65) 0) >>= fun o81 =>
    F29l1 p2 r56 (w64 (v65 + 1)) (w64 (v66 - 1)) (List.set (List.set v67 (Int.toNat v65) o78) (Int.toNat v66) o81)
   else none
  else none
 else
  some v67
 partial_fixpoint
def F29 (p0 p1 : Int) (p2 : List I2) : Option ((List Int) × Int) :=
 F23 p0 p1 p2 >>= fun r1 =>
 if r1 != 0 then
  some ([], r1)
 else
  F49 p0 p1 p2 >>= fun r4 =>
  F54 p0 p1 p2 r4 >>= fun r6 =>
  if decide (r6 < 0) then
   some ([], 6)
  else
   if (0 : Int) ≤ r6 ∧ r6 < (p2.length : Int) then
    some (List.getD p2 (Int.toNat r6) (0, 0)) >>= fun o10 =>
    F55 p0 p1 p2 o10.1 >>= fun r12 =>
    F56 r4 r12.1.1 r12.1.2 >>= fun r14 =>
    F56 r4 r12.2.1 r12.2.2 >>= fun r16 =>
    F29l0 p2 r6 r14 r16 >>= fun r56 =>
    F29l1 p2 r56 0 (w64 ((r56.2.length : Int) - 1)) r56.2 >>= fun r83 =>
    if List.length r83 = List.length r56.2 then
     F58 ([r6]) r56.1 r83 >>= fun r86 =>
     some (r86, 0)
    else none
   else none
def V29 (b : Nat) (r : (List Int) × Int) : Value := .tuple ⟨[.slice (some ⟨b + 0, 0, none⟩) r.1.length ANY, iv r.2]⟩
def N29 (b : Nat) (r : (List Int) × Int) : List Blk := [ab 3 e3 r.1]
def P29l0 (p2 : List I2) (r6 : Int) (r : (List Int) × (List Int)) : Post := fun e a h => e = .exit 0 ∧ Wk Try.prog 1 1 a h (st 81 [(6, iv r6), (9, sv 1 r.1.length ANY), (10, sv 2 r.2.length ANY)]) [ab 57 e57 p2, ab 3 e3 r.1, ab 3 e3 r.2]
theorem L29l0 (p2 : List I2) (r6 : Int) (v28 v29 : List Int) (r : (List Int) × (List Int)) (hF : F29l0 p2 r6 v28 v29 = some r) : TL Try.prog 1 1 c29.s2.s2.s2.s2.s2.s2.s2.s1.bd.bd (st 81 [(6, iv r6), (9, sv 1 v28.length ANY), (10, sv 2 v29.length ANY)]) (H29_26 p2 v28 v29) (P29l0 p2 r6 r) := by
 refine F29l0.partial_correctness p2 r6 (motive := fun v28 v29 r => TL Try.prog 1 1 c29.s2.s2.s2.s2.s2.s2.s2.s1.bd.bd (st 81 [(6, iv r6), (9, sv 1 v28.length ANY), (10, sv 2 v29.length ANY)]) (H29_26 p2 v28 v29) (P29l0 p2 r6 r)) ?_ v28 v29 r hF
 clear hF r v28 v29
 intro again ih v28 v29 r hF
 refine TL.round (TS.sq (TS.sq ?_))
 obtain ⟨m52, hm55, hF⟩ := of_do hF
 have hK : NX Try.prog 1 1 [.sq c29.s2.s2.s2.s2.s2.s2.s2.s1.bd.bd.s1.s2, .sq c29.s2.s2.s2.s2.s2.s2.s2.s1.bd.bd.s2] (Rd Try.prog 1 1 c29.s2.s2.s2.s2.s2.s2.s2.s1.bd.bd (P29l0 p2 r6 r)) .normal (st 81 [(6, iv r6), (9, sv 1 v28.length ANY), (10, sv 2 v29.length ANY), (62, .bool m52)]) (H29_26 p2 v28 v29) := by
  refine NX.sq ?_
  cases m52 with
  | true =>
   replace hF := of_pos hF rfl
   refine TS.cdT (.tmp 62) (TS.sk (NX.sq (TS.bk 1 ?_)))
   obtain ⟨hg53, hF⟩ := of_guard hF
   obtain ⟨hg54, hF⟩ := of_guard hF
   refine TS.drawE (id := 11) (b := true) (ops := c29.s2.s2.s2.s2.s2.s2.s2.s1.bd.bd.s2.bd.rops) (fin := (qs (S29_1 r6 v28 v29) (H29_26 p2 v28 v29) [] [])) (fin2 := (qs (S29_1 r6 v28 v29) (H29_26 p2 v28 v29) [] [])) (a1 := (S29_0 r6 v28 v29)) (h1 := (H29_26 p2 v28 v29)) [] (fun e he => by cases he) mixed (by kernel_rfl) rfl 11 (by kernel_rfl) [] ?_ rfl (.inl ⟨rfl, rfl⟩) ?_ ?_
   · exact QI.run (s1 := (qs (st 81 [(6, iv r6), (9, sv 1 v28.length ANY), (10, sv 2 v29.length ANY), (62, .bool true), (63, sv 1 v28.length ANY), (64, sv 1 v28.length ANY), (65, iv (v28.length : Int)), (66, iv (w64 ((v28.length : Int) - 1)))]) (H29_26 p2 v28 v29) [] [])) 4 (by kernel_rfl) (by kernel_rfl) (QI.op (q := { val := sv 1 (List.length (List.take (Int.toNat (w64 ((v28.length : Int) - 1))) v28)) ANY }) (s1 := (qs (st 81 [(6, iv r6), (9, sv 1 v28.length ANY), (10, sv 2 v29.length ANY), (62, .bool true), (63, sv 1 v28.length ANY), (64, sv 1 v28.length ANY), (65, iv (v28.length : Int)), (66, iv (w64 ((v28.length : Int) - 1))), (67, sv 1 (List.length (List.take (Int.toNat (w64 ((v28.length : Int) - 1))) v28)) ANY)]) (H29_26 p2 v28 v29) [] [])) (by decide) (q_slAhi (P := Try.prog) (t := 30) (e := 3) (s := 1) (b := 1) (off := 0) (ys := v28) (k := .i64) (y := w64 ((v28.length : Int) - 1)) (by kernel_rfl) (by kernel_rfl) (by kernel_rfl) hg53) (by kernel_rfl) (QI.run (s1 := (qs (st 81 [(6, iv r6), (9, sv 1 v28.length ANY), (10, sv 2 v29.length ANY), (62, .bool true), (63, sv 1 v28.length ANY), (64, sv 1 v28.length ANY), (65, iv (v28.length : Int)), (66, iv (w64 ((v28.length : Int) - 1))), (67, sv 1 (List.length (List.take (Int.toNat (w64 ((v28.length : Int) - 1))) v28)) ANY), (68, sv 2 v29.length ANY), (69, sv 2 v29.length ANY), (70, iv (v29.length : Int)), (71, iv (w64 ((v29.length : Int) - 1)))]) (H29_26 p2 v28 v29) [] [])) 4 (by kernel_rfl) (by kernel_rfl) (QI.op (q := { val := sv 2 (List.length (List.take (Int.toNat (w64 ((v29.length : Int) - 1))) v29)) ANY }) (s1 := (qs (st 81 [(6, iv r6), (9, sv 1 v28.length ANY), (10, sv 2 v29.length ANY), (62, .bool true), (63, sv 1 v28.length ANY), (64, sv 1 v28.length ANY), (65, iv (v28.length : Int)), (66, iv (w64 ((v28.length : Int) - 1))), (67, sv 1 (List.length (List.take (Int.toNat (w64 ((v28.length : Int) - 1))) v28)) ANY), (68, sv 2 v29.length ANY), (69, sv 2 v29.length ANY), (70, iv (v29.length : Int)), (71, iv (w64 ((v29.length : Int) - 1))), (72, sv 2 (List.length (List.take (Int.toNat (w64 ((v29.length : Int) - 1))) v29)) ANY)]) (H29_26 p2 v28 v29) [] [])) (by decide) (q_slAhi (P := Try.prog) (t := 30) (e := 3) (s := 1) (b := 2) (off := 0) (ys := v29) (k := .i64) (y := w64 ((v29.length : Int) - 1)) (by kernel_rfl) (by kernel_rfl) (by kernel_rfl) hg54) (by kernel_rfl) (QI.run (s1 := (qs (S29_1 r6 v28 v29) (H29_26 p2 v28 v29) [] [])) 1 (by kernel_rfl) (by kernel_rfl) (QI.done (by kernel_rfl))))))
   · exact SI.run (a2 := (S29_0 r6 v28 v29)) (h2 := (H29_26 p2 v28 v29)) 1 (by kernel_rfl) (SI.done (by kernel_rfl))
   refine NX.bk ?_
   exact Rd.again (a2 := (st 81 [(6, iv r6), (9, sv 1 (List.length (List.take (Int.toNat (w64 ((v28.length : Int) - 1))) v28)) ANY), (10, sv 2 (List.length (List.take (Int.toNat (w64 ((v29.length : Int) - 1))) v29)) ANY)])) (h2 := [ab 57 e57 p2, accB 3 (List.length (List.take (Int.toNat (w64 ((v28.length : Int) - 1))) v28)) (List.flatMap e3 (List.take (Int.toNat (w64 ((v28.length : Int) - 1))) v28)), accB 3 (List.length (List.take (Int.toNat (w64 ((v29.length : Int) - 1))) v29)) (List.flatMap e3 (List.take (Int.toNat (w64 ((v29.length : Int) - 1))) v29))]) (Wk.an [1, 2] (.ac (.cons (At.win (s := 1) (b := 1) (off := 0) (L := v28) (ys := List.take (Int.toNat (w64 ((v28.length : Int) - 1))) v28) (by rfl) (win_take win_all _) (holds_acc (hp := (H29_26 p2 v28 v29)) (b := 1) (T := 3) (enc := e3) (L := v28) (by kernel_rfl)) (fun _ => rfl) (fun _ => rfl)) (.cons (At.win (s := 1) (b := 2) (off := 0) (L := v29) (ys := List.take (Int.toNat (w64 ((v29.length : Int) - 1))) v29) (by rfl) (win_take win_all _) (holds_acc (hp := (H29_26 p2 v28 v29)) (b := 2) (T := 3) (enc := e3) (L := v29) (by kernel_rfl)) (fun _ => rfl) (fun _ => rfl)) (.nil _)))) [iv r6, sv 1 (List.length (List.take (Int.toNat (w64 ((v28.length : Int) - 1))) v28)) ANY, sv 2 (List.length (List.take (Int.toNat (w64 ((v29.length : Int) - 1))) v29)) ANY] (.fl (.cons (Rn.win (i := 1) (i' := 1) (off := 0) (Nat.le_of_ble_eq_true (by rfl)) (by rfl) rfl) (.cons (Rn.win (i := 2) (i' := 2) (off := 0) (Nat.le_of_ble_eq_true (by rfl)) (by rfl) rfl) .nil)))) (ih (List.take (Int.toNat (w64 ((v28.length : Int) - 1))) v28) (List.take (Int.toNat (w64 ((v29.length : Int) - 1))) v29) _ hF)
  | false =>
   replace hF := of_neg hF rfl
   refine TS.cdF (.tmp 62) (TS.ex 0 (NX.sqX ?_))
   have hF := sj hF
   subst hF
   exact Rd.out (e := .exit 0) (by intro h; cases h) (And.intro rfl (Wk.an [1, 2] (.ac (.ac (.ac (.nil _)))) [iv r6, sv 1 v28.length ANY, sv 2 v29.length ANY] (.fl (.cons (Rn.anyS (nl rfl) rfl (by first | rfl | simp only [List.length_set])) (.cons (Rn.anyS (nl rfl) rfl (by first | rfl | simp only [List.length_set])) .nil)))))
 rcases Bool.eq_false_or_eq_true (decide ((v28.length : Int) > 0)) with hc44 | hc44
 · replace hm55 := of_pos hm55 hc44
   rcases Bool.eq_false_or_eq_true (decide ((v29.length : Int) > 0)) with hc45 | hc45
   · replace hm55 := of_pos hm55 hc45
     have hX := of_guard hm55
     clear hm55
     obtain ⟨hg46, hm55⟩ := hX
     have hX := of_do hm55
     clear hm55
     obtain ⟨o47, h48, hm55⟩ := hX
     replace h48 := sj h48
     have hX := of_guard hm55
     clear hm55
     obtain ⟨hg49, hm55⟩ := hX
     have hX := of_do hm55
     clear hm55
     obtain ⟨o50, h51, hm55⟩ := hX
     replace h51 := sj h51
     have hm55 := sj hm55
     subst hm55
     refine TS.dp [] (fun e he => by cases he) mixed 21 [6, 9, 10, 62] [0, 1, 2] (st 81 [(6, iv r6), (9, sv 1 v28.length ANY), (10, sv 2 v29.length ANY), (62, .bool (o47 == o50))]) (H29_26 p2 v28 v29) ?_ ?_
     · refine QJ.rn (qs (S29_17 r6 v28 v29) (H29_26 p2 v28 v29) [] []) 2 (QJ.o { val := .bool true } (q_conv (e := decide ((v28.length : Int) > 0)) (b := true) (by kernel_rfl) hc44) (QJ.rn (qs (S29_13 r6 v28 v29) (H29_26 p2 v28 v29) [] []) 3 (QJ.o { val := .bool true } (q_conv (e := decide ((v29.length : Int) > 0)) (b := true) (by kernel_rfl) hc45) (QJ.rn (qs (st 81 [(6, iv r6), (9, sv 1 v28.length ANY), (10, sv 2 v29.length ANY), (40, sv 1 v28.length ANY), (41, iv (v28.length : Int)), (42, .bool true), (43, .bool true), (44, sv 2 v29.length ANY), (45, iv (v29.length : Int)), (46, .bool true), (47, .bool true), (48, .bool true), (49, sv 1 v28.length ANY), (50, sv 1 v28.length ANY), (51, iv (v28.length : Int)), (52, iv (w64 ((v28.length : Int) - 1)))]) (H29_26 p2 v28 v29) [] []) 6 (QJ.o { val := .pointer (some ⟨1, 0 + (Int.toNat (w64 ((v28.length : Int) - 1))) * 1, none⟩) } (q_ixS 1 0 ((Int.toNat (w64 ((v28.length : Int) - 1))) * 1) (by kernel_rfl) hg46) (QJ.o { val := iv o47 } (q_n1a Try.prog (H29_26 p2 v28 v29) 3 1 (0 + (Int.toNat (w64 ((v28.length : Int) - 1))) * 1) v28 e3 1 3 (Int.toNat (w64 ((v28.length : Int) - 1))) 0 0 h48) (QJ.rn (qs (st 81 [(6, iv r6), (9, sv 1 v28.length ANY), (10, sv 2 v29.length ANY), (40, sv 1 v28.length ANY), (41, iv (v28.length : Int)), (42, .bool true), (43, .bool true), (44, sv 2 v29.length ANY), (45, iv (v29.length : Int)), (46, .bool true), (47, .bool true), (48, .bool true), (49, sv 1 v28.length ANY), (50, sv 1 v28.length ANY), (51, iv (v28.length : Int)), (52, iv (w64 ((v28.length : Int) - 1))), (53, .pointer (some ⟨1, 0 + (Int.toNat (w64 ((v28.length : Int) - 1))) * 1, none⟩)), (54, iv o47), (55, sv 2 v29.length ANY), (56, sv 2 v29.length ANY), (57, iv (v29.length : Int)), (58, iv (w64 ((v29.length : Int) - 1)))]) (H29_26 p2 v28 v29) [] []) 4 (QJ.o { val := .pointer (some ⟨2, 0 + (Int.toNat (w64 ((v29.length : Int) - 1))) * 1, none⟩) } (q_ixS 2 0 ((Int.toNat (w64 ((v29.length : Int) - 1))) * 1) (by kernel_rfl) hg49) ?_))))))))
       exact QJ.o { val := iv o50 } (q_n1a Try.prog (H29_26 p2 v28 v29) 3 2 (0 + (Int.toNat (w64 ((v29.length : Int) - 1))) * 1) v29 e3 1 3 (Int.toNat (w64 ((v29.length : Int) - 1))) 0 0 h51) (QJ.dn ⟨rfl, SJ.la⟩)
     exact hK
   replace hm55 := of_neg hm55 hc45
   have hm55 := sj hm55
   subst hm55
   refine TS.dp [] (fun e he => by cases he) mixed 21 [6, 9, 10, 62] [0, 1, 2] (S29_23 r6 v28 v29) (H29_26 p2 v28 v29) ?_ ?_
   · exact QJ.rn (qs (S29_17 r6 v28 v29) (H29_26 p2 v28 v29) [] []) 2 (QJ.o { val := .bool true } (q_conv (e := decide ((v28.length : Int) > 0)) (b := true) (by kernel_rfl) hc44) (QJ.rn (qs (S29_13 r6 v28 v29) (H29_26 p2 v28 v29) [] []) 3 (QJ.o { val := .bool false } (q_conv (e := decide ((v29.length : Int) > 0)) (b := false) (by kernel_rfl) hc45) (QJ.rn (qs (st 81 [(6, iv r6), (9, sv 1 v28.length ANY), (10, sv 2 v29.length ANY), (40, sv 1 v28.length ANY), (41, iv (v28.length : Int)), (42, .bool true), (43, .bool true), (44, sv 2 v29.length ANY), (45, iv (v29.length : Int)), (46, .bool false), (47, .bool false), (48, .bool false), (49, undef), (50, undef), (51, undef), (52, undef), (53, undef), (54, undef), (55, undef), (56, undef), (57, undef), (58, undef), (59, undef), (60, undef)]) (H29_26 p2 v28 v29) [] []) 14 (QJ.dn ⟨rfl, SJ.la⟩)))))
   exact hK
 replace hm55 := of_neg hm55 hc44
 have hm55 := sj hm55
 subst hm55
 refine TS.dp [] (fun e he => by cases he) mixed 21 [6, 9, 10, 62] [0, 1, 2] (S29_23 r6 v28 v29) (H29_26 p2 v28 v29) ?_ ?_
 · exact QJ.rn (qs (S29_17 r6 v28 v29) (H29_26 p2 v28 v29) [] []) 2 (QJ.o { val := .bool false } (q_conv (e := decide ((v28.length : Int) > 0)) (b := false) (by kernel_rfl) hc44) (QJ.rn (qs (st 81 [(6, iv r6), (9, sv 1 v28.length ANY), (10, sv 2 v29.length ANY), (40, sv 1 v28.length ANY), (41, iv (v28.length : Int)), (42, .bool false), (43, .bool false), (44, undef), (45, undef), (46, undef), (47, .bool false), (48, .bool false), (49, undef), (50, undef), (51, undef), (52, undef), (53, undef), (54, undef), (55, undef), (56, undef), (57, undef), (58, undef), (59, undef), (60, undef)]) (H29_26 p2 v28 v29) [] []) 18 (QJ.dn ⟨rfl, SJ.la⟩)))
 exact hK
def P29l1 (p2 : List I2) (r56 : (List Int) × (List Int)) (r : List Int) : Post := fun e a h => e = .exit 0 ∧ Wk Try.prog 1 3 a h (st 28 []) [ab 57 e57 p2, ab 3 e3 r56.1, ab 3 e3 r]
theorem L29l1 (p2 : List I2) (r56 : (List Int) × (List Int)) (v65 v66 : Int) (v67 r : List Int) (hF : F29l1 p2 r56 v65 v66 v67 = some r) : TL Try.prog 1 3 c29f57.s2.bd.bd (st 28 [(0, sv 2 v67.length ANY), (2, iv v65), (3, iv v66)]) (H29_24 p2 r56 v67) (P29l1 p2 r56 r) := by
 refine F29l1.partial_correctness p2 r56 (motive := fun v65 v66 v67 r => TL Try.prog 1 3 c29f57.s2.bd.bd (st 28 [(0, sv 2 v67.length ANY), (2, iv v65), (3, iv v66)]) (H29_24 p2 r56 v67) (P29l1 p2 r56 r)) ?_ v65 v66 v67 r hF
 clear hF r v65 v66 v67
 intro again ih v65 v66 v67 r hF
 refine TL.round (TS.sq (TS.sq (TS.rg (TI.ra 3 [0, 2, 3, 9] (st 28 [(0, sv 2 v67.length ANY), (2, iv v65), (3, iv v66), (9, .bool (decide (v65 < v66)))]) (TI.dn (NX.sq ?_))))))
 refine TS.cd (.tmp 9) (decide (v65 < v66)) (fun hc76 => ?_) (fun hc76 => ?_)
 · replace hF := of_pos hF hc76
   refine TS.sk (NX.sq (TS.sq (TS.bk 1 ?_)))
   obtain ⟨hg77, hF⟩ := of_guard hF
   obtain ⟨o78, h79, hF⟩ := of_do hF
   replace h79 := sj h79
   obtain ⟨hg80, hF⟩ := of_guard hF
   obtain ⟨o81, h82, hF⟩ := of_do hF
   replace h82 := sj h82
   refine TS.drawE (id := 3) (b := true) (ops := c29f57.s2.bd.bd.s2.s1.bd.rops) (fin := (qs (S29_4 v67 v65 v66 o78 o81) (H29_20 p2 r56 v67 v65 o78) [] [(13, 2)])) (fin2 := (qs (S29_4 v67 v65 v66 o78 o81) (H29_20 p2 r56 v67 v65 o78) [] [(13, 2)])) (a1 := (S29_2 v67 v65 v66 o78 o81)) (h1 := [ab 57 e57 p2, ab 3 e3 r56.1, .cells 3 (List.flatMap e3 (List.set (List.set v67 (Int.toNat v65) o78) (Int.toNat v66) o81))]) [] (fun e he => by cases he) mixed (by kernel_rfl) rfl 14 (by kernel_rfl) [(13, 2)] ?_ rfl (.inr ⟨?_, (by kernel_rfl)⟩) ?_ ?_
   · refine QI.run (s1 := (qs (S29_14 v67 v65 v66) (H29_24 p2 r56 v67) [] [])) 6 (by kernel_rfl) (by kernel_rfl) (QI.op (q := { val := .pointer (some ⟨2, 0 + (Int.toNat v66) * 1, none⟩) }) (s1 := (qs (S29_10 v67 v65 v66) (H29_24 p2 r56 v67) [] [])) (by decide) (q_ixS 2 0 ((Int.toNat v66) * 1) (by kernel_rfl) hg77) (by kernel_rfl) (QI.op (q := { val := iv o78 }) (s1 := (qs (S29_9 v67 v65 v66 o78) (H29_24 p2 r56 v67) [] [])) (by decide) (q_n1a Try.prog (H29_24 p2 r56 v67) 3 2 (0 + (Int.toNat v66) * 1) v67 e3 1 3 (Int.toNat v66) 0 0 h79) (by kernel_rfl) (QI.run (s1 := (qs (S29_7 v67 v65 v66 o78) (H29_24 p2 r56 v67) [] [])) 2 (by kernel_rfl) (by kernel_rfl) (QI.op (q := { val := .pointer (some ⟨2, 0 + (Int.toNat v65) * 1, none⟩) }) (s1 := (qs (S29_6 v67 v65 v66 o78) (H29_24 p2 r56 v67) [] [])) (by decide) (q_ixS 2 0 ((Int.toNat v65) * 1) (by kernel_rfl) hg80) (by kernel_rfl) (QI.op (q := { val := iv o81 }) (s1 := (qs (S29_5 v67 v65 v66 o78 o81) (H29_24 p2 r56 v67) [] [])) (by decide) (q_n1a Try.prog (H29_24 p2 r56 v67) 3 2 (0 + (Int.toNat v65) * 1) v67 e3 1 3 (Int.toNat v65) 0 0 h82) (by kernel_rfl) (QI.op (q := { val := .pointer (some ⟨2, 0 + (Int.toNat v65) * 1, none⟩) }) (s1 := (qs (S29_4 v67 v65 v66 o78 o81) (H29_24 p2 r56 v67) [] [])) (by decide) (q_ixS 2 0 ((Int.toNat v65) * 1) (by kernel_rfl) hg80) (by kernel_rfl) ?_))))))
     exact QI.op (q := { val := undef, upd := some (2, .cells 3 (List.flatMap e3 (List.set v67 (Int.toNat v65) o78))) }) (s1 := (qs (S29_4 v67 v65 v66 o78 o81) (H29_20 p2 r56 v67 v65 o78) [] [(13, 2)])) (by decide) (q_st (P := Try.prog) (base := 1) (hp := (H29_24 p2 r56 v67)) (t := 3) (b := 2) (off := 0 + (Int.toNat v65) * 1) (l := v67) (enc := e3) (s := 1) (T := 3) (i := Int.toNat v65) (k := 0) (n := 1) (y := iv o78) (xs := [iv o78]) 0 o78 (by kernel_rfl) (accB_at (h := (H29_24 p2 r56 v67)) (n := List.length v67) (i := Int.toNat v65) (by kernel_rfl) (by first | omega | (simp <;> omega))) (by decide) (by kernel_rfl) (by kernel_rfl) rfl (by kernel_rfl) (fun _ => rfl) (by omega) (nl rfl) (by first | omega | (simp <;> omega)) rfl) (by kernel_rfl) (QI.done (by kernel_rfl))
   · refine QI.run (s1 := (qs (S29_14 v67 v65 v66) (H29_24 p2 r56 v67) [] [])) 6 (by kernel_rfl) (by kernel_rfl) (QI.op (q := { val := .pointer (some ⟨2, 0 + (Int.toNat v66) * 1, none⟩) }) (s1 := (qs (S29_10 v67 v65 v66) (H29_24 p2 r56 v67) [] [])) (by decide) (q_ixS 2 0 ((Int.toNat v66) * 1) (by kernel_rfl) hg77) (by kernel_rfl) (QI.op (q := { val := iv o78 }) (s1 := (qs (S29_9 v67 v65 v66 o78) (H29_24 p2 r56 v67) [] [])) (by decide) (q_n1a Try.prog (H29_24 p2 r56 v67) 3 2 (0 + (Int.toNat v66) * 1) v67 e3 1 3 (Int.toNat v66) 0 0 h79) (by kernel_rfl) (QI.run (s1 := (qs (S29_7 v67 v65 v66 o78) (H29_24 p2 r56 v67) [] [])) 2 (by kernel_rfl) (by kernel_rfl) (QI.op (q := { val := .pointer (some ⟨2, 0 + (Int.toNat v65) * 1, none⟩) }) (s1 := (qs (S29_6 v67 v65 v66 o78) (H29_24 p2 r56 v67) [] [])) (by decide) (q_ixS 2 0 ((Int.toNat v65) * 1) (by kernel_rfl) hg80) (by kernel_rfl) (QI.op (q := { val := iv o81 }) (s1 := (qs (S29_5 v67 v65 v66 o78 o81) (H29_24 p2 r56 v67) [] [])) (by decide) (q_n1a Try.prog (H29_24 p2 r56 v67) 3 2 (0 + (Int.toNat v65) * 1) v67 e3 1 3 (Int.toNat v65) 0 0 h82) (by kernel_rfl) (QI.op (q := { val := .pointer (some ⟨2, 0 + (Int.toNat v65) * 1, none⟩) }) (s1 := (qs (S29_4 v67 v65 v66 o78 o81) (H29_24 p2 r56 v67) [] [])) (by decide) (q_ixS 2 0 ((Int.toNat v65) * 1) (by kernel_rfl) hg80) (by kernel_rfl) ?_))))))
     exact QI.op (q := { val := undef, upd := some (2, .cells 3 (List.flatMap e3 (List.set v67 (Int.toNat v65) o78))) }) (s1 := (qs (S29_4 v67 v65 v66 o78 o81) (H29_20 p2 r56 v67 v65 o78) [] [(13, 2)])) (by decide) (q_st (P := Try.prog) (base := 1) (hp := (H29_24 p2 r56 v67)) (t := 3) (b := 2) (off := 0 + (Int.toNat v65) * 1) (l := v67) (enc := e3) (s := 1) (T := 3) (i := Int.toNat v65) (k := 0) (n := 1) (y := iv o78) (xs := [iv o78]) 0 o78 (by kernel_rfl) (accB_at (h := (H29_24 p2 r56 v67)) (n := List.length v67) (i := Int.toNat v65) (by kernel_rfl) (by first | omega | (simp <;> omega))) (by decide) (by kernel_rfl) (by kernel_rfl) rfl (by kernel_rfl) (fun _ => rfl) (by omega) (nl rfl) (by first | omega | (simp <;> omega)) rfl) (by kernel_rfl) (QI.done (by kernel_rfl))
   · refine SI.op (q := { val := .pointer (some ⟨2, 0 + (Int.toNat v66) * 1, none⟩) }) (a2 := (S29_2 v67 v65 v66 o78 o81)) (h2 := (H29_20 p2 r56 v67 v65 o78)) (by kernel_rfl) (q_ixS 2 0 ((Int.toNat v66) * 1) (by kernel_rfl) hg77) (by kernel_rfl) (by kernel_rfl) ?_
     exact SI.op (q := { val := undef, upd := some (2, .cells 3 (List.flatMap e3 (List.set (List.set v67 (Int.toNat v65) o78) (Int.toNat v66) o81))) }) (a2 := (S29_2 v67 v65 v66 o78 o81)) (h2 := [ab 57 e57 p2, ab 3 e3 r56.1, .cells 3 (List.flatMap e3 (List.set (List.set v67 (Int.toNat v65) o78) (Int.toNat v66) o81))]) (by kernel_rfl) (q_stP Try.prog 1 (H29_20 p2 r56 v67 v65 o78) 3 2 (0 + (Int.toNat v66) * 1) (List.set v67 (Int.toNat v65) o78) e3 1 3 (Int.toNat v66) 0 1 (iv o81) [iv o81] 0 o81 (by first | omega | (simp <;> omega))) (by kernel_rfl) (by kernel_rfl) (SI.done (by kernel_rfl))
   refine NX.bk (NX.sq (TS.rg (TI.ra 6 [0, 2, 3] (st 28 [(0, sv 2 v67.length ANY), (2, iv (w64 (v65 + 1))), (3, iv (w64 (v66 - 1)))]) (TI.dn ?_))))
   exact Rd.again (a2 := (st 28 [(0, sv 2 (List.length (List.set (List.set v67 (Int.toNat v65) o78) (Int.toNat v66) o81)) ANY), (2, iv (w64 (v65 + 1))), (3, iv (w64 (v66 - 1)))])) (h2 := [ab 57 e57 p2, ab 3 e3 r56.1, accB 3 (List.length (List.set (List.set v67 (Int.toNat v65) o78) (Int.toNat v66) o81)) (List.flatMap e3 (List.set (List.set v67 (Int.toNat v65) o78) (Int.toNat v66) o81))]) (Wk.an [] (.ac (.ac (.cons (At.accU (by kernel_rfl) rfl (fun _ => rfl)) (.nil _)))) [sv 2 v67.length ANY, iv (w64 (v65 + 1)), iv (w64 (v66 - 1))] (.cons (Rn.anyS (i := 2) (i' := 2) (Nat.le_of_ble_eq_true (by rfl)) (by rfl) (by first | rfl | simp only [List.length_set])) (.fl (.fl .nil)))) (ih (w64 (v65 + 1)) (w64 (v66 - 1)) (List.set (List.set v67 (Int.toNat v65) o78) (Int.toNat v66) o81) _ hF)
 replace hF := of_neg hF hc76
 refine TS.ex 0 (NX.sqX ?_)
 have hF := sj hF
 subst hF
 exact Rd.out (e := .exit 0) (by intro h; cases h) (And.intro rfl (Wk.an [] (.ac (.ac (.ac (.nil _)))) [] .nil))
theorem B29 (p0 p1 : Int) (p2 : List I2) (r : (List Int) × Int) (hF : F29 p0 p1 p2 = some r) : TS Try.prog 1 1 c29 (st 81 [(0, ag [iv p0, iv p1, sv 0 p2.length ANY])]) [ab 57 e57 p2] (NX Try.prog 1 1 [] (FinP Try.prog Try.f29 1 (V29 1 r) (N29 1 r))) := by
 unfold F29 at hF
 refine TS.sq (TS.rg (TI.rn 3 [1] [0, 1] (st 81 [(1, pt 1 0)]) [ab 57 e57 p2, cl 24 [iv p0, iv p1, sv 0 p2.length ANY]] (TI.dn (NX.sq (TS.sq (TS.sq ?_))))))
 obtain ⟨r1, h2, hF⟩ := of_do hF
 refine TS.rg (TI.ra 1 [1, 11] (st 81 [(1, pt 1 0), (11, ag [iv p0, iv p1, sv 0 p2.length ANY])]) (TI.cp 23 [ag [iv p0, iv p1, sv 0 p2.length ANY]] (iv r1) [] (PureSim.ren (hc := [ab 57 e57 p2]) (fun i => List.getD [(0, 0)] i (0, 0)) (C23 _ _ _ _ h2) (.ac (.nil _)) (.cons (Rn.agg' (.fl (.fl (.cons (Rn.any _ _ _ _ _ _ (nl rfl) rfl rfl (by decide)) .nil)))) .nil) (.flat (by kernel_rfl)) newflat_nil) (TI.ra 1 [1, 4] (st 81 [(1, pt 1 0), (4, iv r1)]) (TI.dn (NX.sq (TS.sq (TS.rg (TI.ra 2 [1, 4, 14] (st 81 [(1, pt 1 0), (4, iv r1), (14, .bool (r1 != 0))]) ?_))))))))
 refine TI.dn (NX.sq ?_)
 refine TS.cd (.tmp 14) (r1 != 0) (fun hc3 => ?_) (fun hc3 => ?_)
 · replace hF := of_pos hF hc3
   refine TS.sq (TS.rg (TI.rn 3 [2, 3] [0] (st 81 [(2, .slice none 0 0), (3, iv r1)]) [ab 57 e57 p2, .dead] (TI.dn (NX.sq (TS.rt (NX.sqR ?_))))))
   have hF := sj hF
   subst hF
   exact ⟨.inr rfl, rfl, .tuple ⟨[.slice none 0 0, iv r1]⟩, by kernel_rfl, WkV.made (L := 1) (f := [2]) (by decide) (by decide) rfl (.cons At.accN (.nil _)) (Rn.tuple' (.cons (Rn.anyN _ _ _ rfl (by decide)) (.fl .nil)))⟩
 replace hF := of_neg hF hc3
 refine TS.sk (NX.sq (TS.sq ?_))
 obtain ⟨r4, h5, hF⟩ := of_do hF
 refine TS.rg (TI.ra 1 [1, 16] (st 81 [(1, pt 1 0), (16, ag [iv p0, iv p1, sv 0 p2.length ANY])]) (TI.cp 49 [ag [iv p0, iv p1, sv 0 p2.length ANY]] (.map (some 2)) [mb 83 u83 u85 r4] (PureSim.ren (hc := [ab 57 e57 p2]) (fun i => List.getD [(0, 0)] i (0, 0)) (C49 _ _ _ _ h5) (.ac (.nil _)) (.cons (Rn.agg' (.fl (.fl (.cons (Rn.any _ _ _ _ _ _ (nl rfl) rfl rfl (by decide)) .nil)))) .nil) (Rn.map _ (nl rfl)) (newflat_cons (.inr rfl) newflat_nil)) (TI.rn 1 [1, 5] [0, 1, 2] (st 81 [(1, pt 1 0), (5, .map (some 2))]) (H29_21 p2 p0 p1 r4) (TI.dn (NX.sq (TS.sq ?_))))))
 obtain ⟨r6, h7, hF⟩ := of_do hF
 refine TS.rg (TI.ra 2 [1, 5, 18, 19] (st 81 [(1, pt 1 0), (5, .map (some 2)), (18, ag [iv p0, iv p1, sv 0 p2.length ANY]), (19, .map (some 2))]) (TI.cp 54 [ag [iv p0, iv p1, sv 0 p2.length ANY], .map (some 2)] (iv r6) [] (PureSim.ren (hc := [ab 57 e57 p2, mb 83 u83 u85 r4]) (fun i => List.getD [(0, 0), (2, 0)] i (0, 0)) (C54 _ _ _ _ _ h7) (.ac (.cons (At.blk (by kernel_rfl) (RnB.map _ _)) (.nil _))) (.cons (Rn.agg' (.fl (.fl (.cons (Rn.any _ _ _ _ _ _ (nl rfl) rfl rfl (by decide)) .nil)))) (.cons (Rn.map _ (nl rfl)) .nil)) (.flat (by kernel_rfl)) newflat_nil) (TI.ra 1 [1, 5, 6] (st 81 [(1, pt 1 0), (5, .map (some 2)), (6, iv r6)]) (TI.dn (NX.sq (TS.sq (TS.sq (TS.rg ?_))))))))
 refine TI.ra 2 [1, 5, 6, 22] (st 81 [(1, pt 1 0), (5, .map (some 2)), (6, iv r6), (22, .bool (decide (r6 < 0)))]) (TI.dn (NX.sq ?_))
 refine TS.cd (.tmp 22) (decide (r6 < 0)) (fun hc8 => ?_) (fun hc8 => ?_)
 · replace hF := of_pos hF hc8
   refine TS.sq (TS.rg (TI.rn 2 [2, 3] [0] (st 81 [(2, .slice none 0 0), (3, iv 6)]) [ab 57 e57 p2, .dead, .dead] (TI.dn (NX.sq (TS.rt (NX.sqR ?_))))))
   have hF := sj hF
   subst hF
   exact ⟨.inr rfl, rfl, .tuple ⟨[.slice none 0 0, iv 6]⟩, by kernel_rfl, WkV.made (L := 1) (f := [3]) (by decide) (by decide) rfl (.cons At.accN (.nil _)) (Rn.tuple' (.cons (Rn.anyN _ _ _ rfl (by decide)) (.fl .nil)))⟩
 replace hF := of_neg hF hc8
 refine TS.sk (NX.sq (TS.sq ?_))
 obtain ⟨hg9, hF⟩ := of_guard hF
 obtain ⟨o10, h11, hF⟩ := of_do hF
 replace h11 := sj h11
 obtain ⟨r12, h13, hF⟩ := of_do hF
 have hT : ∀ e ∈ ([⟨55, [ag [iv p0, iv p1, sv 0 p2.length ANY], iv o10.1], (H29_21 p2 p0 p1 r4), .tuple ⟨[ag [iv r12.1.1, iv r12.1.2], ag [iv r12.2.1, iv r12.2.2]]⟩, []⟩] : List Entry), PureSim Try.prog e.g e.args e.h e.v e.new := by
  intro e he
  simp only [List.mem_cons, List.not_mem_nil, or_false] at he
  rcases he with rfl
  exact (PureSim.ren (hc := [ab 57 e57 p2]) (fun i => List.getD [(0, 0)] i (0, 0)) (C55 _ _ _ _ _ h13) (.ac (.nil _)) (.cons (Rn.agg' (.fl (.fl (.cons (Rn.any _ _ _ _ _ _ (nl rfl) rfl rfl (by decide)) .nil)))) (.fl .nil)) (.flat (by kernel_rfl)) newflat_nil)
 refine TS.draw' (id := 8) (b := true) (ops := c29.s2.s2.s2.s2.s2.s1.rops) (fin := (qs (S29_3 r6 r12 p0 p1 p2 o10) (H29_18 p2 p0 p1 r4 r12) [(12, 4, 5), (11, 3, 4)] [(13, 3)])) (fin2 := (qs (S29_3 r6 r12 p0 p1 p2 o10) (H29_18 p2 p0 p1 r4 r12) [(12, 4, 5), (11, 3, 4)] [(13, 3)])) (a1 := (S29_3 r6 r12 p0 p1 p2 o10)) (h1 := [ab 57 e57 p2, cl 24 [iv p0, iv p1, sv 0 p2.length ANY], mb 83 u83 u85 r4, cl 83 [iv r12.1.1, iv r12.1.2], cl 83 [iv r12.2.1, iv r12.2.2]]) (a2 := (st 81 [(5, .map (some 2)), (6, iv r6), (7, pt 3 0), (8, pt 4 0)])) (h2 := (H29_22 p2 r4 r12)) [⟨55, [ag [iv p0, iv p1, sv 0 p2.length ANY], iv o10.1], (H29_21 p2 p0 p1 r4), .tuple ⟨[ag [iv r12.1.1, iv r12.1.2], ag [iv r12.2.1, iv r12.2.2]]⟩, []⟩] hT mixed (by kernel_rfl) rfl 14 (by kernel_rfl) [(13, 3)] ?_ rfl (.inr ⟨?_, (by kernel_rfl)⟩) ?_ [5, 6, 7, 8] [0, 2, 3, 4] (by kernel_rfl) ?_
 · exact QI.run (s1 := (qs (S29_16 r6 p0 p1 p2) (H29_21 p2 p0 p1 r4) [] [])) 4 (by kernel_rfl) (by kernel_rfl) (QI.op (q := { val := .pointer (some ⟨0, 0 + (Int.toNat r6) * 2, none⟩) }) (s1 := (qs (S29_15 r6 p0 p1 p2) (H29_21 p2 p0 p1 r4) [] [])) (by decide) (q_ixS 0 0 ((Int.toNat r6) * 2) (by kernel_rfl) hg9) (by kernel_rfl) (QI.run (s1 := (qs (S29_12 r6 p0 p1 p2) (H29_21 p2 p0 p1 r4) [] [])) 1 (by kernel_rfl) (by kernel_rfl) (QI.op (q := { val := iv o10.1 }) (s1 := (qs (S29_11 r6 p0 p1 p2 o10) (H29_21 p2 p0 p1 r4) [] [])) (by decide) (q_n1a Try.prog (H29_21 p2 p0 p1 r4) 3 0 (0 + (Int.toNat r6) * 2) p2 e57 2 57 (Int.toNat r6) 0 (0, 0) h11) (by kernel_rfl) (QI.op (q := { val := .tuple ⟨[ag [iv r12.1.1, iv r12.1.2], ag [iv r12.2.1, iv r12.2.2]]⟩, new := [] }) (s1 := (qs (S29_8 r6 p0 p1 p2 o10 r12) (H29_21 p2 p0 p1 r4) [] [])) (by decide) (qOf_call (g := 55) (args := [ag [iv p0, iv p1, sv 0 p2.length ANY], iv o10.1]) (by kernel_rfl) lookC_hit) (by kernel_rfl) (QI.run (s1 := (qs (S29_3 r6 r12 p0 p1 p2 o10) (H29_18 p2 p0 p1 r4 r12) [(12, 4, 5), (11, 3, 4)] [(13, 3)])) 6 (by kernel_rfl) (by kernel_rfl) (QI.done (by kernel_rfl)))))))
 · exact QI.run (s1 := (qs (S29_16 r6 p0 p1 p2) (H29_21 p2 p0 p1 r4) [] [])) 4 (by kernel_rfl) (by kernel_rfl) (QI.op (q := { val := .pointer (some ⟨0, 0 + (Int.toNat r6) * 2, none⟩) }) (s1 := (qs (S29_15 r6 p0 p1 p2) (H29_21 p2 p0 p1 r4) [] [])) (by decide) (q_ixS 0 0 ((Int.toNat r6) * 2) (by kernel_rfl) hg9) (by kernel_rfl) (QI.run (s1 := (qs (S29_12 r6 p0 p1 p2) (H29_21 p2 p0 p1 r4) [] [])) 1 (by kernel_rfl) (by kernel_rfl) (QI.op (q := { val := iv o10.1 }) (s1 := (qs (S29_11 r6 p0 p1 p2 o10) (H29_21 p2 p0 p1 r4) [] [])) (by decide) (q_n1a Try.prog (H29_21 p2 p0 p1 r4) 3 0 (0 + (Int.toNat r6) * 2) p2 e57 2 57 (Int.toNat r6) 0 (0, 0) h11) (by kernel_rfl) (QI.op (q := { val := .tuple ⟨[ag [iv r12.1.1, iv r12.1.2], ag [iv r12.2.1, iv r12.2.2]]⟩, new := [] }) (s1 := (qs (S29_8 r6 p0 p1 p2 o10 r12) (H29_21 p2 p0 p1 r4) [] [])) (by decide) (qOf_call (g := 55) (args := [ag [iv p0, iv p1, sv 0 p2.length ANY], iv o10.1]) (by kernel_rfl) lookC_hit) (by kernel_rfl) (QI.run (s1 := (qs (S29_3 r6 r12 p0 p1 p2 o10) (H29_18 p2 p0 p1 r4 r12) [(12, 4, 5), (11, 3, 4)] [(13, 3)])) 6 (by kernel_rfl) (by kernel_rfl) (QI.done (by kernel_rfl)))))))
 · exact SI.run (a2 := (S29_3 r6 r12 p0 p1 p2 o10)) (h2 := [ab 57 e57 p2, cl 24 [iv p0, iv p1, sv 0 p2.length ANY], mb 83 u83 u85 r4, cl 83 [iv r12.1.1, iv r12.1.2], cl 83 [iv r12.2.1, iv r12.2.2]]) 1 (by kernel_rfl) (SI.done (by kernel_rfl))
 refine TS.sq ?_
 obtain ⟨r14, h15, hF⟩ := of_do hF
 obtain ⟨r16, h17, hF⟩ := of_do hF
 have hT : ∀ e ∈ ([⟨56, [.map (some 2), ag [iv r12.1.1, iv r12.1.2]], (H29_22 p2 r4 r12), accV 5 r14.length, [ab 3 e3 r14]⟩, ⟨56, [.map (some 2), ag [iv r12.2.1, iv r12.2.2]], (H29_19 p2 r4 r12 r14), accV 6 r16.length, [ab 3 e3 r16]⟩] : List Entry), PureSim Try.prog e.g e.args e.h e.v e.new := by
  intro e he
  simp only [List.mem_cons, List.not_mem_nil, or_false] at he
  rcases he with rfl | rfl
  · exact (PureSim.ren (hc := [mb 83 u83 u85 r4]) (fun i => List.getD [(2, 0)] i (0, 0)) (C56 _ _ _ _ h15) (.cons (At.blk (by kernel_rfl) (RnB.map _ _)) (.nil _)) (.cons (Rn.map _ (nl rfl)) (.fl .nil)) (Rn.acc (i' := 5) (nl rfl) rfl) (newflat_cons (accB_flat (fun _ => rfl)) newflat_nil))
  exact (PureSim.ren (hc := [mb 83 u83 u85 r4]) (fun i => List.getD [(2, 0)] i (0, 0)) (C56 _ _ _ _ h17) (.cons (At.blk (by kernel_rfl) (RnB.map _ _)) (.nil _)) (.cons (Rn.map _ (nl rfl)) (.fl .nil)) (Rn.acc (i' := 6) (nl rfl) rfl) (newflat_cons (accB_flat (fun _ => rfl)) newflat_nil))
 refine TS.dp [⟨56, [.map (some 2), ag [iv r12.1.1, iv r12.1.2]], (H29_22 p2 r4 r12), accV 5 r14.length, [ab 3 e3 r14]⟩, ⟨56, [.map (some 2), ag [iv r12.2.1, iv r12.2.2]], (H29_19 p2 r4 r12 r14), accV 6 r16.length, [ab 3 e3 r16]⟩] hT mixed 5 [6, 9, 10] [0, 5, 6] (st 81 [(6, iv r6), (9, accV 5 r14.length), (10, accV 6 r16.length)]) [ab 57 e57 p2, .dead, .dead, .dead, .dead, ab 3 e3 r14, ab 3 e3 r16] ?_ ?_
 · refine QJ.rn (qs (st 81 [(5, .map (some 2)), (6, iv r6), (7, pt 3 0), (8, pt 4 0), (34, .map (some 2)), (35, ag [iv r12.1.1, iv r12.1.2])]) (H29_22 p2 r4 r12) [] []) 2 (QJ.o { val := accV 5 r14.length, new := [ab 3 e3 r14] } (qOf_call (g := 56) (args := [.map (some 2), ag [iv r12.1.1, iv r12.1.2]]) (by kernel_rfl) lookC_hit) (QJ.rn (qs (st 81 [(5, .map (some 2)), (6, iv r6), (7, pt 3 0), (8, pt 4 0), (34, .map (some 2)), (35, ag [iv r12.1.1, iv r12.1.2]), (36, accV 5 r14.length), (37, .map (some 2)), (38, ag [iv r12.2.1, iv r12.2.2])]) (H29_19 p2 r4 r12 r14) [(2, 5, 6)] []) 2 (QJ.dn ⟨rfl, ?_⟩)))
   exact SJ.o { val := accV 6 r16.length, new := [ab 3 e3 r16] } (qOf_call (g := 56) (args := [.map (some 2), ag [iv r12.2.1, iv r12.2.2]]) (by kernel_rfl) (lookC_skip (by intro _ ha hh; first | (exact absurd (congrArg List.length hh) (Nat.ne_of_beq_eq_false rfl)) | (have hq := h15; have hi := h17; clear hF; first | (exfalso; simp at ha; done) | ((try simp at ha); have hr := sj (hq.symm.trans (Eq.trans (by first | rfl | (congr 1 <;> first | rfl | omega | simp_all)) hi)); subst hr; rfl))) lookC_hit)) SJ.la
 refine TS.sq (TS.bk 0 ?_)
 obtain ⟨r56, h57, hF⟩ := of_do hF
 refine TS.lp (TL.weak (a2 := (st 81 [(6, iv r6), (9, sv 1 r14.length ANY), (10, sv 2 r16.length ANY)])) (h2 := [ab 57 e57 p2, ab 3 e3 r14, ab 3 e3 r16]) (Wk.an [5, 6] (.ac (.ac (.ac (.nil _)))) [iv r6, accV 5 r14.length, accV 6 r16.length] (.fl (.cons (accAE (nl rfl) rfl (by first | rfl | simp only [List.length_set])) (.cons (accAE (nl rfl) rfl (by first | rfl | simp only [List.length_set])) .nil)))) (TL.post (L29l0 p2 r6 r14 r16 r56 h57) ?_))
 rintro e a1 h1 hp
 obtain ⟨rfl, hw⟩ := hp
 refine ⟨(st 81 [(6, iv r6), (9, sv 1 r56.1.length ANY), (10, sv 2 r56.2.length ANY)]), [ab 57 e57 p2, ab 3 e3 r56.1, ab 3 e3 r56.2], (NX.bkX (NX.sq (TS.sq (TS.rg (TI.ra 1 [6, 9, 10, 73] (st 81 [(6, iv r6), (9, sv 1 r56.1.length ANY), (10, sv 2 r56.2.length ANY), (73, sv 2 r56.2.length ANY)]) (TI.inline (g := 57) (args := [sv 2 r56.2.length ANY]) (fn := Try.f57) (c := c29f57) (n := 3) (by kernel_rfl) (by kernel_rfl) (by kernel_rfl) (by kernel_rfl) (by kernel_rfl) [0] (a2 := (st 28 [(0, sv 2 r56.2.length ANY)])) (by kernel_rfl) (TS.sq (TS.rg ?_)))))))), hw⟩
 refine TI.ra 5 [0, 2, 3] (S29_27 r56) (TI.dn (NX.sq (TS.bk 0 ?_)))
 obtain ⟨r83, h84, hF⟩ := of_do hF
 refine TS.lp (TL.weak (a2 := (S29_27 r56)) (h2 := [ab 57 e57 p2, ab 3 e3 r56.1, ab 3 e3 r56.2]) (Wk.an [] (.ac (.ac (.ac (.nil _)))) [sv 2 r56.2.length ANY, iv 0, iv (w64 ((r56.2.length : Int) - 1))] (.cons (Rn.anyS (i := 2) (i' := 2) (Nat.le_of_ble_eq_true (by rfl)) (by rfl) (by first | rfl | simp only [List.length_set])) (.fl (.fl .nil)))) (TL.post (L29l1 p2 r56 0 (w64 ((r56.2.length : Int) - 1)) r56.2 r83 h84) ?_))
 rintro e a1 h1 hp
 obtain ⟨rfl, hw⟩ := hp
 refine ⟨(st 28 []), (H29_25 p2 r56 r83), (NX.bkX ?_), hw⟩
 obtain ⟨hg85, hF⟩ := of_guard hF
 refine ⟨.inl rfl, rfl, .tuple ⟨[]⟩, .tuple ⟨[]⟩, (H29_25 p2 r56 r83), by kernel_rfl, WkV.refl, (TI.weak (Wk.eq (congrArg (fun nn => putAt c29.s2.s2.s2.s2.s2.s2.s2.s2.s1.rops 1 (st 81 [(6, iv r6), (9, sv 1 r56.1.length ANY), (10, sv 2 nn ANY), (73, sv 2 nn ANY)]) (.tuple ⟨[]⟩)) hg85.symm)) (TI.rn 0 [6, 9, 10] [0, 1, 2] (st 81 [(6, iv r6), (9, sv 1 r56.1.length ANY), (10, sv 2 r83.length ANY)]) (H29_25 p2 r56 r83) (TI.dn (NX.sq (TS.sq ?_)))))⟩
 obtain ⟨r86, h87, hF⟩ := of_do hF
 refine TS.rg (TI.rn 5 [79] [0, 1, 2, 3, 4] (st 81 [(79, sv 4 3 3)]) [ab 57 e57 p2, ab 3 e3 r56.1, ab 3 e3 r83, cl 3 [iv r6], cl 30 [sv 3 1 1, sv 1 r56.1.length ANY, sv 2 r83.length ANY]] (TI.cp 58 [sv 4 3 3] (sv 5 r86.length ANY) [ab 3 e3 r86] (PureSim.ren (hc := [cl 30 [sv 1 (List.length ([r6])) ANY, sv 2 r56.1.length ANY, sv 3 r83.length ANY], accB 3 (List.length ([r6])) (List.flatMap e3 ([r6])), ab 3 e3 r56.1, ab 3 e3 r83]) (fun i => List.getD [(4, 0), (3, 0), (1, 0), (2, 0)] i (0, 0)) (C58 _ _ _ _ h87) (.cons (At.blk (b1 := cl 30 [sv 3 1 1, sv 1 r56.1.length ANY, sv 2 r83.length ANY]) (by kernel_rfl) (RnB.lit (.cons (Rn.any _ _ _ _ _ _ (nl rfl) rfl rfl (by decide)) (.cons (Rn.any _ _ _ _ _ _ (nl rfl) rfl rfl (by decide)) (.cons (Rn.any _ _ _ _ _ _ (nl rfl) rfl rfl (by decide)) .nil))))) (.cons (At.accU (by kernel_rfl) rfl (fun _ => rfl)) (.ac (.ac (.nil _))))) (.sl .nil) (Rn.anyS (i' := 5) (nl rfl) rfl rfl) (newflat_cons (accB_flat (fun _ => rfl)) newflat_nil)) (TI.rn 2 [2, 3] [0, 5] (st 81 [(2, sv 5 r86.length ANY), (3, iv 0)]) [ab 57 e57 p2, .dead, .dead, .dead, .dead, ab 3 e3 r86] (TI.dn (NX.sq (TS.rt ?_))))))
 have hF := sj hF
 subst hF
 exact ⟨.inr rfl, rfl, .tuple ⟨[sv 5 r86.length ANY, iv 0]⟩, by kernel_rfl, WkV.made (L := 1) (f := [5]) (by decide) (by decide) rfl (.ac (.nil _)) (Rn.tuple' (.cons (Rn.anyS (nl rfl) rfl rfl) (.fl .nil)))⟩
theorem C29 (p0 p1 : Int) (p2 : List I2) (r : (List Int) × Int) (hF : F29 p0 p1 p2 = some r) : PureSim Try.prog 29 [ag [iv p0, iv p1, sv 0 p2.length ANY]] [ab 57 e57 p2] (V29 1 r) (N29 1 r) :=
 PureSim.of_Fin Try.func29 (c := c29) (by kernel_rfl) (by kernel_rfl) 1 rfl [0] [0] (by kernel_rfl) (B29 p0 p1 p2 r hF)
noncomputable def c27 : Code := Try.f27.code
def H27_0 (p2 : List I2) (p3 : List Int) (p0 p1 : Int) (z86 : Int × Int × Int × Int × Int × Int × Int) (o61 : I2) (r63 : I2 × I2) : List Blk := [ab 57 e57 p2, ab 3 e3 p3, cl 24 [iv p0, iv p1, sv 0 p2.length ANY], cl 83 [iv z86.2.2.2.1, iv z86.2.2.2.2.1], cl 83 [iv z86.2.2.2.2.2.1, iv z86.2.2.2.2.2.2], cl 57 [iv o61.1, iv o61.2], cl 83 [iv r63.1.1, iv r63.1.2], cl 83 [iv r63.2.1, iv r63.2.2]]
def S27_1 (z86 : Int × Int × Int × Int × Int × Int × Int) (p3 : List Int) (r63 : I2 × I2) : CAct := (st 89 [(2, pt 2 0), (6, pt 3 0), (7, pt 4 0), (8, iv z86.1), (9, iv z86.2.1), (12, pt 5 0), (13, pt 6 0), (14, pt 7 0), (30, sv 1 p3.length ANY), (31, iv (p3.length : Int)), (32, iv z86.2.2.1), (61, ag [iv z86.2.2.2.2.2.1, iv z86.2.2.2.2.2.2]), (62, ag [iv r63.1.1, iv r63.1.2])])
def S27_2 (z86 : Int × Int × Int × Int × Int × Int × Int) (o55 : Int) (p3 : List Int) (p2 : List I2) : CAct := (st 89 [(2, pt 2 0), (6, pt 3 0), (7, pt 4 0), (8, iv z86.1), (9, iv z86.2.1), (10, iv z86.2.2.1), (11, iv o55), (30, sv 1 p3.length ANY), (31, iv (p3.length : Int)), (32, iv z86.2.2.1), (37, iv o55), (41, iv (w64 ((p2.length : Int) - 1)))])
def H27_3 (p2 : List I2) (p3 : List Int) (p0 p1 : Int) (z86 : Int × Int × Int × Int × Int × Int × Int) : List Blk := [ab 57 e57 p2, ab 3 e3 p3, cl 24 [iv p0, iv p1, sv 0 p2.length ANY], cl 83 [iv z86.2.2.2.1, iv z86.2.2.2.2.1], cl 83 [iv z86.2.2.2.2.2.1, iv z86.2.2.2.2.2.2]]
def S27_4 (z86 : Int × Int × Int × Int × Int × Int × Int) (p3 : List Int) : CAct := (st 89 [(2, pt 2 0), (6, pt 3 0), (7, pt 4 0), (8, iv z86.1), (9, iv z86.2.1), (12, pt 5 0), (14, pt 7 0), (30, sv 1 p3.length ANY), (31, iv (p3.length : Int)), (32, iv z86.2.2.1), (71, .bool (decide (z86.2.1 < 0)))])
def S27_5 (z86 : Int × Int × Int × Int × Int × Int × Int) (o61 : I2) (p3 : List Int) : CAct := (st 89 [(2, pt 2 0), (6, pt 3 0), (7, pt 4 0), (8, iv (w64 (z86.1 + (w64 (z86.2.1 * o61.2))))), (9, iv (w64 (0 - z86.2.1))), (30, sv 1 p3.length ANY), (31, iv (p3.length : Int)), (32, iv (w64 (z86.2.2.1 + 1)))])
def S27_6 (z86 : Int × Int × Int × Int × Int × Int × Int) (o61 : I2) (p3 : List Int) : CAct := (st 89 [(2, pt 2 0), (6, pt 3 0), (7, pt 4 0), (8, iv (w64 (z86.1 + (w64 (z86.2.1 * o61.2))))), (9, iv (w64 (0 - z86.2.1))), (30, sv 1 p3.length ANY), (31, iv (p3.length : Int)), (32, iv z86.2.2.1)])
def S27_7 (z86 : Int × Int × Int × Int × Int × Int × Int) (o61 : I2) (p3 : List Int) : CAct := (st 89 [(2, pt 2 0), (6, pt 3 0), (7, pt 4 0), (8, iv (w64 (z86.1 + (w64 (z86.2.1 * o61.2))))), (9, iv z86.2.1), (30, sv 1 p3.length ANY), (31, iv (p3.length : Int)), (32, iv z86.2.2.1)])
def S27_8 (z86 : Int × Int × Int × Int × Int × Int × Int) (p3 : List Int) : CAct := (st 89 [(2, pt 2 0), (6, pt 3 0), (7, pt 4 0), (8, iv z86.1), (9, iv z86.2.1), (12, pt 5 0), (14, pt 7 0), (30, sv 1 p3.length ANY), (31, iv (p3.length : Int)), (32, iv z86.2.2.1)])
def H27_9 (p2 : List I2) (p3 : List Int) (p0 p1 : Int) : List Blk := [ab 57 e57 p2, ab 3 e3 p3, cl 24 [iv p0, iv p1, sv 0 p2.length ANY], cl 83 [iv 0, iv 0], cl 83 [iv 0, iv 0]]
def S27_10 (z86 : Int × Int × Int × Int × Int × Int × Int) (p3 : List Int) : CAct := (st 89 [(2, pt 2 0), (6, pt 3 0), (7, pt 4 0), (8, iv z86.1), (9, iv z86.2.1), (12, pt 5 0), (30, sv 1 p3.length ANY), (31, iv (p3.length : Int)), (32, iv z86.2.2.1)])
def S27_11 (p3 : List Int) : CAct := (st 89 [(2, pt 2 0), (6, pt 3 0), (7, pt 4 0), (8, iv 0), (9, iv 1), (30, sv 1 p3.length ANY), (31, iv (p3.length : Int)), (32, iv 0)])
def S27_12 (p3 : List Int) : CAct := (st 89 [(1, sv 1 p3.length ANY), (2, pt 2 0), (21, iv (p3.length : Int))])
def H27_13 (p2 : List I2) (p3 : List Int) : List Blk := [ab 57 e57 p2, ab 3 e3 p3]
def F27l0 (p0 p1 : Int) (p2 : List I2) (p3 : List Int) (z86 : Int × Int × Int × Int × Int × Int × Int) : Option (Int ⊕ (Int × Int × Int × Int × Int)) :=
 if decide (z86.2.2.1 < (p3.length : Int)) then
  if (0 : Int) ≤ z86.2.2.1 ∧ z86.2.2.1 < (p3.length : Int) then
   some (List.getD p3 (Int.toNat z86.2.2.1) 0) >>= fun o55 =>
   F51 0 o55 (w64 ((p2.length : Int) - 1)) >>= fun r57 =>
   (
    if r57 then
     some (false)
    else
     some (true)
   : Option Bool) >>= fun m59 =>
   if m59 then
    some (.inl 6)
   else
    if (0 : Int) ≤ o55 ∧ o55 < (p2.length : Int) then
     some (List.getD p2 (Int.toNat o55) (0, 0)) >>= fun o61 =>
     F55 p0 p1 p2 o61.1 >>= fun r63 =>
     if z86.2.2.1 == 0 then
      (
       if decide (z86.2.1 < 0) then
        some (r63.2.1, r63.2.2)
       else
        some (r63.1.1, r63.1.2)
      : Option I2) >>= fun m71 =>
      F27l0 p0 p1 p2 p3 ((w64 (z86.1 + (w64 (z86.2.1 * o61.2)))), (w64 (0 - z86.2.1)), (w64 (z86.2.2.1 + 1)), r63.2.1, r63.2.2, m71.1, m71.2)
     else
      (
       if !((z86.2.2.2.2.2.1 == r63.1.1) && ((z86.2.2.2.2.2.2 == r63.1.2) && true)) then
        some (!((z86.2.2.2.2.2.1 == r63.2.1) && ((z86.2.2.2.2.2.2 == r63.2.2) && true)))
       else
        some (false)
      : Option Bool) >>= fun m75 =>
      if m75 then
       some (.inl 5)
      else
       (
        if decide (z86.2.1 < 0) then
         some (r63.2.1, r63.2.2)
        else
         some (r63.1.1, r63.1.2)
       : Option I2) >>= fun m81 =>
       F27l0 p0 p1 p2 p3 ((w64 (z86.1 + (w64 (z86.2.1 * o61.2)))), (w64 (0 - z86.2.1)), (w64 (z86.2.2.1 + 1)), z86.2.2.2.1, z86.2.2.2.2.1, m81.1, m81.2)
    else none
  else none
 else
  some (.inr (z86.1, z86.2.2.2.1, z86.2.2.2.2.1, z86.2.2.2.2.2.1, z86.2.2.2.2.2.2))
 partial_fixpoint
def F27 (p0 p1 : Int) (p2 : List I2) (p3 : List Int) : Option Int :=
 F23 p0 p1 p2 >>= fun r1 =>
 if r1 != 0 then
  some r1
 else
  F51 2 (p3.length : Int) 60 >>= fun r4 =>
  (
   if r4 then
    some ((Int.tmod (p3.length : Int) 2) != 0)
   else
    some (true)
  : Option Bool) >>= fun m6 =>
  if m6 then
   some 4
  else
   F27l0 p0 p1 p2 p3 (0, 1, 0, 0, 0, 0, 0) >>= fun r87 =>
   match r87 with
   | .inl o89 =>
    some o89
   | .inr o90 =>
    if !((o90.2.2.2.1 == o90.2.1) && ((o90.2.2.2.2 == o90.2.2.1) && true)) then
     some 5
    else
     if o90.1 == 0 then
      some 12
     else
      some 0
def V27 (b : Nat) (r : Int) : Value := iv r
def N27 (b : Nat) (r : Int) : List Blk := []
def P27l0 (p0 p1 : Int) (p2 : List I2) (p3 : List Int) (r : Int ⊕ (Int × Int × Int × Int × Int)) : Post := fun e a h => (match r with | .inl q0 => e = .ret ∧ Wk Try.prog 2 2 a h (st 89 [(4, iv q0)]) (H27_13 p2 p3) | .inr q0 => e = .exit 0 ∧ Wk Try.prog 2 2 a h (st 89 [(6, pt 2 0), (7, pt 3 0), (8, iv q0.1)]) [ab 57 e57 p2, ab 3 e3 p3, cl 83 [iv q0.2.1, iv q0.2.2.1], cl 83 [iv q0.2.2.2.1, iv q0.2.2.2.2]])
theorem L27l0 (p0 p1 : Int) (p2 : List I2) (p3 : List Int) (v20 v21 v22 v23 v24 v25 v26 : Int) (r : Int ⊕ (Int × Int × Int × Int × Int)) (hF : F27l0 p0 p1 p2 p3 (v20, v21, v22, v23, v24, v25, v26) = some r) : TL Try.prog 2 2 c27.s2.s2.s2.s2.s2.s1.s2.bd.bd (st 89 [(2, pt 2 0), (6, pt 3 0), (7, pt 4 0), (8, iv v20), (9, iv v21), (30, sv 1 p3.length ANY), (31, iv (p3.length : Int)), (32, iv v22)]) [ab 57 e57 p2, ab 3 e3 p3, cl 24 [iv p0, iv p1, sv 0 p2.length ANY], cl 83 [iv v23, iv v24], cl 83 [iv v25, iv v26]] (P27l0 p0 p1 p2 p3 r) := by
 refine F27l0.partial_correctness p0 p1 p2 p3 (motive := fun z86 r => TL Try.prog 2 2 c27.s2.s2.s2.s2.s2.s1.s2.bd.bd (st 89 [(2, pt 2 0), (6, pt 3 0), (7, pt 4 0), (8, iv z86.1), (9, iv z86.2.1), (30, sv 1 p3.length ANY), (31, iv (p3.length : Int)), (32, iv z86.2.2.1)]) (H27_3 p2 p3 p0 p1 z86) (P27l0 p0 p1 p2 p3 r)) ?_ (v20, v21, v22, v23, v24, v25, v26) r hF
 clear hF r v20 v21 v22 v23 v24 v25 v26
 intro again ih z86 r hF
 refine TL.round (TS.sq (TS.rg (TI.ra 1 [2, 6, 7, 8, 9, 30, 31, 32, 33] (st 89 [(2, pt 2 0), (6, pt 3 0), (7, pt 4 0), (8, iv z86.1), (9, iv z86.2.1), (30, sv 1 p3.length ANY), (31, iv (p3.length : Int)), (32, iv z86.2.2.1), (33, .bool (decide (z86.2.2.1 < (p3.length : Int))))]) (TI.dn (NX.sq (TS.sq ?_))))))
 refine TS.cd (.tmp 33) (decide (z86.2.2.1 < (p3.length : Int))) (fun hc53 => ?_) (fun hc53 => ?_)
 · replace hF := of_pos hF hc53
   refine TS.sk (NX.sq (TS.sq (TS.bk 1 (TS.sq ?_))))
   obtain ⟨hg54, hF⟩ := of_guard hF
   obtain ⟨o55, h56, hF⟩ := of_do hF
   replace h56 := sj h56
   refine TS.rg (TI.ra 1 [2, 6, 7, 8, 9, 30, 31, 32, 34] (st 89 [(2, pt 2 0), (6, pt 3 0), (7, pt 4 0), (8, iv z86.1), (9, iv z86.2.1), (30, sv 1 p3.length ANY), (31, iv (p3.length : Int)), (32, iv z86.2.2.1), (34, iv z86.2.2.1)]) (TI.o { val := .pointer (some ⟨1, 0 + (Int.toNat z86.2.2.1) * 1, none⟩) } (q_ixS 1 0 ((Int.toNat z86.2.2.1) * 1) (by kernel_rfl) hg54) [2, 6, 7, 8, 9, 30, 31, 32, 34, 35] [0, 1, 2, 3, 4] (st 89 [(2, pt 2 0), (6, pt 3 0), (7, pt 4 0), (8, iv z86.1), (9, iv z86.2.1), (30, sv 1 p3.length ANY), (31, iv (p3.length : Int)), (32, iv z86.2.2.1), (34, iv z86.2.2.1), (35, .pointer (some ⟨1, 0 + (Int.toNat z86.2.2.1) * 1, none⟩))]) (H27_3 p2 p3 p0 p1 z86) (TI.o { val := iv o55 } (q_n1a Try.prog (H27_3 p2 p3 p0 p1 z86) 3 1 (0 + (Int.toNat z86.2.2.1) * 1) p3 e3 1 3 (Int.toNat z86.2.2.1) 0 0 h56) [2, 6, 7, 8, 9, 30, 31, 32, 34, 36] [0, 1, 2, 3, 4] (st 89 [(2, pt 2 0), (6, pt 3 0), (7, pt 4 0), (8, iv z86.1), (9, iv z86.2.1), (30, sv 1 p3.length ANY), (31, iv (p3.length : Int)), (32, iv z86.2.2.1), (34, iv z86.2.2.1), (36, iv o55)]) (H27_3 p2 p3 p0 p1 z86) (TI.ra 2 [2, 6, 7, 8, 9, 10, 11, 30, 31, 32] (st 89 [(2, pt 2 0), (6, pt 3 0), (7, pt 4 0), (8, iv z86.1), (9, iv z86.2.1), (10, iv z86.2.2.1), (11, iv o55), (30, sv 1 p3.length ANY), (31, iv (p3.length : Int)), (32, iv z86.2.2.1)]) (TI.dn (NX.sq (TS.sq (TS.sq ?_))))))))
   obtain ⟨r57, h58, hF⟩ := of_do hF
   obtain ⟨m59, hm85, hF⟩ := of_do hF
   have hK : NX Try.prog 2 2 [.sq c27.s2.s2.s2.s2.s2.s1.s2.bd.bd.s2.s2.s1.bd.s2.s1.s2, .sq c27.s2.s2.s2.s2.s2.s1.s2.bd.bd.s2.s2.s1.bd.s2.s2, .bk 1, .sq c27.s2.s2.s2.s2.s2.s1.s2.bd.bd.s2.s2.s2] (Rd Try.prog 2 2 c27.s2.s2.s2.s2.s2.s1.s2.bd.bd (P27l0 p0 p1 p2 p3 r)) .normal (st 89 [(2, pt 2 0), (6, pt 3 0), (7, pt 4 0), (8, iv z86.1), (9, iv z86.2.1), (10, iv z86.2.2.1), (11, iv o55), (30, sv 1 p3.length ANY), (31, iv (p3.length : Int)), (32, iv z86.2.2.1), (43, .bool m59)]) (H27_3 p2 p3 p0 p1 z86) := by
    refine NX.sq ?_
    cases m59 with
    | true =>
     replace hF := of_pos hF rfl
     refine TS.cdT (.tmp 43) (TS.sq (TS.rg (TI.rn 1 [4] [0, 1] (st 89 [(4, iv 6)]) [ab 57 e57 p2, ab 3 e3 p3, .dead, .dead, .dead] (TI.dn (NX.sq (TS.rt (NX.sqR (NX.bkR ?_))))))))
     refine NX.sqR ?_
     have hF := sj hF
     subst hF
     exact Rd.out (e := .ret) (by intro h; cases h) (And.intro rfl (Wk.an [] (.ac (.ac (.nil _))) [iv 6] (.fl .nil)))
    | false =>
     replace hF := of_neg hF rfl
     refine TS.cdF (.tmp 43) (TS.sk (NX.sq (TS.sq ?_)))
     obtain ⟨hg60, hF⟩ := of_guard hF
     obtain ⟨o61, h62, hF⟩ := of_do hF
     replace h62 := sj h62
     refine TS.rg (TI.ra 3 [2, 6, 7, 8, 9, 10, 30, 31, 32, 45, 46] (st 89 [(2, pt 2 0), (6, pt 3 0), (7, pt 4 0), (8, iv z86.1), (9, iv z86.2.1), (10, iv z86.2.2.1), (30, sv 1 p3.length ANY), (31, iv (p3.length : Int)), (32, iv z86.2.2.1), (45, sv 0 p2.length ANY), (46, iv o55)]) (TI.o { val := .pointer (some ⟨0, 0 + (Int.toNat o55) * 2, none⟩) } (q_ixS 0 0 ((Int.toNat o55) * 2) (by kernel_rfl) hg60) [2, 6, 7, 8, 9, 10, 30, 31, 32, 47] [0, 1, 2, 3, 4] (st 89 [(2, pt 2 0), (6, pt 3 0), (7, pt 4 0), (8, iv z86.1), (9, iv z86.2.1), (10, iv z86.2.2.1), (30, sv 1 p3.length ANY), (31, iv (p3.length : Int)), (32, iv z86.2.2.1), (47, .pointer (some ⟨0, 0 + (Int.toNat o55) * 2, none⟩))]) (H27_3 p2 p3 p0 p1 z86) (TI.o { val := ag [iv o61.1, iv o61.2] } (q_nAa Try.prog (H27_3 p2 p3 p0 p1 z86) 57 0 (0 + (Int.toNat o55) * 2) p2 e57 2 57 (Int.toNat o55) (0, 0) h62) [2, 6, 7, 8, 9, 10, 30, 31, 32, 48] [0, 1, 2, 3, 4] (st 89 [(2, pt 2 0), (6, pt 3 0), (7, pt 4 0), (8, iv z86.1), (9, iv z86.2.1), (10, iv z86.2.2.1), (30, sv 1 p3.length ANY), (31, iv (p3.length : Int)), (32, iv z86.2.2.1), (48, ag [iv o61.1, iv o61.2])]) (H27_3 p2 p3 p0 p1 z86) (TI.rn 2 [2, 6, 7, 8, 9, 10, 12, 30, 31, 32] [0, 1, 2, 3, 4, 5] (st 89 [(2, pt 2 0), (6, pt 3 0), (7, pt 4 0), (8, iv z86.1), (9, iv z86.2.1), (10, iv z86.2.2.1), (12, pt 5 0), (30, sv 1 p3.length ANY), (31, iv (p3.length : Int)), (32, iv z86.2.2.1)]) [ab 57 e57 p2, ab 3 e3 p3, cl 24 [iv p0, iv p1, sv 0 p2.length ANY], cl 83 [iv z86.2.2.2.1, iv z86.2.2.2.2.1], cl 83 [iv z86.2.2.2.2.2.1, iv z86.2.2.2.2.2.2], cl 57 [iv o61.1, iv o61.2]] (TI.dn (NX.sq (TS.sq ?_)))))))
     obtain ⟨r63, h64, hF⟩ := of_do hF
     refine TS.rg (TI.ra 3 [2, 6, 7, 8, 9, 10, 12, 30, 31, 32, 50, 52] (st 89 [(2, pt 2 0), (6, pt 3 0), (7, pt 4 0), (8, iv z86.1), (9, iv z86.2.1), (10, iv z86.2.2.1), (12, pt 5 0), (30, sv 1 p3.length ANY), (31, iv (p3.length : Int)), (32, iv z86.2.2.1), (50, ag [iv p0, iv p1, sv 0 p2.length ANY]), (52, iv o61.1)]) (TI.cp 55 [ag [iv p0, iv p1, sv 0 p2.length ANY], iv o61.1] (.tuple ⟨[ag [iv r63.1.1, iv r63.1.2], ag [iv r63.2.1, iv r63.2.2]]⟩) [] (PureSim.ren (hc := [ab 57 e57 p2]) (fun i => List.getD [(0, 0)] i (0, 0)) (C55 _ _ _ _ _ h64) (.ac (.nil _)) (.cons (Rn.agg' (.fl (.fl (.cons (Rn.any _ _ _ _ _ _ (nl rfl) rfl rfl (by decide)) .nil)))) (.fl .nil)) (.flat (by kernel_rfl)) newflat_nil) (TI.rn 7 [2, 6, 7, 8, 9, 10, 12, 13, 14, 30, 31, 32] [0, 1, 2, 3, 4, 5, 6, 7] (st 89 [(2, pt 2 0), (6, pt 3 0), (7, pt 4 0), (8, iv z86.1), (9, iv z86.2.1), (10, iv z86.2.2.1), (12, pt 5 0), (13, pt 6 0), (14, pt 7 0), (30, sv 1 p3.length ANY), (31, iv (p3.length : Int)), (32, iv z86.2.2.1)]) (H27_0 p2 p3 p0 p1 z86 o61 r63) (TI.dn (NX.sq (TS.sq (TS.bk 2 (TS.sq ?_))))))))
     refine TS.rg (TI.ra 3 [2, 6, 7, 8, 9, 12, 13, 14, 30, 31, 32, 56] (st 89 [(2, pt 2 0), (6, pt 3 0), (7, pt 4 0), (8, iv z86.1), (9, iv z86.2.1), (12, pt 5 0), (13, pt 6 0), (14, pt 7 0), (30, sv 1 p3.length ANY), (31, iv (p3.length : Int)), (32, iv z86.2.2.1), (56, .bool (z86.2.2.1 == 0))]) (TI.dn (NX.sq ?_)))
     refine TS.cd (.tmp 56) (z86.2.2.1 == 0) (fun hc65 => ?_) (fun hc65 => ?_)
     · replace hF := of_pos hF hc65
       refine TS.rg (TI.rn 2 [2, 6, 7, 8, 9, 12, 13, 14, 30, 31, 32] [0, 1, 2, 3, 4, 5, 6, 7] (st 89 [(2, pt 2 0), (6, pt 3 0), (7, pt 4 0), (8, iv z86.1), (9, iv z86.2.1), (12, pt 5 0), (13, pt 6 0), (14, pt 7 0), (30, sv 1 p3.length ANY), (31, iv (p3.length : Int)), (32, iv z86.2.2.1)]) [ab 57 e57 p2, ab 3 e3 p3, cl 24 [iv p0, iv p1, sv 0 p2.length ANY], cl 83 [iv r63.2.1, iv r63.2.2], cl 83 [iv z86.2.2.2.2.2.1, iv z86.2.2.2.2.2.2], cl 57 [iv o61.1, iv o61.2], cl 83 [iv r63.1.1, iv r63.1.2], cl 83 [iv r63.2.1, iv r63.2.2]] (TI.dn (NX.bk (NX.sq (TS.sq (TS.rg (TI.rn 2 [2, 6, 7, 8, 9, 12, 14, 30, 31, 32] [0, 1, 2, 3, 4, 5, 7] (S27_8 z86 p3) [ab 57 e57 p2, ab 3 e3 p3, cl 24 [iv p0, iv p1, sv 0 p2.length ANY], cl 83 [iv r63.2.1, iv r63.2.2], cl 83 [iv r63.1.1, iv r63.1.2], cl 57 [iv o61.1, iv o61.2], .dead, cl 83 [iv r63.2.1, iv r63.2.2]] (TI.dn ?_))))))))
       refine NX.sq (TS.sq (TS.sq (TS.rg (TI.ra 2 [2, 6, 7, 8, 9, 12, 14, 30, 31, 32, 71] (S27_4 z86 p3) (TI.dn (NX.sq ?_))))))
       obtain ⟨m71, hm72, hF⟩ := of_do hF
       have hK : NX Try.prog 2 2 [.sq c27.s2.s2.s2.s2.s2.s1.s2.bd.bd.s2.s2.s1.bd.s2.s2.s2.s2.s2.s2.s2, .bk 1, .sq c27.s2.s2.s2.s2.s2.s1.s2.bd.bd.s2.s2.s2] (Rd Try.prog 2 2 c27.s2.s2.s2.s2.s2.s1.s2.bd.bd (P27l0 p0 p1 p2 p3 r)) .normal (S27_10 z86 p3) [ab 57 e57 p2, ab 3 e3 p3, cl 24 [iv p0, iv p1, sv 0 p2.length ANY], cl 83 [iv r63.2.1, iv r63.2.2], cl 83 [iv m71.1, iv m71.2], cl 57 [iv o61.1, iv o61.2]] := by
        refine NX.sq (TS.sq (TS.rg (TI.rn 7 [2, 6, 7, 8, 9, 30, 31, 32] [0, 1, 2, 3, 4] (S27_7 z86 o61 p3) [ab 57 e57 p2, ab 3 e3 p3, cl 24 [iv p0, iv p1, sv 0 p2.length ANY], cl 83 [iv r63.2.1, iv r63.2.2], cl 83 [iv m71.1, iv m71.2], .dead] (TI.dn (NX.sq (TS.rg (TI.ra 3 [2, 6, 7, 8, 9, 30, 31, 32] (S27_6 z86 o61 p3) (TI.dn ?_))))))))
        refine NX.bk (NX.sq (TS.rg (TI.ra 2 [2, 6, 7, 8, 9, 30, 31, 32] (S27_5 z86 o61 p3) (TI.dn ?_))))
        exact Rd.again (a2 := (S27_5 z86 o61 p3)) (h2 := [ab 57 e57 p2, ab 3 e3 p3, cl 24 [iv p0, iv p1, sv 0 p2.length ANY], cl 83 [iv r63.2.1, iv r63.2.2], cl 83 [iv m71.1, iv m71.2]]) (Wk.an [2, 3, 4] (.ac (.ac (.lt (.fl (.fl (.sl .nil))) (.lt (.fl (.fl .nil)) (.lt (.fl (.fl .nil)) (.nil _)))))) [pt 2 0, pt 3 0, pt 4 0, iv (w64 (z86.1 + (w64 (z86.2.1 * o61.2)))), iv (w64 (0 - z86.2.1)), sv 1 p3.length ANY, iv (p3.length : Int), iv (w64 (z86.2.2.1 + 1))] (.pp (.pp (.pp (.fl (.fl (.sl (.fl (.fl .nil))))))))) (ih ((w64 (z86.1 + (w64 (z86.2.1 * o61.2)))), (w64 (0 - z86.2.1)), (w64 (z86.2.2.1 + 1)), r63.2.1, r63.2.2, m71.1, m71.2) _ hF)
       clear hF
       have hF := hm72
       clear hm72
       refine TS.start ?_
       refine TS.cd (.tmp 71) (decide (z86.2.1 < 0)) (fun hc73 => ?_) (fun hc73 => ?_)
       · replace hF := of_pos hF hc73
         refine TS.rg (TI.rn 2 [2, 6, 7, 8, 9, 12, 30, 31, 32] [0, 1, 2, 3, 4, 5] (S27_10 z86 p3) [ab 57 e57 p2, ab 3 e3 p3, cl 24 [iv p0, iv p1, sv 0 p2.length ANY], cl 83 [iv r63.2.1, iv r63.2.2], cl 83 [iv r63.2.1, iv r63.2.2], cl 57 [iv o61.1, iv o61.2], .dead, .dead] (TI.dn ?_))
         have hF := sj hF
         subst hF
         exact TS.weak (by exact (Wk.an [2, 3, 4, 5] (.ac (.ac (.lt (.fl (.fl (.sl .nil))) (.lt (.fl (.fl .nil)) (.lt (.fl (.fl .nil)) (.lt (.fl (.fl .nil)) (.nil _))))))) [pt 2 0, pt 3 0, pt 4 0, iv z86.1, iv z86.2.1, pt 5 0, sv 1 p3.length ANY, iv (p3.length : Int), iv z86.2.2.1] (.pp (.pp (.pp (.fl (.fl (.pp (.sl (.fl (.fl .nil))))))))))) hK
       replace hF := of_neg hF hc73
       refine TS.sk ?_
       have hF := sj hF
       subst hF
       exact TS.weak (by exact (Wk.an [2, 3, 4, 5] (.ac (.ac (.lt (.fl (.fl (.sl .nil))) (.lt (.fl (.fl .nil)) (.lt (.fl (.fl .nil)) (.lt (.fl (.fl .nil)) (.nil _))))))) [pt 2 0, pt 3 0, pt 4 0, iv z86.1, iv z86.2.1, pt 5 0, sv 1 p3.length ANY, iv (p3.length : Int), iv z86.2.2.1] (.pp (.pp (.pp (.fl (.fl (.pp (.sl (.fl (.fl .nil))))))))))) hK
     replace hF := of_neg hF hc65
     refine TS.sq ?_
     obtain ⟨m75, hm84, hF⟩ := of_do hF
     have hK : NX Try.prog 2 2 [.sq c27.s2.s2.s2.s2.s2.s1.s2.bd.bd.s2.s2.s1.bd.s2.s2.s2.s2.s1.bd.s2.el.s2, .bk 2, .sq c27.s2.s2.s2.s2.s2.s1.s2.bd.bd.s2.s2.s1.bd.s2.s2.s2.s2.s2, .bk 1, .sq c27.s2.s2.s2.s2.s2.s1.s2.bd.bd.s2.s2.s2] (Rd Try.prog 2 2 c27.s2.s2.s2.s2.s2.s1.s2.bd.bd (P27l0 p0 p1 p2 p3 r)) .normal (st 89 [(2, pt 2 0), (6, pt 3 0), (7, pt 4 0), (8, iv z86.1), (9, iv z86.2.1), (12, pt 5 0), (13, pt 6 0), (14, pt 7 0), (30, sv 1 p3.length ANY), (31, iv (p3.length : Int)), (32, iv z86.2.2.1), (60, .bool m75)]) (H27_0 p2 p3 p0 p1 z86 o61 r63) := by
      refine NX.sq ?_
      cases m75 with
      | true =>
       replace hF := of_pos hF rfl
       refine TS.cdT (.tmp 60) (TS.sq (TS.rg (TI.rn 1 [4] [0, 1] (st 89 [(4, iv 5)]) [ab 57 e57 p2, ab 3 e3 p3, .dead, .dead, .dead, .dead, .dead, .dead] (TI.dn (NX.sq (TS.rt (NX.bkR (NX.sqR ?_))))))))
       refine NX.bkR (NX.sqR ?_)
       have hF := sj hF
       subst hF
       exact Rd.out (e := .ret) (by intro h; cases h) (And.intro rfl (Wk.an [] (.ac (.ac (.nil _))) [iv 5] (.fl .nil)))
      | false =>
       replace hF := of_neg hF rfl
       refine TS.cdF (.tmp 60) (TS.sk (NX.bk (NX.sq (TS.sq (TS.rg (TI.rn 2 [2, 6, 7, 8, 9, 12, 14, 30, 31, 32] [0, 1, 2, 3, 4, 5, 7] (S27_8 z86 p3) [ab 57 e57 p2, ab 3 e3 p3, cl 24 [iv p0, iv p1, sv 0 p2.length ANY], cl 83 [iv z86.2.2.2.1, iv z86.2.2.2.2.1], cl 83 [iv r63.1.1, iv r63.1.2], cl 57 [iv o61.1, iv o61.2], .dead, cl 83 [iv r63.2.1, iv r63.2.2]] (TI.dn (NX.sq ?_))))))))
       refine TS.sq (TS.sq (TS.rg (TI.ra 2 [2, 6, 7, 8, 9, 12, 14, 30, 31, 32, 71] (S27_4 z86 p3) (TI.dn (NX.sq ?_)))))
       obtain ⟨m81, hm82, hF⟩ := of_do hF
       have hK : NX Try.prog 2 2 [.sq c27.s2.s2.s2.s2.s2.s1.s2.bd.bd.s2.s2.s1.bd.s2.s2.s2.s2.s2.s2.s2, .bk 1, .sq c27.s2.s2.s2.s2.s2.s1.s2.bd.bd.s2.s2.s2] (Rd Try.prog 2 2 c27.s2.s2.s2.s2.s2.s1.s2.bd.bd (P27l0 p0 p1 p2 p3 r)) .normal (S27_10 z86 p3) [ab 57 e57 p2, ab 3 e3 p3, cl 24 [iv p0, iv p1, sv 0 p2.length ANY], cl 83 [iv z86.2.2.2.1, iv z86.2.2.2.2.1], cl 83 [iv m81.1, iv m81.2], cl 57 [iv o61.1, iv o61.2]] := by
        refine NX.sq (TS.sq (TS.rg (TI.rn 7 [2, 6, 7, 8, 9, 30, 31, 32] [0, 1, 2, 3, 4] (S27_7 z86 o61 p3) [ab 57 e57 p2, ab 3 e3 p3, cl 24 [iv p0, iv p1, sv 0 p2.length ANY], cl 83 [iv z86.2.2.2.1, iv z86.2.2.2.2.1], cl 83 [iv m81.1, iv m81.2], .dead] (TI.dn (NX.sq (TS.rg (TI.ra 3 [2, 6, 7, 8, 9, 30, 31, 32] (S27_6 z86 o61 p3) (TI.dn ?_))))))))
        refine NX.bk (NX.sq (TS.rg (TI.ra 2 [2, 6, 7, 8, 9, 30, 31, 32] (S27_5 z86 o61 p3) (TI.dn ?_))))
        exact Rd.again (a2 := (S27_5 z86 o61 p3)) (h2 := [ab 57 e57 p2, ab 3 e3 p3, cl 24 [iv p0, iv p1, sv 0 p2.length ANY], cl 83 [iv z86.2.2.2.1, iv z86.2.2.2.2.1], cl 83 [iv m81.1, iv m81.2]]) (Wk.an [2, 3, 4] (.ac (.ac (.lt (.fl (.fl (.sl .nil))) (.lt (.fl (.fl .nil)) (.lt (.fl (.fl .nil)) (.nil _)))))) [pt 2 0, pt 3 0, pt 4 0, iv (w64 (z86.1 + (w64 (z86.2.1 * o61.2)))), iv (w64 (0 - z86.2.1)), sv 1 p3.length ANY, iv (p3.length : Int), iv (w64 (z86.2.2.1 + 1))] (.pp (.pp (.pp (.fl (.fl (.sl (.fl (.fl .nil))))))))) (ih ((w64 (z86.1 + (w64 (z86.2.1 * o61.2)))), (w64 (0 - z86.2.1)), (w64 (z86.2.2.1 + 1)), z86.2.2.2.1, z86.2.2.2.2.1, m81.1, m81.2) _ hF)
       clear hF
       have hF := hm82
       clear hm82
       refine TS.start ?_
       refine TS.cd (.tmp 71) (decide (z86.2.1 < 0)) (fun hc83 => ?_) (fun hc83 => ?_)
       · replace hF := of_pos hF hc83
         refine TS.rg (TI.rn 2 [2, 6, 7, 8, 9, 12, 30, 31, 32] [0, 1, 2, 3, 4, 5] (S27_10 z86 p3) [ab 57 e57 p2, ab 3 e3 p3, cl 24 [iv p0, iv p1, sv 0 p2.length ANY], cl 83 [iv z86.2.2.2.1, iv z86.2.2.2.2.1], cl 83 [iv r63.2.1, iv r63.2.2], cl 57 [iv o61.1, iv o61.2], .dead, .dead] (TI.dn ?_))
         have hF := sj hF
         subst hF
         exact TS.weak (by exact (Wk.an [2, 3, 4, 5] (.ac (.ac (.lt (.fl (.fl (.sl .nil))) (.lt (.fl (.fl .nil)) (.lt (.fl (.fl .nil)) (.lt (.fl (.fl .nil)) (.nil _))))))) [pt 2 0, pt 3 0, pt 4 0, iv z86.1, iv z86.2.1, pt 5 0, sv 1 p3.length ANY, iv (p3.length : Int), iv z86.2.2.1] (.pp (.pp (.pp (.fl (.fl (.pp (.sl (.fl (.fl .nil))))))))))) hK
       replace hF := of_neg hF hc83
       refine TS.sk ?_
       have hF := sj hF
       subst hF
       exact TS.weak (by exact (Wk.an [2, 3, 4, 5] (.ac (.ac (.lt (.fl (.fl (.sl .nil))) (.lt (.fl (.fl .nil)) (.lt (.fl (.fl .nil)) (.lt (.fl (.fl .nil)) (.nil _))))))) [pt 2 0, pt 3 0, pt 4 0, iv z86.1, iv z86.2.1, pt 5 0, sv 1 p3.length ANY, iv (p3.length : Int), iv z86.2.2.1] (.pp (.pp (.pp (.fl (.fl (.pp (.sl (.fl (.fl .nil))))))))))) hK
     rcases Bool.eq_false_or_eq_true (!((z86.2.2.2.2.2.1 == r63.1.1) && ((z86.2.2.2.2.2.2 == r63.1.2) && true))) with hc74 | hc74
     · replace hm84 := of_pos hm84 hc74
       have hm84 := sj hm84
       subst hm84
       exact TS.rg (TI.ra 2 [2, 6, 7, 8, 9, 12, 13, 14, 30, 31, 32, 61, 62] (S27_1 z86 p3 r63) (TI.o { val := .bool true } (q_conv (e := !((z86.2.2.2.2.2.1 == r63.1.1) && ((z86.2.2.2.2.2.2 == r63.1.2) && true))) (b := true) (by kernel_rfl) hc74) [2, 6, 7, 8, 9, 12, 13, 14, 30, 31, 32, 63] [0, 1, 2, 3, 4, 5, 6, 7] (st 89 [(2, pt 2 0), (6, pt 3 0), (7, pt 4 0), (8, iv z86.1), (9, iv z86.2.1), (12, pt 5 0), (13, pt 6 0), (14, pt 7 0), (30, sv 1 p3.length ANY), (31, iv (p3.length : Int)), (32, iv z86.2.2.1), (63, .bool true)]) (H27_0 p2 p3 p0 p1 z86 o61 r63) (TI.ra 6 [2, 6, 7, 8, 9, 12, 13, 14, 30, 31, 32, 60] (st 89 [(2, pt 2 0), (6, pt 3 0), (7, pt 4 0), (8, iv z86.1), (9, iv z86.2.1), (12, pt 5 0), (13, pt 6 0), (14, pt 7 0), (30, sv 1 p3.length ANY), (31, iv (p3.length : Int)), (32, iv z86.2.2.1), (60, .bool (!((z86.2.2.2.2.2.1 == r63.2.1) && ((z86.2.2.2.2.2.2 == r63.2.2) && true))))]) (TI.dn hK))))
     replace hm84 := of_neg hm84 hc74
     have hm84 := sj hm84
     subst hm84
     exact TS.rg (TI.ra 2 [2, 6, 7, 8, 9, 12, 13, 14, 30, 31, 32, 61, 62] (S27_1 z86 p3 r63) (TI.o { val := .bool false } (q_conv (e := !((z86.2.2.2.2.2.1 == r63.1.1) && ((z86.2.2.2.2.2.2 == r63.1.2) && true))) (b := false) (by kernel_rfl) hc74) [2, 6, 7, 8, 9, 12, 13, 14, 30, 31, 32, 63] [0, 1, 2, 3, 4, 5, 6, 7] (st 89 [(2, pt 2 0), (6, pt 3 0), (7, pt 4 0), (8, iv z86.1), (9, iv z86.2.1), (12, pt 5 0), (13, pt 6 0), (14, pt 7 0), (30, sv 1 p3.length ANY), (31, iv (p3.length : Int)), (32, iv z86.2.2.1), (63, .bool false)]) (H27_0 p2 p3 p0 p1 z86 o61 r63) (TI.ra 6 [2, 6, 7, 8, 9, 12, 13, 14, 30, 31, 32, 60] (st 89 [(2, pt 2 0), (6, pt 3 0), (7, pt 4 0), (8, iv z86.1), (9, iv z86.2.1), (12, pt 5 0), (13, pt 6 0), (14, pt 7 0), (30, sv 1 p3.length ANY), (31, iv (p3.length : Int)), (32, iv z86.2.2.1), (60, .bool false)]) (TI.dn hK))))
   cases r57 with
   | true =>
    replace hm85 := of_pos hm85 rfl
    have hm85 := sj hm85
    subst hm85
    exact TS.rg (TI.ra 5 [2, 6, 7, 8, 9, 10, 11, 30, 31, 32, 37, 41] (S27_2 z86 o55 p3 p2) (TI.cf (C51 _ _ _ _ h58) (TI.ra 1 [2, 6, 7, 8, 9, 10, 11, 30, 31, 32, 43] (st 89 [(2, pt 2 0), (6, pt 3 0), (7, pt 4 0), (8, iv z86.1), (9, iv z86.2.1), (10, iv z86.2.2.1), (11, iv o55), (30, sv 1 p3.length ANY), (31, iv (p3.length : Int)), (32, iv z86.2.2.1), (43, .bool false)]) (TI.dn hK))))
   | false =>
    replace hm85 := of_neg hm85 rfl
    have hm85 := sj hm85
    subst hm85
    exact TS.rg (TI.ra 5 [2, 6, 7, 8, 9, 10, 11, 30, 31, 32, 37, 41] (S27_2 z86 o55 p3 p2) (TI.cf (C51 _ _ _ _ h58) (TI.ra 1 [2, 6, 7, 8, 9, 10, 11, 30, 31, 32, 43] (st 89 [(2, pt 2 0), (6, pt 3 0), (7, pt 4 0), (8, iv z86.1), (9, iv z86.2.1), (10, iv z86.2.2.1), (11, iv o55), (30, sv 1 p3.length ANY), (31, iv (p3.length : Int)), (32, iv z86.2.2.1), (43, .bool true)]) (TI.dn hK))))
 replace hF := of_neg hF hc53
 refine TS.ex 0 (NX.sqX ?_)
 have hF := sj hF
 subst hF
 exact Rd.out (e := .exit 0) (by intro h; cases h) (And.intro rfl (Wk.an [3, 4] (.ac (.ac (.lt (.fl (.fl .nil)) (.lt (.fl (.fl .nil)) (.nil _))))) [pt 3 0, pt 4 0, iv z86.1] (.pp (.pp (.fl .nil)))))
theorem B27 (p0 p1 : Int) (p2 : List I2) (p3 : List Int) (r : Int) (hF : F27 p0 p1 p2 p3 = some r) : TS Try.prog 2 2 c27 (st 89 [(0, ag [iv p0, iv p1, sv 0 p2.length ANY]), (1, sv 1 p3.length ANY)]) (H27_13 p2 p3) (NX Try.prog 2 2 [] (FinP Try.prog Try.f27 2 (V27 2 r) (N27 2 r))) := by
 unfold F27 at hF
 refine TS.sq (TS.rg (TI.rn 2 [1, 2] [0, 1, 2] (st 89 [(1, sv 1 p3.length ANY), (2, pt 2 0)]) [ab 57 e57 p2, ab 3 e3 p3, cl 24 [iv p0, iv p1, sv 0 p2.length ANY]] (TI.dn (NX.sq (TS.sq (TS.sq ?_))))))
 obtain ⟨r1, h2, hF⟩ := of_do hF
 refine TS.rg (TI.ra 1 [1, 2, 15] (st 89 [(1, sv 1 p3.length ANY), (2, pt 2 0), (15, ag [iv p0, iv p1, sv 0 p2.length ANY])]) (TI.cp 23 [ag [iv p0, iv p1, sv 0 p2.length ANY]] (iv r1) [] (PureSim.ren (hc := [ab 57 e57 p2]) (fun i => List.getD [(0, 0)] i (0, 0)) (C23 _ _ _ _ h2) (.ac (.nil _)) (.cons (Rn.agg' (.fl (.fl (.cons (Rn.any _ _ _ _ _ _ (nl rfl) rfl rfl (by decide)) .nil)))) .nil) (.flat (by kernel_rfl)) newflat_nil) (TI.ra 1 [1, 2, 5] (st 89 [(1, sv 1 p3.length ANY), (2, pt 2 0), (5, iv r1)]) (TI.dn (NX.sq (TS.sq (TS.rg (TI.ra 2 [1, 2, 5, 18] (st 89 [(1, sv 1 p3.length ANY), (2, pt 2 0), (5, iv r1), (18, .bool (r1 != 0))]) ?_))))))))
 refine TI.dn (NX.sq ?_)
 refine TS.cd (.tmp 18) (r1 != 0) (fun hc3 => ?_) (fun hc3 => ?_)
 · replace hF := of_pos hF hc3
   refine TS.sq (TS.rg (TI.rn 2 [4] [0, 1] (st 89 [(4, iv r1)]) [ab 57 e57 p2, ab 3 e3 p3, .dead] (TI.dn (NX.sq (TS.rt (NX.sqR ?_))))))
   have hF := sj hF
   subst hF
   exact ⟨.inr rfl, rfl, iv r1, by kernel_rfl, WkV.flat0 (by kernel_rfl) (nl rfl)⟩
 replace hF := of_neg hF hc3
 refine TS.sk (NX.sq (TS.sq (TS.sq ?_)))
 obtain ⟨r4, h5, hF⟩ := of_do hF
 obtain ⟨m6, hm93, hF⟩ := of_do hF
 have hK : NX Try.prog 2 2 [.sq c27.s2.s2.s1.s2, .sq c27.s2.s2.s2] (FinP Try.prog Try.f27 2 (V27 2 r) (N27 2 r)) .normal (st 89 [(1, sv 1 p3.length ANY), (2, pt 2 0), (29, .bool m6)]) [ab 57 e57 p2, ab 3 e3 p3, cl 24 [iv p0, iv p1, sv 0 p2.length ANY]] := by
  refine NX.sq ?_
  cases m6 with
  | true =>
   replace hF := of_pos hF rfl
   refine TS.cdT (.tmp 29) (TS.sq (TS.rg (TI.rn 1 [4] [0, 1] (st 89 [(4, iv 4)]) [ab 57 e57 p2, ab 3 e3 p3, .dead] (TI.dn (NX.sq (TS.rt (NX.sqR ?_)))))))
   have hF := sj hF
   subst hF
   exact ⟨.inr rfl, rfl, iv 4, by kernel_rfl, WkV.flat0 (by kernel_rfl) (nl rfl)⟩
  | false =>
   replace hF := of_neg hF rfl
   refine TS.cdF (.tmp 29) (TS.sk (NX.sq (TS.sq (TS.rg (TI.rn 2 [1, 2, 6, 7] [0, 1, 2, 3, 4] (st 89 [(1, sv 1 p3.length ANY), (2, pt 2 0), (6, pt 3 0), (7, pt 4 0)]) (H27_9 p2 p3 p0 p1) (TI.dn (NX.sq (TS.sq ?_))))))))
   refine TS.rg (TI.ra 2 [1, 2, 6, 7, 8, 9] (st 89 [(1, sv 1 p3.length ANY), (2, pt 2 0), (6, pt 3 0), (7, pt 4 0), (8, iv 0), (9, iv 1)]) (TI.dn (NX.sq (TS.sq (TS.sq (TS.rg (TI.ra 3 [2, 6, 7, 8, 9, 30, 31, 32] (S27_11 p3) (TI.dn ?_))))))))
   refine NX.sq (TS.bk 0 ?_)
   obtain ⟨r87, h88, hF⟩ := of_do hF
   refine TS.lp (TL.weak (a2 := (S27_11 p3)) (h2 := (H27_9 p2 p3 p0 p1)) (Wk.an [2, 3, 4] (.ac (.ac (.lt (.fl (.fl (.sl .nil))) (.lt (.fl (.fl .nil)) (.lt (.fl (.fl .nil)) (.nil _)))))) [pt 2 0, pt 3 0, pt 4 0, iv 0, iv 1, sv 1 p3.length ANY, iv (p3.length : Int), iv 0] (.pp (.pp (.pp (.fl (.fl (.sl (.fl (.fl .nil))))))))) (TL.post (L27l0 p0 p1 p2 p3 0 1 0 0 0 0 0 r87 h88) ?_))
   rintro e a1 h1 hp
   rcases r87 with o89 | o90
   · skip
     obtain ⟨rfl, hw⟩ := hp
     refine ⟨(st 89 [(4, iv o89)]), (H27_13 p2 p3), (NX.bkR (NX.sqR ?_)), hw⟩
     have hF := sj hF
     subst hF
     exact ⟨.inr rfl, rfl, iv o89, by kernel_rfl, WkV.flat0 (by kernel_rfl) (nl rfl)⟩
   skip
   obtain ⟨rfl, hw⟩ := hp
   refine ⟨(st 89 [(6, pt 2 0), (7, pt 3 0), (8, iv o90.1)]), [ab 57 e57 p2, ab 3 e3 p3, cl 83 [iv o90.2.1, iv o90.2.2.1], cl 83 [iv o90.2.2.2.1, iv o90.2.2.2.2]], (NX.bkX (NX.sq (TS.sq (TS.bk 3 (TS.sq (TS.rg (TI.rn 4 [8, 82] [0, 1] (st 89 [(8, iv o90.1), (82, .bool (!((o90.2.2.2.1 == o90.2.1) && ((o90.2.2.2.2 == o90.2.2.1) && true))))]) [ab 57 e57 p2, ab 3 e3 p3, .dead, .dead] (TI.dn ?_)))))))), hw⟩
   refine NX.sq ?_
   refine TS.cd (.tmp 82) (!((o90.2.2.2.1 == o90.2.1) && ((o90.2.2.2.2 == o90.2.2.1) && true))) (fun hc91 => ?_) (fun hc91 => ?_)
   · replace hF := of_pos hF hc91
     refine TS.sq (TS.rg (TI.ra 1 [4] (st 89 [(4, iv 5)]) (TI.dn (NX.sq (TS.rt (NX.bkR (NX.sqR ?_)))))))
     have hF := sj hF
     subst hF
     exact ⟨.inr rfl, rfl, iv 5, by kernel_rfl, WkV.flat0 (by kernel_rfl) (nl rfl)⟩
   replace hF := of_neg hF hc91
   refine TS.sq (TS.rg (TI.ra 3 [86] (st 89 [(86, .bool (o90.1 == 0))]) (TI.dn (NX.sq ?_))))
   refine TS.cd (.tmp 86) (o90.1 == 0) (fun hc92 => ?_) (fun hc92 => ?_)
   · replace hF := of_pos hF hc92
     refine TS.sq (TS.rg (TI.ra 1 [4] (st 89 [(4, iv 12)]) (TI.dn (NX.sq (TS.rt (NX.bkR (NX.sqR ?_)))))))
     have hF := sj hF
     subst hF
     exact ⟨.inr rfl, rfl, iv 12, by kernel_rfl, WkV.flat0 (by kernel_rfl) (nl rfl)⟩
   replace hF := of_neg hF hc92
   refine TS.sk (NX.bk (NX.sq (TS.sq (TS.rg (TI.ra 1 [4] (st 89 [(4, iv 0)]) (TI.dn (NX.sq (TS.rt ?_))))))))
   have hF := sj hF
   subst hF
   exact ⟨.inr rfl, rfl, iv 0, by kernel_rfl, WkV.flat0 (by kernel_rfl) (nl rfl)⟩
 cases r4 with
 | true =>
  replace hm93 := of_pos hm93 rfl
  have hm93 := sj hm93
  subst hm93
  exact TS.rg (TI.ra 2 [1, 2, 21] (S27_12 p3) (TI.cf (C51 _ _ _ _ h5) (TI.ra 7 [1, 2, 29] (st 89 [(1, sv 1 p3.length ANY), (2, pt 2 0), (29, .bool ((Int.tmod (p3.length : Int) 2) != 0))]) (TI.dn hK))))
 | false =>
  replace hm93 := of_neg hm93 rfl
  have hm93 := sj hm93
  subst hm93
  exact TS.rg (TI.ra 2 [1, 2, 21] (S27_12 p3) (TI.cf (C51 _ _ _ _ h5) (TI.ra 7 [1, 2, 29] (st 89 [(1, sv 1 p3.length ANY), (2, pt 2 0), (29, .bool true)]) (TI.dn hK))))
theorem C27 (p0 p1 : Int) (p2 : List I2) (p3 : List Int) (r : Int) (hF : F27 p0 p1 p2 p3 = some r) : PureSim Try.prog 27 [ag [iv p0, iv p1, sv 0 p2.length ANY], sv 1 p3.length ANY] (H27_13 p2 p3) (V27 2 r) (N27 2 r) :=
 PureSim.of_Fin Try.func27 (c := c27) (by kernel_rfl) (by kernel_rfl) 2 rfl [0, 1] [0, 1] (by kernel_rfl) (B27 p0 p1 p2 p3 r hF)
end
end Go.Proofs.Ytdekbjfjbbdjgaa
