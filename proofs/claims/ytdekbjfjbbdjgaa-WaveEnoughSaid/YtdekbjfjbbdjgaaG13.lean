/- What functions of the program compute, and that they do. -/
import Derived.Test.YtdekbjfjbbdjgaaGS
set_option linter.unusedVariables false
set_option linter.unusedSimpArgs false
set_option maxRecDepth 100000
set_option maxHeartbeats 4000000
namespace Go.Proofs.Ytdekbjfjbbdjgaa
open Go Go.Cl
noncomputable section
noncomputable def c30 : Code := Try.f30.code
def S30_0 (p0 p1 v9 v8 : Int) : CAct := (st 29 [(0, iv p0), (1, iv p1), (6, iv v9), (7, iv (Int.tmod v8 v9)), (19, .bool (decide (v9 > 0))), (20, iv v9), (21, iv v8), (22, iv v9), (23, iv (Int.tmod v8 v9))])
def S30_1 (p0 p1 v9 v8 : Int) : CAct := (st 29 [(0, iv p0), (1, iv p1), (6, iv v9), (7, iv v9), (19, .bool (decide (v9 > 0))), (20, iv v9), (21, iv v8), (22, iv v9), (23, iv (Int.tmod v8 v9))])
def F30l0 (p0 p1 v8 v9 : Int) : Option Int :=
 if decide (v9 > 0) then
  if v9 = 0 then none else
  F30l0 p0 p1 v9 (Int.tmod v8 v9)
 else
  some v8
 partial_fixpoint
def F30 (p0 p1 : Int) : Option I2 :=
 F51 1 p0 30 >>= fun r1 =>
 (
  if r1 then
   F51 1 p1 30 >>= fun r3 =>
   if r3 then
    some (false)
   else
    some (true)
  else
   some (true)
 : Option Bool) >>= fun m5 =>
 if m5 then
  some (0, 1)
 else
  F30l0 p0 p1 p0 p1 >>= fun r15 =>
  some (w64 ((w64 (p0 + p1)) - r15), 0)
def V30 (b : Nat) (r : I2) : Value := .tuple ⟨[iv r.1, iv r.2]⟩
def N30 (b : Nat) (r : I2) : List Blk := []
def P30l0 (p0 p1 r : Int) : Post := fun e a h => e = .exit 0 ∧ Wk Try.prog 0 0 a h (st 29 [(0, iv p0), (1, iv p1), (6, iv r)]) []
theorem L30l0 (p0 p1 v8 v9 r : Int) (hF : F30l0 p0 p1 v8 v9 = some r) : TL Try.prog 0 0 c30.s2.s2.s2.s1.bd.bd (st 29 [(0, iv p0), (1, iv p1), (6, iv v8), (7, iv v9)]) [] (P30l0 p0 p1 r) := by
 refine F30l0.partial_correctness p0 p1 (motive := fun v8 v9 r => TL Try.prog 0 0 c30.s2.s2.s2.s1.bd.bd (st 29 [(0, iv p0), (1, iv p1), (6, iv v8), (7, iv v9)]) [] (P30l0 p0 p1 r)) ?_ v8 v9 r hF
 clear hF r v8 v9
 intro again ih v8 v9 r hF
 refine TL.round (TS.sq (TS.sq (TS.rg (TI.ra 2 [0, 1, 6, 7, 19] (st 29 [(0, iv p0), (1, iv p1), (6, iv v8), (7, iv v9), (19, .bool (decide (v9 > 0)))]) (TI.dn (NX.sq ?_))))))
 refine TS.cd (.tmp 19) (decide (v9 > 0)) (fun hc13 => ?_) (fun hc13 => ?_)
 · replace hF := of_pos hF hc13
   refine TS.sk (NX.sq (TS.bk 1 ?_))
   obtain ⟨hg14, hF⟩ := of_guardn hF
   refine TS.drawE (id := 5) (b := true) (ops := c30.s2.s2.s2.s1.bd.bd.s2.bd.rops) (fin := (qs (S30_1 p0 p1 v9 v8) [] [] [])) (fin2 := (qs (S30_1 p0 p1 v9 v8) [] [] [])) (a1 := (S30_0 p0 p1 v9 v8)) (h1 := []) [] (fun e he => by cases he) mixed (by kernel_rfl) rfl 5 (by kernel_rfl) [] ?_ rfl (.inl ⟨rfl, rfl⟩) ?_ ?_
   · exact QI.run (s1 := (qs (st 29 [(0, iv p0), (1, iv p1), (6, iv v8), (7, iv v9), (19, .bool (decide (v9 > 0))), (20, iv v9), (21, iv v8), (22, iv v9)]) [] [] [])) 3 (by kernel_rfl) (by kernel_rfl) (QI.op (q := { val := iv (Int.tmod v8 v9) }) (s1 := (qs (st 29 [(0, iv p0), (1, iv p1), (6, iv v8), (7, iv v9), (19, .bool (decide (v9 > 0))), (20, iv v9), (21, iv v8), (22, iv v9), (23, iv (Int.tmod v8 v9))]) [] [] [])) (by decide) (q_int (P := Try.prog) (op := .rem) (ty := 3) (ox := (.tmp 21)) (oy := (.tmp 22)) (k := .i64) (k' := .i64) (y := v8) (z := v9) (by kernel_rfl) (rem_ok hg14)) (by kernel_rfl) (QI.run (s1 := (qs (S30_1 p0 p1 v9 v8) [] [] [])) 1 (by kernel_rfl) (by kernel_rfl) (QI.done (by kernel_rfl))))
   · exact SI.run (a2 := (S30_0 p0 p1 v9 v8)) (h2 := []) 1 (by kernel_rfl) (SI.done (by kernel_rfl))
   refine NX.bk ?_
   exact Rd.again (a2 := (st 29 [(0, iv p0), (1, iv p1), (6, iv v9), (7, iv (Int.tmod v8 v9))])) (h2 := []) (Wk.an [] (.nil _) [iv p0, iv p1, iv v9, iv (Int.tmod v8 v9)] (.fl (.fl (.fl (.fl .nil))))) (ih v9 (Int.tmod v8 v9) _ hF)
 replace hF := of_neg hF hc13
 refine TS.ex 0 (NX.sqX ?_)
 have hF := sj hF
 subst hF
 exact Rd.out (e := .exit 0) (by intro h; cases h) (And.intro rfl (Wk.an [] (.nil _) [iv p0, iv p1, iv v8] (.fl (.fl (.fl .nil)))))
theorem B30 (p0 p1 : Int) (r : I2) (hF : F30 p0 p1 = some r) : TS Try.prog 0 0 c30 (st 29 [(0, iv p0), (1, iv p1)]) [] (NX Try.prog 0 0 [] (FinP Try.prog Try.f30 0 (V30 0 r) (N30 0 r))) := by
 unfold F30 at hF
 refine TS.sq (TS.rg (TI.ra 2 [0, 1] (st 29 [(0, iv p0), (1, iv p1)]) (TI.dn (NX.sq (TS.sq (TS.sq ?_))))))
 obtain ⟨r1, h2, hF⟩ := of_do hF
 obtain ⟨m5, hm17, hF⟩ := of_do hF
 have hK : NX Try.prog 0 0 [.sq c30.s2.s1.s2, .sq c30.s2.s2] (FinP Try.prog Try.f30 0 (V30 0 r) (N30 0 r)) .normal (st 29 [(0, iv p0), (1, iv p1), (15, .bool m5)]) [] := by
  refine NX.sq ?_
  cases m5 with
  | true =>
   replace hF := of_pos hF rfl
   refine TS.cdT (.tmp 15) (TS.sq (TS.rg (TI.ra 2 [4, 5] (st 29 [(4, iv 0), (5, iv 1)]) (TI.dn (NX.sq (TS.rt (NX.sqR ?_)))))))
   have hF := sj hF
   subst hF
   exact ⟨.inr rfl, rfl, .tuple ⟨[iv 0, iv 1]⟩, by kernel_rfl, WkV.flat0 (by kernel_rfl) (nl rfl)⟩
  | false =>
   replace hF := of_neg hF rfl
   refine TS.cdF (.tmp 15) (TS.sk (NX.sq (TS.sq (TS.rg (TI.ra 4 [0, 1, 6, 7] (st 29 [(0, iv p0), (1, iv p1), (6, iv p0), (7, iv p1)]) (TI.dn (NX.sq (TS.sq ?_))))))))
   refine TS.bk 0 ?_
   obtain ⟨r15, h16, hF⟩ := of_do hF
   refine TS.lp (TL.weak (a2 := (st 29 [(0, iv p0), (1, iv p1), (6, iv p0), (7, iv p1)])) (h2 := []) (Wk.an [] (.nil _) [iv p0, iv p1, iv p0, iv p1] (.fl (.fl (.fl (.fl .nil))))) (TL.post (L30l0 p0 p1 p0 p1 r15 h16) ?_))
   rintro e a1 h1 hp
   obtain ⟨rfl, hw⟩ := hp
   refine ⟨(st 29 [(0, iv p0), (1, iv p1), (6, iv r15)]), [], (NX.bkX (NX.sq (TS.sq (TS.rg (TI.ra 7 [4, 5] (st 29 [(4, iv (w64 ((w64 (p0 + p1)) - r15))), (5, iv 0)]) (TI.dn (NX.sq (TS.rt ?_)))))))), hw⟩
   have hF := sj hF
   subst hF
   exact ⟨.inr rfl, rfl, .tuple ⟨[iv (w64 ((w64 (p0 + p1)) - r15)), iv 0]⟩, by kernel_rfl, WkV.flat0 (by kernel_rfl) (nl rfl)⟩
 cases r1 with
 | true =>
  replace hm17 := of_pos hm17 rfl
  have hX := of_do hm17
  clear hm17
  obtain ⟨r3, h4, hm17⟩ := hX
  cases r3 with
  | true =>
   replace hm17 := of_pos hm17 rfl
   have hm17 := sj hm17
   subst hm17
   exact TS.rg (TI.ra 1 [0, 1, 8] (st 29 [(0, iv p0), (1, iv p1), (8, iv p0)]) (TI.cf (C51 _ _ _ _ h2) (TI.ra 3 [0, 1, 11, 12] (st 29 [(0, iv p0), (1, iv p1), (11, .bool false), (12, iv p1)]) (TI.cf (C51 _ _ _ _ h4) (TI.ra 2 [0, 1, 15] (st 29 [(0, iv p0), (1, iv p1), (15, .bool false)]) (TI.dn hK))))))
  | false =>
   replace hm17 := of_neg hm17 rfl
   have hm17 := sj hm17
   subst hm17
   exact TS.rg (TI.ra 1 [0, 1, 8] (st 29 [(0, iv p0), (1, iv p1), (8, iv p0)]) (TI.cf (C51 _ _ _ _ h2) (TI.ra 3 [0, 1, 11, 12] (st 29 [(0, iv p0), (1, iv p1), (11, .bool false), (12, iv p1)]) (TI.cf (C51 _ _ _ _ h4) (TI.ra 2 [0, 1, 15] (st 29 [(0, iv p0), (1, iv p1), (15, .bool true)]) (TI.dn hK))))))
 | false =>
  replace hm17 := of_neg hm17 rfl
  have hm17 := sj hm17
  subst hm17
  exact TS.rg (TI.ra 1 [0, 1, 8] (st 29 [(0, iv p0), (1, iv p1), (8, iv p0)]) (TI.cf (C51 _ _ _ _ h2) (TI.ra 6 [0, 1, 15] (st 29 [(0, iv p0), (1, iv p1), (15, .bool true)]) (TI.dn hK))))
theorem C30 (p0 p1 : Int) (r : I2) (hF : F30 p0 p1 = some r) : PureSim Try.prog 30 [iv p0, iv p1] [] (V30 0 r) (N30 0 r) :=
 PureSim.of_Fin Try.func30 (c := c30) (by kernel_rfl) (by kernel_rfl) 0 rfl [0, 1] [] (by kernel_rfl) (B30 p0 p1 r hF)
noncomputable def c40 : Code := Try.f40.code
def S40_0 (p2 : List Int) (v9 : Int) (y29 : I2) (y29s : List I2) (o24 o27 : Int) : CAct := (st 35 [(2, sv 0 p2.length ANY), (6, pt 1 0), (7, pt 2 0), (8, iv v9), (16, .bool (decide ((w64 (v9 + 1)) < (p2.length : Int)))), (19, pt 2 2), (20, sv 3 (List.length (y29 :: y29s)) UNK), (21, sv 0 p2.length ANY), (22, iv v9), (23, .pointer (some ⟨0, 0 + (Int.toNat v9) * 1, none⟩)), (24, iv o24), (25, sv 0 p2.length ANY), (26, iv v9), (27, iv (w64 (v9 + 1))), (28, .pointer (some ⟨0, 0 + (Int.toNat (w64 (v9 + 1))) * 1, none⟩)), (29, iv o27), (30, ag [iv o24, iv o27]), (31, sv 4 1 1), (32, sv 5 (List.length ((y29 :: y29s) ++ [(o24, o27)])) UNK), (33, pt 2 2)])
def S40_1 (p2 : List Int) (v9 o24 o27 : Int) : CAct := (st 35 [(2, sv 0 p2.length ANY), (6, pt 1 0), (7, pt 2 0), (8, iv v9), (16, .bool (decide ((w64 (v9 + 1)) < (p2.length : Int)))), (19, pt 2 2), (20, .slice none 0 0), (21, sv 0 p2.length ANY), (22, iv v9), (23, .pointer (some ⟨0, 0 + (Int.toNat v9) * 1, none⟩)), (24, iv o24), (25, sv 0 p2.length ANY), (26, iv v9), (27, iv (w64 (v9 + 1))), (28, .pointer (some ⟨0, 0 + (Int.toNat (w64 (v9 + 1))) * 1, none⟩)), (29, iv o27), (30, ag [iv o24, iv o27]), (31, sv 4 1 1), (32, sv 5 (List.length [(o24, o27)]) UNK), (33, pt 2 2)])
def S40_2 (p2 : List Int) (v9 : Int) (y29 : I2) (y29s : List I2) (o24 o27 : Int) : CAct := (st 35 [(2, sv 0 p2.length ANY), (6, pt 1 0), (7, pt 2 0), (8, iv v9), (16, .bool (decide ((w64 (v9 + 1)) < (p2.length : Int)))), (19, pt 2 2), (20, sv 3 (List.length (y29 :: y29s)) UNK), (21, sv 0 p2.length ANY), (22, iv v9), (23, .pointer (some ⟨0, 0 + (Int.toNat v9) * 1, none⟩)), (24, iv o24), (25, sv 0 p2.length ANY), (26, iv v9), (27, iv (w64 (v9 + 1))), (28, .pointer (some ⟨0, 0 + (Int.toNat (w64 (v9 + 1))) * 1, none⟩)), (29, iv o27), (30, ag [iv o24, iv o27]), (31, sv 4 1 1)])
def S40_3 (p2 : List Int) (v9 o24 o27 : Int) : CAct := (st 35 [(2, sv 0 p2.length ANY), (6, pt 1 0), (7, pt 2 0), (8, iv v9), (16, .bool (decide ((w64 (v9 + 1)) < (p2.length : Int)))), (19, pt 2 2), (20, .slice none 0 0), (21, sv 0 p2.length ANY), (22, iv v9), (23, .pointer (some ⟨0, 0 + (Int.toNat v9) * 1, none⟩)), (24, iv o24), (25, sv 0 p2.length ANY), (26, iv v9), (27, iv (w64 (v9 + 1))), (28, .pointer (some ⟨0, 0 + (Int.toNat (w64 (v9 + 1))) * 1, none⟩)), (29, iv o27), (30, ag [iv o24, iv o27]), (31, sv 4 1 1)])
def H40_4 (p2 : List Int) (p0 p1 : Int) (y29 : I2) (y29s : List I2) (o24 o27 : Int) : List Blk := [ab 3 e3 p2, cl 24 [iv 0, iv 0, .slice none 0 0], cl 24 [iv p0, iv p1, sv 5 (List.length ((y29 :: y29s) ++ [(o24, o27)])) UNK], .dead, cl 57 [iv o24, iv o27], .cells 57 (List.flatMap e57 ((y29 :: y29s) ++ [(o24, o27)]))]
def H40_5 (p2 : List Int) (p0 p1 o24 o27 : Int) : List Blk := [ab 3 e3 p2, cl 24 [iv 0, iv 0, .slice none 0 0], cl 24 [iv p0, iv p1, sv 5 (List.length [(o24, o27)]) UNK], .dead, cl 57 [iv o24, iv o27], .cells 57 (List.flatMap e57 ([(o24, o27)]))]
def H40_6 (p2 : List Int) (p0 p1 : Int) (y29 : I2) (y29s : List I2) (o24 o27 : Int) : List Blk := [ab 3 e3 p2, cl 24 [iv 0, iv 0, .slice none 0 0], cl 24 [iv p0, iv p1, sv 3 (List.length (y29 :: y29s)) UNK], .cells 57 (List.flatMap e57 (y29 :: y29s)), cl 57 [iv o24, iv o27]]
def H40_7 (p2 : List Int) (p0 p1 : Int) (y29 : I2) (y29s : List I2) : List Blk := [ab 3 e3 p2, cl 24 [iv 0, iv 0, .slice none 0 0], cl 24 [iv p0, iv p1, sv 3 (List.length (y29 :: y29s)) UNK], .cells 57 (List.flatMap e57 (y29 :: y29s))]
def H40_8 (p2 : List Int) (p0 p1 : Int) (v10 : List I2) : List Blk := [ab 3 e3 p2, cl 24 [iv 0, iv 0, .slice none 0 0], cl 24 [iv p0, iv p1, accV 3 v10.length], ab 57 e57 v10]
def H40_9 (p2 : List Int) (p0 p1 o24 o27 : Int) : List Blk := [ab 3 e3 p2, cl 24 [iv 0, iv 0, .slice none 0 0], cl 24 [iv p0, iv p1, .slice none 0 0], .dead, cl 57 [iv o24, iv o27]]
def H40_10 (p2 : List Int) (p0 p1 : Int) : List Blk := [ab 3 e3 p2, cl 24 [iv 0, iv 0, .slice none 0 0], cl 24 [iv p0, iv p1, .slice none 0 0], .dead]
def S40_11 (p2 : List Int) (v9 : Int) : CAct := (st 35 [(2, sv 0 p2.length ANY), (6, pt 1 0), (7, pt 2 0), (8, iv (w64 (v9 + 2)))])
def F40l0 (p0 p1 : Int) (p2 : List Int) (v9 : Int) (v10 : List I2) : Option (List I2) :=
 if decide ((w64 (v9 + 1)) < (p2.length : Int)) then
  if (0 : Int) ≤ v9 ∧ v9 < (p2.length : Int) then
   some (List.getD p2 (Int.toNat v9) 0) >>= fun o24 =>
   if (0 : Int) ≤ w64 (v9 + 1) ∧ w64 (v9 + 1) < (p2.length : Int) then
    some (List.getD p2 (Int.toNat (w64 (v9 + 1))) 0) >>= fun o27 =>
    if List.length v10 ≤ 1000000000 then
     F40l0 p0 p1 p2 (w64 (v9 + 2)) (v10 ++ [(o24, o27)])
    else none
   else none
  else none
 else
  some v10
 partial_fixpoint
def F40 (p0 p1 : Int) (p2 : List Int) : Option (Int × Int × (List I2)) :=
 F40l0 p0 p1 p2 0 ([]) >>= fun r32 =>
 some (p0, p1, r32)
def V40 (b : Nat) (r : Int × Int × (List I2)) : Value := ag [iv r.1, iv r.2.1, accV (b + 0) r.2.2.length]
def N40 (b : Nat) (r : Int × Int × (List I2)) : List Blk := [ab 57 e57 r.2.2]
def P40l0 (p0 p1 : Int) (p2 : List Int) (r : List I2) : Post := fun e a h => e = .exit 0 ∧ Wk Try.prog 1 1 a h (st 35 [(6, pt 1 0), (7, pt 2 0)]) [ab 3 e3 p2, cl 24 [iv 0, iv 0, .slice none 0 0], cl 24 [iv p0, iv p1, accV 3 r.length], ab 57 e57 r]
theorem L40l0 (p0 p1 : Int) (p2 : List Int) (v9 : Int) (v10 r : List I2) (hF : F40l0 p0 p1 p2 v9 v10 = some r) : TL Try.prog 1 1 c40.s2.s2.s1.s2.bd.bd (st 35 [(2, sv 0 p2.length ANY), (6, pt 1 0), (7, pt 2 0), (8, iv v9)]) (H40_8 p2 p0 p1 v10) (P40l0 p0 p1 p2 r) := by
 refine F40l0.partial_correctness p0 p1 p2 (motive := fun v9 v10 r => TL Try.prog 1 1 c40.s2.s2.s1.s2.bd.bd (st 35 [(2, sv 0 p2.length ANY), (6, pt 1 0), (7, pt 2 0), (8, iv v9)]) (H40_8 p2 p0 p1 v10) (P40l0 p0 p1 p2 r)) ?_ v9 v10 r hF
 clear hF r v9 v10
 intro again ih v9 v10 r hF
 refine TL.round (TS.sq (TS.sq (TS.rg (TI.ra 5 [2, 6, 7, 8, 16] (st 35 [(2, sv 0 p2.length ANY), (6, pt 1 0), (7, pt 2 0), (8, iv v9), (16, .bool (decide ((w64 (v9 + 1)) < (p2.length : Int))))]) (TI.dn (NX.sq ?_))))))
 refine TS.cd (.tmp 16) (decide ((w64 (v9 + 1)) < (p2.length : Int))) (fun hc22 => ?_) (fun hc22 => ?_)
 · replace hF := of_pos hF hc22
   refine TS.sk (NX.sq (TS.sq (TS.bk 1 ?_)))
   obtain ⟨hg23, hF⟩ := of_guard hF
   obtain ⟨o24, h25, hF⟩ := of_do hF
   replace h25 := sj h25
   obtain ⟨hg26, hF⟩ := of_guard hF
   obtain ⟨o27, h28, hF⟩ := of_do hF
   replace h28 := sj h28
   revert hF
   generalize v10 = ly29
   intro hF
   cases ly29 with
   | nil =>
    obtain ⟨hg30, hF⟩ := of_guard hF
    refine TS.drawE (id := 5) (b := true) (ops := c40.s2.s2.s1.s2.bd.bd.s2.s1.bd.rops) (fin := (qs (S40_3 p2 v9 o24 o27) (H40_9 p2 p0 p1 o24 o27) [(12, 4, 5)] [])) (fin2 := (qs (S40_3 p2 v9 o24 o27) (H40_9 p2 p0 p1 o24 o27) [(12, 4, 5)] [])) (a1 := (S40_1 p2 v9 o24 o27)) (h1 := (H40_5 p2 p0 p1 o24 o27)) [] (fun e he => by cases he) mixed (by kernel_rfl) rfl 13 (by kernel_rfl) [] ?_ rfl (.inl ⟨rfl, rfl⟩) ?_ ?_
    · exact QI.run (s1 := (qs (st 35 [(2, sv 0 p2.length ANY), (6, pt 1 0), (7, pt 2 0), (8, iv v9), (16, .bool (decide ((w64 (v9 + 1)) < (p2.length : Int)))), (19, pt 2 2), (20, .slice none 0 0), (21, sv 0 p2.length ANY), (22, iv v9)]) (H40_10 p2 p0 p1) [] [])) 4 (by kernel_rfl) (by kernel_rfl) (QI.op (q := { val := .pointer (some ⟨0, 0 + (Int.toNat v9) * 1, none⟩) }) (s1 := (qs (st 35 [(2, sv 0 p2.length ANY), (6, pt 1 0), (7, pt 2 0), (8, iv v9), (16, .bool (decide ((w64 (v9 + 1)) < (p2.length : Int)))), (19, pt 2 2), (20, .slice none 0 0), (21, sv 0 p2.length ANY), (22, iv v9), (23, .pointer (some ⟨0, 0 + (Int.toNat v9) * 1, none⟩))]) (H40_10 p2 p0 p1) [] [])) (by decide) (q_ixS 0 0 ((Int.toNat v9) * 1) (by kernel_rfl) hg23) (by kernel_rfl) (QI.op (q := { val := iv o24 }) (s1 := (qs (st 35 [(2, sv 0 p2.length ANY), (6, pt 1 0), (7, pt 2 0), (8, iv v9), (16, .bool (decide ((w64 (v9 + 1)) < (p2.length : Int)))), (19, pt 2 2), (20, .slice none 0 0), (21, sv 0 p2.length ANY), (22, iv v9), (23, .pointer (some ⟨0, 0 + (Int.toNat v9) * 1, none⟩)), (24, iv o24)]) (H40_10 p2 p0 p1) [] [])) (by decide) (q_n1a Try.prog (H40_10 p2 p0 p1) 3 0 (0 + (Int.toNat v9) * 1) p2 e3 1 3 (Int.toNat v9) 0 0 h25) (by kernel_rfl) (QI.run (s1 := (qs (st 35 [(2, sv 0 p2.length ANY), (6, pt 1 0), (7, pt 2 0), (8, iv v9), (16, .bool (decide ((w64 (v9 + 1)) < (p2.length : Int)))), (19, pt 2 2), (20, .slice none 0 0), (21, sv 0 p2.length ANY), (22, iv v9), (23, .pointer (some ⟨0, 0 + (Int.toNat v9) * 1, none⟩)), (24, iv o24), (25, sv 0 p2.length ANY), (26, iv v9), (27, iv (w64 (v9 + 1)))]) (H40_10 p2 p0 p1) [] [])) 3 (by kernel_rfl) (by kernel_rfl) (QI.op (q := { val := .pointer (some ⟨0, 0 + (Int.toNat (w64 (v9 + 1))) * 1, none⟩) }) (s1 := (qs (st 35 [(2, sv 0 p2.length ANY), (6, pt 1 0), (7, pt 2 0), (8, iv v9), (16, .bool (decide ((w64 (v9 + 1)) < (p2.length : Int)))), (19, pt 2 2), (20, .slice none 0 0), (21, sv 0 p2.length ANY), (22, iv v9), (23, .pointer (some ⟨0, 0 + (Int.toNat v9) * 1, none⟩)), (24, iv o24), (25, sv 0 p2.length ANY), (26, iv v9), (27, iv (w64 (v9 + 1))), (28, .pointer (some ⟨0, 0 + (Int.toNat (w64 (v9 + 1))) * 1, none⟩))]) (H40_10 p2 p0 p1) [] [])) (by decide) (q_ixS 0 0 ((Int.toNat (w64 (v9 + 1))) * 1) (by kernel_rfl) hg26) (by kernel_rfl) (QI.op (q := { val := iv o27 }) (s1 := (qs (st 35 [(2, sv 0 p2.length ANY), (6, pt 1 0), (7, pt 2 0), (8, iv v9), (16, .bool (decide ((w64 (v9 + 1)) < (p2.length : Int)))), (19, pt 2 2), (20, .slice none 0 0), (21, sv 0 p2.length ANY), (22, iv v9), (23, .pointer (some ⟨0, 0 + (Int.toNat v9) * 1, none⟩)), (24, iv o24), (25, sv 0 p2.length ANY), (26, iv v9), (27, iv (w64 (v9 + 1))), (28, .pointer (some ⟨0, 0 + (Int.toNat (w64 (v9 + 1))) * 1, none⟩)), (29, iv o27)]) (H40_10 p2 p0 p1) [] [])) (by decide) (q_n1a Try.prog (H40_10 p2 p0 p1) 3 0 (0 + (Int.toNat (w64 (v9 + 1))) * 1) p2 e3 1 3 (Int.toNat (w64 (v9 + 1))) 0 0 h28) (by kernel_rfl) (QI.run (s1 := (qs (S40_3 p2 v9 o24 o27) (H40_9 p2 p0 p1 o24 o27) [(12, 4, 5)] [])) 2 (by kernel_rfl) (by kernel_rfl) (QI.done (by kernel_rfl))))))))
    · exact SI.op (q := { val := sv 5 (List.length [(o24, o27)]) UNK, new := [.cells 57 (List.flatMap e57 ([(o24, o27)]))] }) (a2 := (st 35 [(2, sv 0 p2.length ANY), (6, pt 1 0), (7, pt 2 0), (8, iv v9), (16, .bool (decide ((w64 (v9 + 1)) < (p2.length : Int)))), (19, pt 2 2), (20, .slice none 0 0), (21, sv 0 p2.length ANY), (22, iv v9), (23, .pointer (some ⟨0, 0 + (Int.toNat v9) * 1, none⟩)), (24, iv o24), (25, sv 0 p2.length ANY), (26, iv v9), (27, iv (w64 (v9 + 1))), (28, .pointer (some ⟨0, 0 + (Int.toNat (w64 (v9 + 1))) * 1, none⟩)), (29, iv o27), (30, ag [iv o24, iv o27]), (31, sv 4 1 1), (32, sv 5 (List.length [(o24, o27)]) UNK)])) (h2 := [ab 3 e3 p2, cl 24 [iv 0, iv 0, .slice none 0 0], cl 24 [iv p0, iv p1, .slice none 0 0], .dead, cl 57 [iv o24, iv o27], .cells 57 (List.flatMap e57 ([(o24, o27)]))]) (by kernel_rfl) (q_appN (P := Try.prog) (base := 1) (hp := (H40_9 p2 p0 p1 o24 o27)) (n := 5) (ts := #[22, 22]) (e := 57) (bytes := 16) (z := ag [iv 0, iv 0]) (y := sv 4 1 1) (ys := [(o24, o27)]) (xs := List.flatMap e57 ([(o24, o27)])) (m := 1) (s := 2) (enc := e57) (by kernel_rfl) (by kernel_rfl) (by kernel_rfl) (by kernel_rfl) (by kernel_rfl) (by kernel_rfl) (by kernel_rfl) (by kernel_rfl) rfl rfl (by omega)) (by kernel_rfl) (by kernel_rfl) (SI.run (a2 := (S40_1 p2 v9 o24 o27)) (h2 := (H40_5 p2 p0 p1 o24 o27)) 2 (by kernel_rfl) (SI.done (by kernel_rfl)))
    refine NX.bk (NX.sq (TS.rg (TI.rn 3 [2, 6, 7, 8] [0, 1, 2, 5] (S40_11 p2 v9) [ab 3 e3 p2, cl 24 [iv 0, iv 0, .slice none 0 0], cl 24 [iv p0, iv p1, sv 5 (List.length [(o24, o27)]) UNK], .dead, .dead, .cells 57 (List.flatMap e57 ([(o24, o27)]))] (TI.dn ?_))))
    exact Rd.again (a2 := (S40_11 p2 v9)) (h2 := [ab 3 e3 p2, cl 24 [iv 0, iv 0, .slice none 0 0], cl 24 [iv p0, iv p1, accV 3 (List.length ([(o24, o27)]))], accB 57 (List.length ([(o24, o27)])) (List.flatMap e57 ([(o24, o27)]))]) (Wk.an [1, 2, 5] (.ac (.lt (.fl (.fl (.fl .nil))) (.lt (.fl (.fl (.cons (Rn.accU (nl rfl) rfl (by simp)) .nil))) (.cons (At.accU (by kernel_rfl) rfl (fun _ => rfl)) (.nil _))))) [sv 0 p2.length ANY, pt 1 0, pt 2 0, iv (w64 (v9 + 2))] (.sl (.pp (.pp (.fl .nil))))) (ih (w64 (v9 + 2)) ([(o24, o27)]) _ hF)
   | cons y29 y29s =>
    obtain ⟨hg31, hF⟩ := of_guard hF
    refine TS.drawE (id := 5) (b := true) (ops := c40.s2.s2.s1.s2.bd.bd.s2.s1.bd.rops) (fin := (qs (S40_2 p2 v9 y29 y29s o24 o27) (H40_6 p2 p0 p1 y29 y29s o24 o27) [(12, 4, 5)] [])) (fin2 := (qs (S40_2 p2 v9 y29 y29s o24 o27) (H40_6 p2 p0 p1 y29 y29s o24 o27) [(12, 4, 5)] [])) (a1 := (S40_0 p2 v9 y29 y29s o24 o27)) (h1 := (H40_4 p2 p0 p1 y29 y29s o24 o27)) [] (fun e he => by cases he) mixed (by kernel_rfl) rfl 13 (by kernel_rfl) [] ?_ rfl (.inl ⟨rfl, rfl⟩) ?_ ?_
    · exact QI.run (s1 := (qs (st 35 [(2, sv 0 p2.length ANY), (6, pt 1 0), (7, pt 2 0), (8, iv v9), (16, .bool (decide ((w64 (v9 + 1)) < (p2.length : Int)))), (19, pt 2 2), (20, sv 3 (List.length (y29 :: y29s)) UNK), (21, sv 0 p2.length ANY), (22, iv v9)]) (H40_7 p2 p0 p1 y29 y29s) [] [])) 4 (by kernel_rfl) (by kernel_rfl) (QI.op (q := { val := .pointer (some ⟨0, 0 + (Int.toNat v9) * 1, none⟩) }) (s1 := (qs (st 35 [(2, sv 0 p2.length ANY), (6, pt 1 0), (7, pt 2 0), (8, iv v9), (16, .bool (decide ((w64 (v9 + 1)) < (p2.length : Int)))), (19, pt 2 2), (20, sv 3 (List.length (y29 :: y29s)) UNK), (21, sv 0 p2.length ANY), (22, iv v9), (23, .pointer (some ⟨0, 0 + (Int.toNat v9) * 1, none⟩))]) (H40_7 p2 p0 p1 y29 y29s) [] [])) (by decide) (q_ixS 0 0 ((Int.toNat v9) * 1) (by kernel_rfl) hg23) (by kernel_rfl) (QI.op (q := { val := iv o24 }) (s1 := (qs (st 35 [(2, sv 0 p2.length ANY), (6, pt 1 0), (7, pt 2 0), (8, iv v9), (16, .bool (decide ((w64 (v9 + 1)) < (p2.length : Int)))), (19, pt 2 2), (20, sv 3 (List.length (y29 :: y29s)) UNK), (21, sv 0 p2.length ANY), (22, iv v9), (23, .pointer (some ⟨0, 0 + (Int.toNat v9) * 1, none⟩)), (24, iv o24)]) (H40_7 p2 p0 p1 y29 y29s) [] [])) (by decide) (q_n1a Try.prog (H40_7 p2 p0 p1 y29 y29s) 3 0 (0 + (Int.toNat v9) * 1) p2 e3 1 3 (Int.toNat v9) 0 0 h25) (by kernel_rfl) (QI.run (s1 := (qs (st 35 [(2, sv 0 p2.length ANY), (6, pt 1 0), (7, pt 2 0), (8, iv v9), (16, .bool (decide ((w64 (v9 + 1)) < (p2.length : Int)))), (19, pt 2 2), (20, sv 3 (List.length (y29 :: y29s)) UNK), (21, sv 0 p2.length ANY), (22, iv v9), (23, .pointer (some ⟨0, 0 + (Int.toNat v9) * 1, none⟩)), (24, iv o24), (25, sv 0 p2.length ANY), (26, iv v9), (27, iv (w64 (v9 + 1)))]) (H40_7 p2 p0 p1 y29 y29s) [] [])) 3 (by kernel_rfl) (by kernel_rfl) (QI.op (q := { val := .pointer (some ⟨0, 0 + (Int.toNat (w64 (v9 + 1))) * 1, none⟩) }) (s1 := (qs (st 35 [(2, sv 0 p2.length ANY), (6, pt 1 0), (7, pt 2 0), (8, iv v9), (16, .bool (decide ((w64 (v9 + 1)) < (p2.length : Int)))), (19, pt 2 2), (20, sv 3 (List.length (y29 :: y29s)) UNK), (21, sv 0 p2.length ANY), (22, iv v9), (23, .pointer (some ⟨0, 0 + (Int.toNat v9) * 1, none⟩)), (24, iv o24), (25, sv 0 p2.length ANY), (26, iv v9), (27, iv (w64 (v9 + 1))), (28, .pointer (some ⟨0, 0 + (Int.toNat (w64 (v9 + 1))) * 1, none⟩))]) (H40_7 p2 p0 p1 y29 y29s) [] [])) (by decide) (q_ixS 0 0 ((Int.toNat (w64 (v9 + 1))) * 1) (by kernel_rfl) hg26) (by kernel_rfl) (QI.op (q := { val := iv o27 }) (s1 := (qs (st 35 [(2, sv 0 p2.length ANY), (6, pt 1 0), (7, pt 2 0), (8, iv v9), (16, .bool (decide ((w64 (v9 + 1)) < (p2.length : Int)))), (19, pt 2 2), (20, sv 3 (List.length (y29 :: y29s)) UNK), (21, sv 0 p2.length ANY), (22, iv v9), (23, .pointer (some ⟨0, 0 + (Int.toNat v9) * 1, none⟩)), (24, iv o24), (25, sv 0 p2.length ANY), (26, iv v9), (27, iv (w64 (v9 + 1))), (28, .pointer (some ⟨0, 0 + (Int.toNat (w64 (v9 + 1))) * 1, none⟩)), (29, iv o27)]) (H40_7 p2 p0 p1 y29 y29s) [] [])) (by decide) (q_n1a Try.prog (H40_7 p2 p0 p1 y29 y29s) 3 0 (0 + (Int.toNat (w64 (v9 + 1))) * 1) p2 e3 1 3 (Int.toNat (w64 (v9 + 1))) 0 0 h28) (by kernel_rfl) (QI.run (s1 := (qs (S40_2 p2 v9 y29 y29s o24 o27) (H40_6 p2 p0 p1 y29 y29s o24 o27) [(12, 4, 5)] [])) 2 (by kernel_rfl) (by kernel_rfl) (QI.done (by kernel_rfl))))))))
    · exact SI.op (q := { val := sv 5 (List.length ((y29 :: y29s) ++ [(o24, o27)])) UNK, new := [.cells 57 (List.flatMap e57 ((y29 :: y29s) ++ [(o24, o27)]))], upd := some (3, .dead) }) (a2 := (st 35 [(2, sv 0 p2.length ANY), (6, pt 1 0), (7, pt 2 0), (8, iv v9), (16, .bool (decide ((w64 (v9 + 1)) < (p2.length : Int)))), (19, pt 2 2), (20, sv 3 (List.length (y29 :: y29s)) UNK), (21, sv 0 p2.length ANY), (22, iv v9), (23, .pointer (some ⟨0, 0 + (Int.toNat v9) * 1, none⟩)), (24, iv o24), (25, sv 0 p2.length ANY), (26, iv v9), (27, iv (w64 (v9 + 1))), (28, .pointer (some ⟨0, 0 + (Int.toNat (w64 (v9 + 1))) * 1, none⟩)), (29, iv o27), (30, ag [iv o24, iv o27]), (31, sv 4 1 1), (32, sv 5 (List.length ((y29 :: y29s) ++ [(o24, o27)])) UNK)])) (h2 := [ab 3 e3 p2, cl 24 [iv 0, iv 0, .slice none 0 0], cl 24 [iv p0, iv p1, sv 3 (List.length (y29 :: y29s)) UNK], .dead, cl 57 [iv o24, iv o27], .cells 57 (List.flatMap e57 ((y29 :: y29s) ++ [(o24, o27)]))]) (by kernel_rfl) (q_appU (P := Try.prog) (base := 1) (hp := (H40_6 p2 p0 p1 y29 y29s o24 o27)) (n := 5) (l := (y29 :: y29s)) (b := 3) (ts := #[22, 22]) (e := 57) (bytes := 16) (z := ag [iv 0, iv 0]) (y := sv 4 1 1) (ys := [(o24, o27)]) (xs := List.flatMap e57 ([(o24, o27)])) (m := 1) (s := 2) (enc := e57) (by kernel_rfl) (by kernel_rfl) (by decide) (by kernel_rfl) (by kernel_rfl) (by kernel_rfl) (by kernel_rfl) (by kernel_rfl) (by kernel_rfl) (by kernel_rfl) (by kernel_rfl) (fun _ => rfl) rfl rfl (by omega)) (by kernel_rfl) (by kernel_rfl) (SI.run (a2 := (S40_0 p2 v9 y29 y29s o24 o27)) (h2 := (H40_4 p2 p0 p1 y29 y29s o24 o27)) 2 (by kernel_rfl) (SI.done (by kernel_rfl)))
    refine NX.bk (NX.sq (TS.rg (TI.rn 3 [2, 6, 7, 8] [0, 1, 2, 5] (S40_11 p2 v9) [ab 3 e3 p2, cl 24 [iv 0, iv 0, .slice none 0 0], cl 24 [iv p0, iv p1, sv 5 (List.length ((y29 :: y29s) ++ [(o24, o27)])) UNK], .dead, .dead, .cells 57 (List.flatMap e57 ((y29 :: y29s) ++ [(o24, o27)]))] (TI.dn ?_))))
    exact Rd.again (a2 := (S40_11 p2 v9)) (h2 := [ab 3 e3 p2, cl 24 [iv 0, iv 0, .slice none 0 0], cl 24 [iv p0, iv p1, accV 3 (List.length ((y29 :: y29s) ++ [(o24, o27)]))], accB 57 (List.length ((y29 :: y29s) ++ [(o24, o27)])) (List.flatMap e57 ((y29 :: y29s) ++ [(o24, o27)]))]) (Wk.an [1, 2, 5] (.ac (.lt (.fl (.fl (.fl .nil))) (.lt (.fl (.fl (.cons (Rn.accU (nl rfl) rfl (by simp)) .nil))) (.cons (At.accU (by kernel_rfl) rfl (fun _ => rfl)) (.nil _))))) [sv 0 p2.length ANY, pt 1 0, pt 2 0, iv (w64 (v9 + 2))] (.sl (.pp (.pp (.fl .nil))))) (ih (w64 (v9 + 2)) ((y29 :: y29s) ++ [(o24, o27)]) _ hF)
 replace hF := of_neg hF hc22
 refine TS.ex 0 (NX.sqX ?_)
 have hF := sj hF
 subst hF
 exact Rd.out (e := .exit 0) (by intro h; cases h) (And.intro rfl (Wk.an [1, 2, 3] (.ac (.lt (.fl (.fl (.fl .nil))) (.lt (.fl (.fl (.cons (Rn.acc (nl rfl) rfl) .nil))) (.ac (.nil _))))) [pt 1 0, pt 2 0] (.pp (.pp .nil))))
theorem B40 (p0 p1 : Int) (p2 : List Int) (r : Int × Int × (List I2)) (hF : F40 p0 p1 p2 = some r) : TS Try.prog 1 1 c40 (st 35 [(0, iv p0), (1, iv p1), (2, sv 0 p2.length ANY)]) [ab 3 e3 p2] (NX Try.prog 1 1 [] (FinP Try.prog Try.f40 1 (V40 1 r) (N40 1 r))) := by
 unfold F40 at hF
 refine TS.sq (TS.rg (TI.rn 1 [0, 1, 2, 6] [0, 1] (st 35 [(0, iv p0), (1, iv p1), (2, sv 0 p2.length ANY), (6, pt 1 0)]) [ab 3 e3 p2, cl 24 [iv 0, iv 0, .slice none 0 0]] (TI.dn (NX.sq (TS.sq (TS.rg (TI.rn 5 [2, 6, 7] [0, 1, 2] (st 35 [(2, sv 0 p2.length ANY), (6, pt 1 0), (7, pt 2 0)]) [ab 3 e3 p2, cl 24 [iv 0, iv 0, .slice none 0 0], cl 24 [iv p0, iv p1, .slice none 0 0]] (TI.dn ?_))))))))
 refine NX.sq (TS.sq (TS.sq (TS.rg (TI.ra 1 [2, 6, 7, 8] (st 35 [(2, sv 0 p2.length ANY), (6, pt 1 0), (7, pt 2 0), (8, iv 0)]) (TI.dn (NX.sq (TS.bk 0 ?_)))))))
 obtain ⟨r32, h33, hF⟩ := of_do hF
 refine TS.lp (TL.weak (a2 := (st 35 [(2, sv 0 p2.length ANY), (6, pt 1 0), (7, pt 2 0), (8, iv 0)])) (h2 := [ab 3 e3 p2, cl 24 [iv 0, iv 0, .slice none 0 0], cl 24 [iv p0, iv p1, accV 3 (List.length ([]))], accB 57 (List.length ([])) (List.flatMap e57 ([]))]) (Wk.an [1, 2, 3] (.ac (.lt (.fl (.fl (.fl .nil))) (.lt (.fl (.fl (.cons (Rn.accN) .nil))) (.cons At.accN (.nil _))))) [sv 0 p2.length ANY, pt 1 0, pt 2 0, iv 0] (.sl (.pp (.pp (.fl .nil))))) (TL.post (L40l0 p0 p1 p2 0 ([]) r32 h33) ?_))
 rintro e a1 h1 hp
 obtain ⟨rfl, hw⟩ := hp
 refine ⟨(st 35 [(6, pt 1 0), (7, pt 2 0)]), [ab 3 e3 p2, cl 24 [iv 0, iv 0, .slice none 0 0], cl 24 [iv p0, iv p1, accV 3 r32.length], ab 57 e57 r32], (NX.bkX (NX.sq (TS.sq (TS.rg (TI.rn 2 [6] [0, 1, 3] (st 35 [(6, pt 1 0)]) [ab 3 e3 p2, cl 24 [iv p0, iv p1, accV 3 r32.length], .dead, ab 57 e57 r32] (TI.dn (NX.sq (TS.rt ?_)))))))), hw⟩
 have hF := sj hF
 subst hF
 exact ⟨.inr rfl, rfl, ag [iv p0, iv p1, accV 3 r32.length], by kernel_rfl, WkV.made (L := 1) (f := [3]) (by decide) (by decide) rfl (.ac (.nil _)) (Rn.agg' (.fl (.fl (.cons (Rn.acc (nl rfl) rfl) .nil))))⟩
theorem C40 (p0 p1 : Int) (p2 : List Int) (r : Int × Int × (List I2)) (hF : F40 p0 p1 p2 = some r) : PureSim Try.prog 40 [iv p0, iv p1, sv 0 p2.length ANY] [ab 3 e3 p2] (V40 1 r) (N40 1 r) :=
 PureSim.of_Fin Try.func40 (c := c40) (by kernel_rfl) (by kernel_rfl) 1 rfl [0, 1, 2] [0] (by kernel_rfl) (B40 p0 p1 p2 r hF)
noncomputable def c44 : Code := Try.f44.code
def H44_0 (p1 : List Int) (p2 p3 : Int) : List Blk := [cl 50 [sv 1 p1.length ANY], ab 5 e5 p1, cl 3 [iv p2], cl 3 [iv p3]]
def F44 (p0 : Int) (p1 : List Int) (p2 p3 : Int) : Option Int :=
 if (p1.length : Int) == 0 then
  some 0
 else
  if p2 = 0 then none else
  if (p1.length : Int) = 0 then none else
  if (0 : Int) ≤ Int.tmod (Int.tmod p0 p2) (p1.length : Int) ∧ Int.tmod (Int.tmod p0 p2) (p1.length : Int) < (p1.length : Int) then
   some (List.getD p1 (Int.toNat (Int.tmod (Int.tmod p0 p2) (p1.length : Int))) 0) >>= fun o5 =>
   if p3 = 0 then none else
   if (0 : Int) ≤ Int.tmod (w64 ((Int.tmod p0 p3) + 7)) (p1.length : Int) ∧ Int.tmod (w64 ((Int.tmod p0 p3) + 7)) (p1.length : Int) < (p1.length : Int) then
    some (List.getD p1 (Int.toNat (Int.tmod (w64 ((Int.tmod p0 p3) + 7)) (p1.length : Int))) 0) >>= fun o9 =>
    some (w64 ((w64 o5) - (w64 (3 * (w64 o9)))))
   else none
  else none
def V44 (b : Nat) (r : Int) : Value := iv r
def N44 (b : Nat) (r : Int) : List Blk := []
theorem B44 (p0 : Int) (p1 : List Int) (p2 p3 r : Int) (hF : F44 p0 p1 p2 p3 = some r) : TS Try.prog 4 4 c44 (st 32 [(0, iv p0), (1, pt 0 0), (2, pt 2 0), (3, pt 3 0)]) (H44_0 p1 p2 p3) (NX Try.prog 4 4 [] (FinP Try.prog Try.f44 4 (V44 4 r) (N44 4 r))) := by
 unfold F44 at hF
 refine TS.sq (TS.rg (TI.ra 1 [0, 1, 2, 3] (st 32 [(0, iv p0), (1, pt 0 0), (2, pt 2 0), (3, pt 3 0)]) (TI.dn (NX.sq (TS.sq (TS.sq (TS.rg (TI.ra 3 [0, 1, 2, 3, 8] (st 32 [(0, iv p0), (1, pt 0 0), (2, pt 2 0), (3, pt 3 0), (8, .bool ((p1.length : Int) == 0))]) ?_))))))))
 refine TI.dn (NX.sq ?_)
 refine TS.cd (.tmp 8) ((p1.length : Int) == 0) (fun hc1 => ?_) (fun hc1 => ?_)
 · replace hF := of_pos hF hc1
   refine TS.sq (TS.rg (TI.ra 1 [5] (st 32 [(5, iv 0)]) (TI.dn (NX.sq (TS.rt (NX.sqR ?_))))))
   have hF := sj hF
   subst hF
   exact ⟨.inr rfl, rfl, iv 0, by kernel_rfl, WkV.flat0 (by kernel_rfl) (nl rfl)⟩
 replace hF := of_neg hF hc1
 refine TS.sk (NX.sq (TS.sq ?_))
 obtain ⟨hg2, hF⟩ := of_guardn hF
 obtain ⟨hg3, hF⟩ := of_guardn hF
 obtain ⟨hg4, hF⟩ := of_guard hF
 obtain ⟨o5, h6, hF⟩ := of_do hF
 replace h6 := sj h6
 obtain ⟨hg7, hF⟩ := of_guardn hF
 obtain ⟨hg8, hF⟩ := of_guard hF
 obtain ⟨o9, h10, hF⟩ := of_do hF
 replace h10 := sj h10
 refine TS.dp [] (fun e he => by cases he) mixed 22 [5] [0, 1, 2, 3] (st 32 [(5, iv (w64 ((w64 o5) - (w64 (3 * (w64 o9))))))]) (H44_0 p1 p2 p3) ?_ ?_
 · refine QJ.rn (qs (st 32 [(0, iv p0), (1, pt 0 0), (2, pt 2 0), (3, pt 3 0), (8, .bool ((p1.length : Int) == 0)), (9, sv 1 p1.length ANY), (10, iv p0), (11, iv p2)]) (H44_0 p1 p2 p3) [] []) 3 (QJ.o { val := iv (Int.tmod p0 p2) } (q_int (P := Try.prog) (op := .rem) (ty := 3) (ox := (.tmp 10)) (oy := (.tmp 11)) (k := .i64) (k' := .i64) (y := p0) (z := p2) (by kernel_rfl) (rem_ok hg2)) (QJ.rn (qs (st 32 [(0, iv p0), (1, pt 0 0), (2, pt 2 0), (3, pt 3 0), (8, .bool ((p1.length : Int) == 0)), (9, sv 1 p1.length ANY), (10, iv p0), (11, iv p2), (12, iv (Int.tmod p0 p2)), (13, sv 1 p1.length ANY), (14, iv (p1.length : Int))]) (H44_0 p1 p2 p3) [] []) 2 (QJ.o { val := iv (Int.tmod (Int.tmod p0 p2) (p1.length : Int)) } (q_int (P := Try.prog) (op := .rem) (ty := 3) (ox := (.tmp 12)) (oy := (.tmp 14)) (k := .i64) (k' := .i64) (y := Int.tmod p0 p2) (z := (p1.length : Int)) (by kernel_rfl) (rem_ok hg3)) (QJ.o { val := .pointer (some ⟨1, 0 + (Int.toNat (Int.tmod (Int.tmod p0 p2) (p1.length : Int))) * 1, none⟩) } (q_ixS 1 0 ((Int.toNat (Int.tmod (Int.tmod p0 p2) (p1.length : Int))) * 1) (by kernel_rfl) hg4) (QJ.o { val := .int .u8 o5 } (q_n1a Try.prog (H44_0 p1 p2 p3) 5 1 (0 + (Int.toNat (Int.tmod (Int.tmod p0 p2) (p1.length : Int))) * 1) p1 e5 1 5 (Int.toNat (Int.tmod (Int.tmod p0 p2) (p1.length : Int))) 0 0 h6) (QJ.rn (qs (st 32 [(0, iv p0), (1, pt 0 0), (2, pt 2 0), (3, pt 3 0), (8, .bool ((p1.length : Int) == 0)), (9, sv 1 p1.length ANY), (10, iv p0), (11, iv p2), (12, iv (Int.tmod p0 p2)), (13, sv 1 p1.length ANY), (14, iv (p1.length : Int)), (15, iv (Int.tmod (Int.tmod p0 p2) (p1.length : Int))), (16, .pointer (some ⟨1, 0 + (Int.toNat (Int.tmod (Int.tmod p0 p2) (p1.length : Int))) * 1, none⟩)), (17, .int .u8 o5), (18, iv (w64 o5)), (19, sv 1 p1.length ANY), (20, iv p0), (21, iv p3)]) (H44_0 p1 p2 p3) [] []) 4 (QJ.o { val := iv (Int.tmod p0 p3) } (q_int (P := Try.prog) (op := .rem) (ty := 3) (ox := (.tmp 20)) (oy := (.tmp 21)) (k := .i64) (k' := .i64) (y := p0) (z := p3) (by kernel_rfl) (rem_ok hg7)) (QJ.rn (qs (st 32 [(0, iv p0), (1, pt 0 0), (2, pt 2 0), (3, pt 3 0), (8, .bool ((p1.length : Int) == 0)), (9, sv 1 p1.length ANY), (10, iv p0), (11, iv p2), (12, iv (Int.tmod p0 p2)), (13, sv 1 p1.length ANY), (14, iv (p1.length : Int)), (15, iv (Int.tmod (Int.tmod p0 p2) (p1.length : Int))), (16, .pointer (some ⟨1, 0 + (Int.toNat (Int.tmod (Int.tmod p0 p2) (p1.length : Int))) * 1, none⟩)), (17, .int .u8 o5), (18, iv (w64 o5)), (19, sv 1 p1.length ANY), (20, iv p0), (21, iv p3), (22, iv (Int.tmod p0 p3)), (23, iv (w64 ((Int.tmod p0 p3) + 7))), (24, sv 1 p1.length ANY), (25, iv (p1.length : Int))]) (H44_0 p1 p2 p3) [] []) 3 ?_))))))))
   exact QJ.o { val := iv (Int.tmod (w64 ((Int.tmod p0 p3) + 7)) (p1.length : Int)) } (q_int (P := Try.prog) (op := .rem) (ty := 3) (ox := (.tmp 23)) (oy := (.tmp 25)) (k := .i64) (k' := .i64) (y := w64 ((Int.tmod p0 p3) + 7)) (z := (p1.length : Int)) (by kernel_rfl) (rem_ok hg3)) (QJ.o { val := .pointer (some ⟨1, 0 + (Int.toNat (Int.tmod (w64 ((Int.tmod p0 p3) + 7)) (p1.length : Int))) * 1, none⟩) } (q_ixS 1 0 ((Int.toNat (Int.tmod (w64 ((Int.tmod p0 p3) + 7)) (p1.length : Int))) * 1) (by kernel_rfl) hg8) (QJ.o { val := .int .u8 o9 } (q_n1a Try.prog (H44_0 p1 p2 p3) 5 1 (0 + (Int.toNat (Int.tmod (w64 ((Int.tmod p0 p3) + 7)) (p1.length : Int))) * 1) p1 e5 1 5 (Int.toNat (Int.tmod (w64 ((Int.tmod p0 p3) + 7)) (p1.length : Int))) 0 0 h10) (QJ.rn (qs (st 32 [(0, iv p0), (1, pt 0 0), (2, pt 2 0), (3, pt 3 0), (8, .bool ((p1.length : Int) == 0)), (9, sv 1 p1.length ANY), (10, iv p0), (11, iv p2), (12, iv (Int.tmod p0 p2)), (13, sv 1 p1.length ANY), (14, iv (p1.length : Int)), (15, iv (Int.tmod (Int.tmod p0 p2) (p1.length : Int))), (16, .pointer (some ⟨1, 0 + (Int.toNat (Int.tmod (Int.tmod p0 p2) (p1.length : Int))) * 1, none⟩)), (17, .int .u8 o5), (18, iv (w64 o5)), (19, sv 1 p1.length ANY), (20, iv p0), (21, iv p3), (22, iv (Int.tmod p0 p3)), (23, iv (w64 ((Int.tmod p0 p3) + 7))), (24, sv 1 p1.length ANY), (25, iv (p1.length : Int)), (26, iv (Int.tmod (w64 ((Int.tmod p0 p3) + 7)) (p1.length : Int))), (27, .pointer (some ⟨1, 0 + (Int.toNat (Int.tmod (w64 ((Int.tmod p0 p3) + 7)) (p1.length : Int))) * 1, none⟩)), (28, .int .u8 o9), (29, iv (w64 o9)), (30, iv (w64 (3 * (w64 o9))))]) (H44_0 p1 p2 p3) [] []) 2 (QJ.dn ⟨rfl, SJ.la⟩))))
 refine TS.rt ?_
 have hF := sj hF
 subst hF
 exact ⟨.inr rfl, rfl, iv (w64 ((w64 o5) - (w64 (3 * (w64 o9))))), by kernel_rfl, WkV.flat0 (by kernel_rfl) (nl rfl)⟩
theorem C44 (p0 : Int) (p1 : List Int) (p2 p3 r : Int) (hF : F44 p0 p1 p2 p3 = some r) : PureSim Try.prog 44 [iv p0, pt 0 0, pt 2 0, pt 3 0] (H44_0 p1 p2 p3) (V44 4 r) (N44 4 r) :=
 PureSim.of_Fin Try.func44 (c := c44) (by kernel_rfl) (by kernel_rfl) 4 rfl [0, 1, 2, 3] [0, 1, 2, 3] (by kernel_rfl) (B44 p0 p1 p2 p3 r hF)
noncomputable def c42 : Code := Try.f42.code
def H42_0 (p2 : List I2) (p0 p1 : Int) (r4 : List (I2 × PL)) : List Blk := [ab 57 e57 p2, cl 24 [iv p0, iv p1, sv 0 p2.length ANY], .dead, mb 83 u83 u85 r4]
def H42_1 (p2 : List I2) (p0 p1 : Int) : List Blk := [ab 57 e57 p2, cl 24 [iv p0, iv p1, sv 0 p2.length ANY], .dead, .dead]
def H42_2 (p2 : List I2) (p0 p1 : Int) : List Blk := [ab 57 e57 p2, cl 24 [iv p0, iv p1, sv 0 p2.length ANY], .dead]
def S42_3 (p3 p4 : Int) : CAct := (st 59 [(1, iv p3), (2, iv p4), (3, pt 1 0), (8, .map (some 3)), (24, iv p3), (25, iv p4)])
noncomputable def c42f46 : Code := Try.f46.code
def F42l0 (p0 p1 : Int) (p2 : List I2) (p4 : Int) (r4 : List (I2 × PL)) (v18 : List I2) (v17 : Int) : Option (List I2) :=
 if decide (v17 ≤ p4) then
  F59 p0 p1 p2 r4 v17 >>= fun r26 =>
  (
   if r26.2 then
    if List.length v18 ≤ 1000000000 then
     some (v18 ++ [(v17, r26.1)])
    else none
   else
    some v18
  : Option (List I2)) >>= fun m31 =>
  F42l0 p0 p1 p2 p4 r4 m31 (w64 (v17 + 1))
 else
  some v18
 partial_fixpoint
def F42 (p0 p1 : Int) (p2 : List I2) (p3 p4 : Int) : Option ((List I2) × Int) :=
 F23 p0 p1 p2 >>= fun r1 =>
 if r1 != 0 then
  some ([], r1)
 else
  F49 p0 p1 p2 >>= fun r4 =>
  F54 p0 p1 p2 r4 >>= fun r6 =>
  if decide (r6 ≥ 0) then
   some ([], 13)
  else
   F51 0 p3 p4 >>= fun r9 =>
   (
    if r9 then
     if decide (p4 > 100000) then
      some (true)
     else
      some (decide ((w64 (p4 - p3)) > 1000))
    else
     some (true)
   : Option Bool) >>= fun m12 =>
   if m12 then
    some ([], 1)
   else
    F42l0 p0 p1 p2 p4 r4 ([]) p3 >>= fun r35 =>
    some (r35, 0)
def V42 (b : Nat) (r : (List I2) × Int) : Value := .tuple ⟨[accV (b + 0) r.1.length, iv r.2]⟩
def N42 (b : Nat) (r : (List I2) × Int) : List Blk := [ab 57 e57 r.1]
def P42l0 (p0 p1 : Int) (p2 : List I2) (p4 : Int) (r4 : List (I2 × PL)) (r : List I2) : Post := fun e a h => e = .exit 1 ∧ Wk Try.prog 1 1 a h (st 59 [(10, accV 1 r.length)]) [ab 57 e57 p2, ab 57 e57 r]
theorem L42l0 (p0 p1 : Int) (p2 : List I2) (p4 : Int) (r4 : List (I2 × PL)) (v18 : List I2) (v17 : Int) (r : List I2) (hF : F42l0 p0 p1 p2 p4 r4 v18 v17 = some r) : TL Try.prog 1 1 c42.s2.s2.s2.s2.s1.s2.bd.bd (st 59 [(2, iv p4), (3, pt 1 0), (8, .map (some 2)), (10, accV 3 v18.length), (11, iv v17)]) [ab 57 e57 p2, cl 24 [iv p0, iv p1, sv 0 p2.length ANY], mb 83 u83 u85 r4, ab 57 e57 v18] (P42l0 p0 p1 p2 p4 r4 r) := by
 refine F42l0.partial_correctness p0 p1 p2 p4 r4 (motive := fun v18 v17 r => TL Try.prog 1 1 c42.s2.s2.s2.s2.s1.s2.bd.bd (st 59 [(2, iv p4), (3, pt 1 0), (8, .map (some 2)), (10, accV 3 v18.length), (11, iv v17)]) [ab 57 e57 p2, cl 24 [iv p0, iv p1, sv 0 p2.length ANY], mb 83 u83 u85 r4, ab 57 e57 v18] (P42l0 p0 p1 p2 p4 r4 r)) ?_ v18 v17 r hF
 clear hF r v18 v17
 intro again ih v18 v17 r hF
 refine TL.round (TS.sq (TS.sq (TS.rg (TI.ra 3 [2, 3, 8, 10, 11, 41] (st 59 [(2, iv p4), (3, pt 1 0), (8, .map (some 2)), (10, accV 3 v18.length), (11, iv v17), (41, .bool (decide (v17 ≤ p4)))]) (TI.dn (NX.sq ?_))))))
 refine TS.cd (.tmp 41) (decide (v17 ≤ p4)) (fun hc25 => ?_) (fun hc25 => ?_)
 · replace hF := of_pos hF hc25
   refine TS.sk (NX.sq (TS.sq (TS.bk 2 (TS.sq ?_))))
   obtain ⟨r26, h27, hF⟩ := of_do hF
   refine TS.rg (TI.ra 3 [2, 3, 8, 10, 11, 45, 46, 47] (st 59 [(2, iv p4), (3, pt 1 0), (8, .map (some 2)), (10, accV 3 v18.length), (11, iv v17), (45, ag [iv p0, iv p1, sv 0 p2.length ANY]), (46, .map (some 2)), (47, iv v17)]) (TI.cp 59 [ag [iv p0, iv p1, sv 0 p2.length ANY], .map (some 2), iv v17] (.tuple ⟨[iv r26.1, .bool r26.2]⟩) [] (PureSim.ren (hc := [ab 57 e57 p2, mb 83 u83 u85 r4]) (fun i => List.getD [(0, 0), (2, 0)] i (0, 0)) (C59 _ _ _ _ _ _ h27) (.ac (.cons (At.blk (by kernel_rfl) (RnB.map _ _)) (.nil _))) (.cons (Rn.agg' (.fl (.fl (.cons (Rn.any _ _ _ _ _ _ (nl rfl) rfl rfl (by decide)) .nil)))) (.cons (Rn.map _ (nl rfl)) (.fl .nil))) (.flat (by kernel_rfl)) newflat_nil) (TI.ra 5 [2, 3, 8, 10, 11, 12, 13] (st 59 [(2, iv p4), (3, pt 1 0), (8, .map (some 2)), (10, accV 3 v18.length), (11, iv v17), (12, iv r26.1), (13, .bool r26.2)]) (TI.dn (NX.sq (TS.sq (TS.rg (TI.ra 1 [2, 3, 8, 10, 11, 12, 51] (st 59 [(2, iv p4), (3, pt 1 0), (8, .map (some 2)), (10, accV 3 v18.length), (11, iv v17), (12, iv r26.1), (51, .bool r26.2)]) ?_))))))))
   refine TI.dn (NX.sq ?_)
   obtain ⟨m31, hm32, hF⟩ := of_do hF
   have hK : NX Try.prog 1 1 [.bk 2, .sq c42.s2.s2.s2.s2.s1.s2.bd.bd.s2.s2] (Rd Try.prog 1 1 c42.s2.s2.s2.s2.s1.s2.bd.bd (P42l0 p0 p1 p2 p4 r4 r)) .normal (st 59 [(2, iv p4), (3, pt 1 0), (8, .map (some 2)), (10, accV 3 m31.length), (11, iv v17)]) [ab 57 e57 p2, cl 24 [iv p0, iv p1, sv 0 p2.length ANY], mb 83 u83 u85 r4, ab 57 e57 m31] := by
    refine NX.bk (NX.sq (TS.rg (TI.ra 3 [2, 3, 8, 10, 11] (st 59 [(2, iv p4), (3, pt 1 0), (8, .map (some 2)), (10, accV 3 m31.length), (11, iv (w64 (v17 + 1)))]) (TI.dn ?_))))
    exact Rd.again (a2 := (st 59 [(2, iv p4), (3, pt 1 0), (8, .map (some 2)), (10, accV 3 m31.length), (11, iv (w64 (v17 + 1)))])) (h2 := [ab 57 e57 p2, cl 24 [iv p0, iv p1, sv 0 p2.length ANY], mb 83 u83 u85 r4, ab 57 e57 m31]) (Wk.an [1, 2, 3] (.ac (.lt (.fl (.fl (.sl .nil))) (.cons (At.blk (by kernel_rfl) (RnB.map _ _)) (.ac (.nil _))))) [iv p4, pt 1 0, .map (some 2), accV 3 m31.length, iv (w64 (v17 + 1))] (.fl (.pp (.cons (Rn.map _ (nl rfl)) (.cons (Rn.acc (nl rfl) rfl) (.fl .nil)))))) (ih m31 (w64 (v17 + 1)) _ hF)
   clear hF
   have hF := hm32
   clear hm32
   refine TS.start ?_
   refine TS.cd (.tmp 51) r26.2 (fun hc33 => ?_) (fun hc33 => ?_)
   · replace hF := of_pos hF hc33
     obtain ⟨hg34, hF⟩ := of_guard hF
     refine TS.rg (TI.rn 5 [2, 3, 8, 11, 52, 56] [0, 1, 2, 3, 4] (st 59 [(2, iv p4), (3, pt 1 0), (8, .map (some 2)), (11, iv v17), (52, accV 3 v18.length), (56, sv 4 1 1)]) [ab 57 e57 p2, cl 24 [iv p0, iv p1, sv 0 p2.length ANY], mb 83 u83 u85 r4, ab 57 e57 v18, cl 57 [iv v17, iv r26.1]] (TI.acc (l := v18) (b := 3) (ts := #[22, 22]) (e := 57) (bytes := 16) (z := ag [iv 0, iv 0]) (y := sv 4 1 1) (ys := [(v17, r26.1)]) (xs := List.flatMap e57 ([(v17, r26.1)])) (m := 1) (s := 2) (enc := e57) (by kernel_rfl) (by kernel_rfl) (by decide) (by kernel_rfl) (by kernel_rfl) (by kernel_rfl) (by kernel_rfl) (by kernel_rfl) (by kernel_rfl) (by kernel_rfl) (by kernel_rfl) (fun _ => rfl) rfl rfl (by omega) [2, 3, 8, 11, 57] [0, 1, 2, 5] (a2 := (st 59 [(2, iv p4), (3, pt 1 0), (8, .map (some 2)), (11, iv v17), (57, sv 5 (List.length (v18 ++ [(v17, r26.1)])) UNK)])) (h2 := [ab 57 e57 p2, cl 24 [iv p0, iv p1, sv 0 p2.length ANY], mb 83 u83 u85 r4, .dead, .dead, .cells 57 (List.flatMap e57 (v18 ++ [(v17, r26.1)]))]) (by kernel_rfl) (TI.ra 1 [2, 3, 8, 10, 11] (st 59 [(2, iv p4), (3, pt 1 0), (8, .map (some 2)), (10, sv 5 (List.length (v18 ++ [(v17, r26.1)])) UNK), (11, iv v17)]) (TI.dn ?_))))
     have hF := sj hF
     subst hF
     exact TS.weak (by exact (Wk.an [1, 2, 5] (.ac (.lt (.fl (.fl (.sl .nil))) (.cons (At.blk (by kernel_rfl) (RnB.map _ _)) (.cons (At.accU (by kernel_rfl) rfl (fun _ => rfl)) (.nil _))))) [iv p4, pt 1 0, .map (some 2), sv 5 (List.length (v18 ++ [(v17, r26.1)])) UNK, iv v17] (.fl (.pp (.cons (Rn.map _ (nl rfl)) (.cons (Rn.accU (nl rfl) rfl (by simp)) (.fl .nil))))))) hK
   replace hF := of_neg hF hc33
   refine TS.sk ?_
   have hF := sj hF
   subst hF
   exact TS.weak (by exact (Wk.an [1, 2, 3] (.ac (.lt (.fl (.fl (.sl .nil))) (.cons (At.blk (by kernel_rfl) (RnB.map _ _)) (.ac (.nil _))))) [iv p4, pt 1 0, .map (some 2), accV 3 v18.length, iv v17] (.fl (.pp (.cons (Rn.map _ (nl rfl)) (.cons (Rn.acc (nl rfl) rfl) (.fl .nil))))))) hK
 replace hF := of_neg hF hc25
 refine TS.ex 1 (NX.sqX ?_)
 have hF := sj hF
 subst hF
 exact Rd.out (e := .exit 1) (by intro h; cases h) (And.intro rfl (Wk.an [3] (.ac (.ac (.nil _))) [accV 3 v18.length] (.cons (Rn.acc (nl rfl) rfl) .nil)))
theorem B42 (p0 p1 : Int) (p2 : List I2) (p3 p4 : Int) (r : (List I2) × Int) (hF : F42 p0 p1 p2 p3 p4 = some r) : TS Try.prog 1 1 c42 (st 59 [(0, ag [iv p0, iv p1, sv 0 p2.length ANY]), (1, iv p3), (2, iv p4)]) [ab 57 e57 p2] (NX Try.prog 1 1 [] (FinP Try.prog Try.f42 1 (V42 1 r) (N42 1 r))) := by
 unfold F42 at hF
 refine TS.sq (TS.rg (TI.rn 3 [1, 2, 3] [0, 1] (st 59 [(1, iv p3), (2, iv p4), (3, pt 1 0)]) [ab 57 e57 p2, cl 24 [iv p0, iv p1, sv 0 p2.length ANY]] (TI.dn (NX.sq (TS.sq (TS.rg (TI.ra 1 [1, 2, 3, 15] (st 59 [(1, iv p3), (2, iv p4), (3, pt 1 0), (15, ag [iv p0, iv p1, sv 0 p2.length ANY])]) (TI.inline (g := 46) (args := [ag [iv p0, iv p1, sv 0 p2.length ANY]]) (fn := Try.f46) (c := c42f46) (n := 2) (by kernel_rfl) (by kernel_rfl) (by kernel_rfl) (by kernel_rfl) (by kernel_rfl) [0] (a2 := (st 18 [(0, ag [iv p0, iv p1, sv 0 p2.length ANY])])) (by kernel_rfl) ?_))))))))
 refine TS.sq (TS.rg (TI.rn 3 [1] [0, 1, 2] (st 18 [(1, pt 2 0)]) [ab 57 e57 p2, cl 24 [iv p0, iv p1, sv 0 p2.length ANY], cl 24 [iv p0, iv p1, sv 0 p2.length ANY]] (TI.dn (NX.sq (TS.sq (TS.sq ?_))))))
 obtain ⟨r1, h2, hF⟩ := of_do hF
 refine TS.rg (TI.ra 1 [1, 6] (st 18 [(1, pt 2 0), (6, ag [iv p0, iv p1, sv 0 p2.length ANY])]) (TI.cp 23 [ag [iv p0, iv p1, sv 0 p2.length ANY]] (iv r1) [] (PureSim.ren (hc := [ab 57 e57 p2]) (fun i => List.getD [(0, 0)] i (0, 0)) (C23 _ _ _ _ h2) (.ac (.nil _)) (.cons (Rn.agg' (.fl (.fl (.cons (Rn.any _ _ _ _ _ _ (nl rfl) rfl rfl (by decide)) .nil)))) .nil) (.flat (by kernel_rfl)) newflat_nil) (TI.ra 1 [1, 4] (st 18 [(1, pt 2 0), (4, iv r1)]) (TI.dn (NX.sq (TS.sq (TS.rg (TI.ra 2 [1, 4, 9] (st 18 [(1, pt 2 0), (4, iv r1), (9, .bool (r1 != 0))]) ?_))))))))
 refine TI.dn (NX.sq ?_)
 refine TS.cd (.tmp 9) (r1 != 0) (fun hc3 => ?_) (fun hc3 => ?_)
 · replace hF := of_pos hF hc3
   refine TS.sq (TS.rg (TI.rn 3 [2, 3] [0, 1] (st 18 [(2, .map none), (3, iv r1)]) (H42_2 p2 p0 p1) (TI.dn (NX.sq (TS.rt (NX.sqR ?_))))))
   refine ⟨.inr rfl, rfl, .tuple ⟨[.map none, iv r1]⟩, .tuple ⟨[.map none, iv r1]⟩, (H42_2 p2 p0 p1), by kernel_rfl, WkV.refl, (TI.rn 0 [1, 2, 3, 16] [0, 1] (st 59 [(1, iv p3), (2, iv p4), (3, pt 1 0), (16, .tuple ⟨[.map none, iv r1]⟩)]) (H42_2 p2 p0 p1) (TI.ra 5 [1, 2, 3, 8, 9] (st 59 [(1, iv p3), (2, iv p4), (3, pt 1 0), (8, .map none), (9, iv r1)]) (TI.dn (NX.sq (TS.sq (TS.bk 0 (TS.sq (TS.rg ?_))))))))⟩
   refine TI.ra 1 [1, 2, 3, 8, 9, 20] (st 59 [(1, iv p3), (2, iv p4), (3, pt 1 0), (8, .map none), (9, iv r1), (20, iv r1)]) (TI.o { val := .bool true } (q_conv (e := r1 != 0) (b := true) (by kernel_rfl) hc3) [1, 2, 3, 8, 9, 21] [0, 1] (st 59 [(1, iv p3), (2, iv p4), (3, pt 1 0), (8, .map none), (9, iv r1), (21, .bool true)]) (H42_2 p2 p0 p1) (TI.ra 1 [1, 2, 3, 8, 9, 19] (st 59 [(1, iv p3), (2, iv p4), (3, pt 1 0), (8, .map none), (9, iv r1), (19, .bool true)]) (TI.dn (NX.sq (TS.cdT (.tmp 19) (TS.sq (TS.rg (TI.rn 3 [6, 7] [0] (st 59 [(6, .slice none 0 0), (7, iv r1)]) [ab 57 e57 p2, .dead, .dead] ?_))))))))
   refine TI.dn (NX.sq (TS.rt (NX.bkR (NX.sqR ?_))))
   have hF := sj hF
   subst hF
   exact ⟨.inr rfl, rfl, .tuple ⟨[.slice none 0 0, iv r1]⟩, by kernel_rfl, WkV.made (L := 1) (f := [3]) (by decide) (by decide) rfl (.cons At.accN (.nil _)) (Rn.tuple' (.cons Rn.accN (.fl .nil)))⟩
 replace hF := of_neg hF hc3
 refine TS.sk (NX.sq (TS.sq ?_))
 obtain ⟨r4, h5, hF⟩ := of_do hF
 refine TS.rg (TI.ra 1 [1, 11] (st 18 [(1, pt 2 0), (11, ag [iv p0, iv p1, sv 0 p2.length ANY])]) (TI.cp 49 [ag [iv p0, iv p1, sv 0 p2.length ANY]] (.map (some 3)) [mb 83 u83 u85 r4] (PureSim.ren (hc := [ab 57 e57 p2]) (fun i => List.getD [(0, 0)] i (0, 0)) (C49 _ _ _ _ h5) (.ac (.nil _)) (.cons (Rn.agg' (.fl (.fl (.cons (Rn.any _ _ _ _ _ _ (nl rfl) rfl rfl (by decide)) .nil)))) .nil) (Rn.map _ (nl rfl)) (newflat_cons (.inr rfl) newflat_nil)) (TI.rn 1 [1, 5] [0, 1, 2, 3] (st 18 [(1, pt 2 0), (5, .map (some 3))]) [ab 57 e57 p2, cl 24 [iv p0, iv p1, sv 0 p2.length ANY], cl 24 [iv p0, iv p1, sv 0 p2.length ANY], mb 83 u83 u85 r4] (TI.dn (NX.sq (TS.sq (TS.sq ?_)))))))
 obtain ⟨r6, h7, hF⟩ := of_do hF
 refine TS.rg (TI.rn 2 [5, 13, 14] [0, 1, 3] (st 18 [(5, .map (some 3)), (13, ag [iv p0, iv p1, sv 0 p2.length ANY]), (14, .map (some 3))]) (H42_0 p2 p0 p1 r4) (TI.cp 54 [ag [iv p0, iv p1, sv 0 p2.length ANY], .map (some 3)] (iv r6) [] (PureSim.ren (hc := [ab 57 e57 p2, mb 83 u83 u85 r4]) (fun i => List.getD [(0, 0), (3, 0)] i (0, 0)) (C54 _ _ _ _ _ h7) (.ac (.cons (At.blk (by kernel_rfl) (RnB.map _ _)) (.nil _))) (.cons (Rn.agg' (.fl (.fl (.cons (Rn.any _ _ _ _ _ _ (nl rfl) rfl rfl (by decide)) .nil)))) (.cons (Rn.map _ (nl rfl)) .nil)) (.flat (by kernel_rfl)) newflat_nil) (TI.ra 1 [5, 16] (st 18 [(5, .map (some 3)), (16, .bool (decide (r6 ≥ 0)))]) (TI.dn (NX.sq ?_)))))
 refine TS.cd (.tmp 16) (decide (r6 ≥ 0)) (fun hc8 => ?_) (fun hc8 => ?_)
 · replace hF := of_pos hF hc8
   refine TS.sq (TS.rg (TI.rn 2 [2, 3] [0, 1] (st 18 [(2, .map none), (3, iv 13)]) (H42_1 p2 p0 p1) (TI.dn (NX.sq (TS.rt (NX.sqR ?_))))))
   refine ⟨.inr rfl, rfl, .tuple ⟨[.map none, iv 13]⟩, .tuple ⟨[.map none, iv 13]⟩, (H42_1 p2 p0 p1), by kernel_rfl, WkV.refl, (TI.rn 0 [1, 2, 3, 16] [0, 1] (st 59 [(1, iv p3), (2, iv p4), (3, pt 1 0), (16, .tuple ⟨[.map none, iv 13]⟩)]) (H42_1 p2 p0 p1) (TI.ra 5 [1, 2, 3, 8, 9] (st 59 [(1, iv p3), (2, iv p4), (3, pt 1 0), (8, .map none), (9, iv 13)]) (TI.dn (NX.sq (TS.sq (TS.bk 0 (TS.sq (TS.rg ?_))))))))⟩
   refine TI.ra 3 [1, 2, 3, 8, 9, 19] (st 59 [(1, iv p3), (2, iv p4), (3, pt 1 0), (8, .map none), (9, iv 13), (19, .bool true)]) (TI.dn (NX.sq (TS.cdT (.tmp 19) (TS.sq (TS.rg (TI.rn 3 [6, 7] [0] (st 59 [(6, .slice none 0 0), (7, iv 13)]) [ab 57 e57 p2, .dead, .dead, .dead] (TI.dn (NX.sq ?_))))))))
   refine TS.rt (NX.bkR (NX.sqR ?_))
   have hF := sj hF
   subst hF
   exact ⟨.inr rfl, rfl, .tuple ⟨[.slice none 0 0, iv 13]⟩, by kernel_rfl, WkV.made (L := 1) (f := [4]) (by decide) (by decide) rfl (.cons At.accN (.nil _)) (Rn.tuple' (.cons Rn.accN (.fl .nil)))⟩
 replace hF := of_neg hF hc8
 refine TS.sk (NX.sq (TS.sq (TS.rg (TI.ra 3 [2, 3] (st 18 [(2, .map (some 3)), (3, iv 0)]) (TI.dn (NX.sq (TS.rt ?_)))))))
 refine ⟨.inr rfl, rfl, .tuple ⟨[.map (some 3), iv 0]⟩, .tuple ⟨[.map (some 3), iv 0]⟩, (H42_0 p2 p0 p1 r4), by kernel_rfl, WkV.refl, (TI.rn 0 [1, 2, 3, 16] [0, 1, 3] (st 59 [(1, iv p3), (2, iv p4), (3, pt 1 0), (16, .tuple ⟨[.map (some 3), iv 0]⟩)]) (H42_0 p2 p0 p1 r4) (TI.ra 5 [1, 2, 3, 8, 9] (st 59 [(1, iv p3), (2, iv p4), (3, pt 1 0), (8, .map (some 3)), (9, iv 0)]) (TI.dn (NX.sq (TS.sq (TS.bk 0 (TS.sq (TS.rg ?_))))))))⟩
 refine TI.ra 3 [1, 2, 3, 8, 9, 19] (st 59 [(1, iv p3), (2, iv p4), (3, pt 1 0), (8, .map (some 3)), (9, iv 0), (19, .bool false)]) (TI.dn (NX.sq (TS.cdF (.tmp 19) (TS.sq ?_))))
 obtain ⟨r9, h10, hF⟩ := of_do hF
 obtain ⟨m12, hm37, hF⟩ := of_do hF
 have hK : NX Try.prog 1 1 [.sq c42.s2.s2.s1.bd.s2.el.s2, .bk 0, .sq c42.s2.s2.s2] (FinP Try.prog Try.f42 1 (V42 1 r) (N42 1 r)) .normal (st 59 [(1, iv p3), (2, iv p4), (3, pt 1 0), (8, .map (some 3)), (23, .bool m12)]) (H42_0 p2 p0 p1 r4) := by
  refine NX.sq ?_
  cases m12 with
  | true =>
   replace hF := of_pos hF rfl
   refine TS.cdT (.tmp 23) (TS.sq (TS.rg (TI.rn 2 [6, 7] [0] (st 59 [(6, .slice none 0 0), (7, iv 1)]) [ab 57 e57 p2, .dead, .dead, .dead] (TI.dn (NX.sq (TS.rt (NX.bkR (NX.sqR ?_))))))))
   have hF := sj hF
   subst hF
   exact ⟨.inr rfl, rfl, .tuple ⟨[.slice none 0 0, iv 1]⟩, by kernel_rfl, WkV.made (L := 1) (f := [4]) (by decide) (by decide) rfl (.cons At.accN (.nil _)) (Rn.tuple' (.cons Rn.accN (.fl .nil)))⟩
  | false =>
   replace hF := of_neg hF rfl
   refine TS.cdF (.tmp 23) (TS.sk (NX.bk (NX.sq (TS.sq (TS.rg (TI.ra 1 [1, 2, 3, 8, 10] (st 59 [(1, iv p3), (2, iv p4), (3, pt 1 0), (8, .map (some 3)), (10, .slice none 0 0)]) (TI.dn (NX.sq ?_))))))))
   refine TS.sq (TS.sq (TS.rg (TI.ra 2 [2, 3, 8, 10, 11] (st 59 [(2, iv p4), (3, pt 1 0), (8, .map (some 3)), (10, .slice none 0 0), (11, iv p3)]) (TI.dn (NX.sq (TS.bk 1 ?_))))))
   obtain ⟨r35, h36, hF⟩ := of_do hF
   refine TS.lp (TL.weak (a2 := (st 59 [(2, iv p4), (3, pt 1 0), (8, .map (some 2)), (10, accV 3 (List.length ([]))), (11, iv p3)])) (h2 := [ab 57 e57 p2, cl 24 [iv p0, iv p1, sv 0 p2.length ANY], mb 83 u83 u85 r4, accB 57 (List.length ([])) (List.flatMap e57 ([]))]) (Wk.an [1, 3, 4] (.ac (.lt (.fl (.fl (.sl .nil))) (.cons (At.blk (by kernel_rfl) (RnB.map _ _)) (.cons At.accN (.nil _))))) [iv p4, pt 1 0, .map (some 3), .slice none 0 0, iv p3] (.fl (.pp (.cons (Rn.map _ (nl rfl)) (.cons (Rn.accN) (.fl .nil)))))) (TL.post (L42l0 p0 p1 p2 p4 r4 ([]) p3 r35 h36) ?_))
   rintro e a1 h1 hp
   obtain ⟨rfl, hw⟩ := hp
   refine ⟨(st 59 [(10, accV 1 r35.length)]), [ab 57 e57 p2, ab 57 e57 r35], (NX.bkX (NX.sq (TS.sq (TS.rg (TI.ra 3 [6, 7] (st 59 [(6, accV 1 r35.length), (7, iv 0)]) (TI.dn (NX.sq (TS.rt ?_)))))))), hw⟩
   have hF := sj hF
   subst hF
   exact ⟨.inr rfl, rfl, .tuple ⟨[accV 1 r35.length, iv 0]⟩, by kernel_rfl, WkV.made (L := 1) (f := [1]) (by decide) (by decide) rfl (.ac (.nil _)) (Rn.tuple' (.cons (Rn.acc (nl rfl) rfl) (.fl .nil)))⟩
 cases r9 with
 | true =>
  replace hm37 := of_pos hm37 rfl
  rcases Bool.eq_false_or_eq_true (decide (p4 > 100000)) with hc11 | hc11
  · replace hm37 := of_pos hm37 hc11
    have hm37 := sj hm37
    subst hm37
    exact TS.rg (TI.ra 2 [1, 2, 3, 8, 24, 25] (S42_3 p3 p4) (TI.cf (C51 _ _ _ _ h10) (TI.ra 3 [1, 2, 3, 8, 28, 29] (st 59 [(1, iv p3), (2, iv p4), (3, pt 1 0), (8, .map (some 3)), (28, .bool false), (29, iv p4)]) (TI.o { val := .bool true } (q_conv (e := decide (p4 > 100000)) (b := true) (by kernel_rfl) hc11) [1, 2, 3, 8, 28, 30] [0, 1, 3] (st 59 [(1, iv p3), (2, iv p4), (3, pt 1 0), (8, .map (some 3)), (28, .bool false), (30, .bool true)]) (H42_0 p2 p0 p1 r4) (TI.ra 8 [1, 2, 3, 8, 23] (st 59 [(1, iv p3), (2, iv p4), (3, pt 1 0), (8, .map (some 3)), (23, .bool true)]) (TI.dn hK))))))
  replace hm37 := of_neg hm37 hc11
  have hm37 := sj hm37
  subst hm37
  exact TS.rg (TI.ra 2 [1, 2, 3, 8, 24, 25] (S42_3 p3 p4) (TI.cf (C51 _ _ _ _ h10) (TI.ra 3 [1, 2, 3, 8, 28, 29] (st 59 [(1, iv p3), (2, iv p4), (3, pt 1 0), (8, .map (some 3)), (28, .bool false), (29, iv p4)]) (TI.o { val := .bool false } (q_conv (e := decide (p4 > 100000)) (b := false) (by kernel_rfl) hc11) [1, 2, 3, 8, 28, 30] [0, 1, 3] (st 59 [(1, iv p3), (2, iv p4), (3, pt 1 0), (8, .map (some 3)), (28, .bool false), (30, .bool false)]) (H42_0 p2 p0 p1 r4) (TI.ra 8 [1, 2, 3, 8, 23] (st 59 [(1, iv p3), (2, iv p4), (3, pt 1 0), (8, .map (some 3)), (23, .bool (decide ((w64 (p4 - p3)) > 1000)))]) (TI.dn hK))))))
 | false =>
  replace hm37 := of_neg hm37 rfl
  have hm37 := sj hm37
  subst hm37
  exact TS.rg (TI.ra 2 [1, 2, 3, 8, 24, 25] (S42_3 p3 p4) (TI.cf (C51 _ _ _ _ h10) (TI.ra 12 [1, 2, 3, 8, 23] (st 59 [(1, iv p3), (2, iv p4), (3, pt 1 0), (8, .map (some 3)), (23, .bool true)]) (TI.dn hK))))
theorem C42 (p0 p1 : Int) (p2 : List I2) (p3 p4 : Int) (r : (List I2) × Int) (hF : F42 p0 p1 p2 p3 p4 = some r) : PureSim Try.prog 42 [ag [iv p0, iv p1, sv 0 p2.length ANY], iv p3, iv p4] [ab 57 e57 p2] (V42 1 r) (N42 1 r) :=
 PureSim.of_Fin Try.func42 (c := c42) (by kernel_rfl) (by kernel_rfl) 1 rfl [0, 1, 2] [0] (by kernel_rfl) (B42 p0 p1 p2 p3 p4 r hF)
noncomputable def c13 : Code := Try.f13.code
def S13_0 (p2 : Int) (r1 : I2) (v16 : Int) (y28 : I2) (y28s : List I2) (r26 : Int) : CAct := (st 163 [(2, .int .u8 p2), (9, pt 1 0), (10, pt 2 0), (11, iv r1.1), (13, .func (.func 44) ⟨[]⟩ ⟨[pt 3 0, pt 1 0, pt 2 0]⟩), (14, pt 4 0), (15, pt 6 0), (16, iv v16), (64, .bool (decide (v16 < (w64 ((w64 p2) + r1.1))))), (67, pt 4 2), (68, sv 5 (List.length (y28 :: y28s)) UNK), (69, iv v16), (70, .func (.func 44) ⟨[]⟩ ⟨[pt 3 0, pt 1 0, pt 2 0]⟩), (71, iv v16), (72, iv r26), (73, ag [iv v16, iv r26]), (74, sv 8 1 1), (75, sv 9 (List.length ((y28 :: y28s) ++ [(v16, r26)])) UNK), (76, pt 4 2)])
def H13_1 (p3 : List Int) (p0 p1 : Int) (r6 : Int × Int × (List I2)) (y28 : I2) (y28s : List I2) (v16 r26 : Int) (r8 : Int × Int × (List I2)) : List Blk := [ab 5 e5 p3, cl 3 [iv (w64 (1 + (Int.tmod (w64 p0) 12)))], cl 3 [iv (w64 (1 + (Int.tmod (w64 p1) 12)))], cl 50 [sv 0 p3.length ANY], cl 24 [iv r6.1, iv r6.2.1, sv 9 (List.length ((y28 :: y28s) ++ [(v16, r26)])) UNK], .dead, cl 24 [iv r8.1, iv r8.2.1, accV 7 r8.2.2.length], ab 57 e57 r8.2.2, cl 57 [iv v16, iv r26], .cells 57 (List.flatMap e57 ((y28 :: y28s) ++ [(v16, r26)]))]
def S13_2 (p2 : Int) (r1 : I2) (v16 r26 : Int) : CAct := (st 163 [(2, .int .u8 p2), (9, pt 1 0), (10, pt 2 0), (11, iv r1.1), (13, .func (.func 44) ⟨[]⟩ ⟨[pt 3 0, pt 1 0, pt 2 0]⟩), (14, pt 4 0), (15, pt 6 0), (16, iv v16), (64, .bool (decide (v16 < (w64 ((w64 p2) + r1.1))))), (67, pt 4 2), (68, .slice none 0 0), (69, iv v16), (70, .func (.func 44) ⟨[]⟩ ⟨[pt 3 0, pt 1 0, pt 2 0]⟩), (71, iv v16), (72, iv r26), (73, ag [iv v16, iv r26]), (74, sv 8 1 1), (75, sv 9 (List.length [(v16, r26)]) UNK), (76, pt 4 2)])
def H13_3 (p3 : List Int) (p0 p1 : Int) (r6 : Int × Int × (List I2)) (r31 : List I2) (r8 : Int × Int × (List I2)) (r1 : I2) (r35 : (List I2) × Int) : List Blk := [ab 5 e5 p3, cl 3 [iv (w64 (1 + (Int.tmod (w64 p0) 12)))], cl 3 [iv (w64 (1 + (Int.tmod (w64 p1) 12)))], cl 50 [sv 0 p3.length ANY], cl 24 [iv r6.1, iv r6.2.1, sv 5 r31.length UNK], .cells 57 (List.flatMap e57 r31), cl 24 [iv r8.1, iv r8.2.1, sv 5 (List.length (List.take (Int.toNat (w64 (r1.1 - 1))) r31)) UNK], .dead, ab 57 e57 r35.1]
def H13_4 (p3 : List Int) (p0 p1 : Int) (r6 : Int × Int × (List I2)) (v16 r26 : Int) (r8 : Int × Int × (List I2)) : List Blk := [ab 5 e5 p3, cl 3 [iv (w64 (1 + (Int.tmod (w64 p0) 12)))], cl 3 [iv (w64 (1 + (Int.tmod (w64 p1) 12)))], cl 50 [sv 0 p3.length ANY], cl 24 [iv r6.1, iv r6.2.1, sv 9 (List.length [(v16, r26)]) UNK], .dead, cl 24 [iv r8.1, iv r8.2.1, accV 7 r8.2.2.length], ab 57 e57 r8.2.2, cl 57 [iv v16, iv r26], .cells 57 (List.flatMap e57 ([(v16, r26)]))]
def S13_5 (p2 : Int) (r1 : I2) (v16 : Int) (y28 : I2) (y28s : List I2) (r26 : Int) : CAct := (st 163 [(2, .int .u8 p2), (9, pt 1 0), (10, pt 2 0), (11, iv r1.1), (13, .func (.func 44) ⟨[]⟩ ⟨[pt 3 0, pt 1 0, pt 2 0]⟩), (14, pt 4 0), (15, pt 6 0), (16, iv v16), (64, .bool (decide (v16 < (w64 ((w64 p2) + r1.1))))), (67, pt 4 2), (68, sv 5 (List.length (y28 :: y28s)) UNK), (69, iv v16), (70, .func (.func 44) ⟨[]⟩ ⟨[pt 3 0, pt 1 0, pt 2 0]⟩), (71, iv v16), (72, iv r26), (73, ag [iv v16, iv r26]), (74, sv 8 1 1)])
def H13_6 (p3 : List Int) (p0 p1 : Int) (r6 : Int × Int × (List I2)) (y28 : I2) (y28s : List I2) (r8 : Int × Int × (List I2)) (v16 r26 : Int) : List Blk := [ab 5 e5 p3, cl 3 [iv (w64 (1 + (Int.tmod (w64 p0) 12)))], cl 3 [iv (w64 (1 + (Int.tmod (w64 p1) 12)))], cl 50 [sv 0 p3.length ANY], cl 24 [iv r6.1, iv r6.2.1, sv 5 (List.length (y28 :: y28s)) UNK], .cells 57 (List.flatMap e57 (y28 :: y28s)), cl 24 [iv r8.1, iv r8.2.1, accV 7 r8.2.2.length], ab 57 e57 r8.2.2, cl 57 [iv v16, iv r26]]
def H13_7 (p3 : List Int) (p0 p1 : Int) (r6 : Int × Int × (List I2)) (y28 : I2) (y28s : List I2) (r8 : Int × Int × (List I2)) : List Blk := [ab 5 e5 p3, cl 3 [iv (w64 (1 + (Int.tmod (w64 p0) 12)))], cl 3 [iv (w64 (1 + (Int.tmod (w64 p1) 12)))], cl 50 [sv 0 p3.length ANY], cl 24 [iv r6.1, iv r6.2.1, sv 5 (List.length (y28 :: y28s)) UNK], .cells 57 (List.flatMap e57 (y28 :: y28s)), cl 24 [iv r8.1, iv r8.2.1, accV 7 r8.2.2.length], ab 57 e57 r8.2.2]
def S13_8 (p2 : Int) (r1 : I2) (v16 r26 : Int) : CAct := (st 163 [(2, .int .u8 p2), (9, pt 1 0), (10, pt 2 0), (11, iv r1.1), (13, .func (.func 44) ⟨[]⟩ ⟨[pt 3 0, pt 1 0, pt 2 0]⟩), (14, pt 4 0), (15, pt 6 0), (16, iv v16), (64, .bool (decide (v16 < (w64 ((w64 p2) + r1.1))))), (67, pt 4 2), (68, .slice none 0 0), (69, iv v16), (70, .func (.func 44) ⟨[]⟩ ⟨[pt 3 0, pt 1 0, pt 2 0]⟩), (71, iv v16), (72, iv r26), (73, ag [iv v16, iv r26]), (74, sv 8 1 1)])
def H13_9 (p3 : List Int) (p0 p1 : Int) (r6 : Int × Int × (List I2)) (r31 : List I2) (r8 : Int × Int × (List I2)) : List Blk := [ab 5 e5 p3, cl 3 [iv (w64 (1 + (Int.tmod (w64 p0) 12)))], cl 3 [iv (w64 (1 + (Int.tmod (w64 p1) 12)))], cl 50 [sv 0 p3.length ANY], cl 24 [iv r6.1, iv r6.2.1, sv 5 r31.length UNK], .cells 57 (List.flatMap e57 r31), cl 24 [iv r8.1, iv r8.2.1, accV 7 r8.2.2.length], ab 57 e57 r8.2.2]
def H13_10 (p3 : List Int) (p0 p1 : Int) (r6 : Int × Int × (List I2)) (v17 : List I2) (r8 : Int × Int × (List I2)) : List Blk := [ab 5 e5 p3, cl 3 [iv (w64 (1 + (Int.tmod (w64 p0) 12)))], cl 3 [iv (w64 (1 + (Int.tmod (w64 p1) 12)))], cl 50 [sv 0 p3.length ANY], cl 24 [iv r6.1, iv r6.2.1, accV 5 v17.length], ab 57 e57 v17, cl 24 [iv r8.1, iv r8.2.1, accV 7 r8.2.2.length], ab 57 e57 r8.2.2]
def H13_11 (p3 : List Int) (p0 p1 : Int) (r6 r8 : Int × Int × (List I2)) (v16 r26 : Int) : List Blk := [ab 5 e5 p3, cl 3 [iv (w64 (1 + (Int.tmod (w64 p0) 12)))], cl 3 [iv (w64 (1 + (Int.tmod (w64 p1) 12)))], cl 50 [sv 0 p3.length ANY], cl 24 [iv r6.1, iv r6.2.1, .slice none 0 0], .dead, cl 24 [iv r8.1, iv r8.2.1, accV 7 r8.2.2.length], ab 57 e57 r8.2.2, cl 57 [iv v16, iv r26]]
def H13_12 (p3 : List Int) (p0 p1 : Int) (r6 r8 : Int × Int × (List I2)) : List Blk := [ab 5 e5 p3, cl 3 [iv (w64 (1 + (Int.tmod (w64 p0) 12)))], cl 3 [iv (w64 (1 + (Int.tmod (w64 p1) 12)))], cl 50 [sv 0 p3.length ANY], cl 24 [iv r6.1, iv r6.2.1, .slice none 0 0], .dead, cl 24 [iv r8.1, iv r8.2.1, accV 7 r8.2.2.length], ab 57 e57 r8.2.2]
def H13_13 (p3 : List Int) (p0 p1 : Int) (r31 : List I2) (r35 r37 : (List I2) × Int) : List Blk := [ab 5 e5 p3, cl 3 [iv (w64 (1 + (Int.tmod (w64 p0) 12)))], cl 3 [iv (w64 (1 + (Int.tmod (w64 p1) 12)))], cl 50 [sv 0 p3.length ANY], .dead, .cells 57 (List.flatMap e57 r31), .dead, .dead, ab 57 e57 r35.1, ab 57 e57 r37.1]
def H13_14 (p3 : List Int) (p0 p1 : Int) (r35 r37 : (List I2) × Int) : List Blk := [ab 5 e5 p3, cl 3 [iv (w64 (1 + (Int.tmod (w64 p0) 12)))], cl 3 [iv (w64 (1 + (Int.tmod (w64 p1) 12)))], cl 50 [sv 0 p3.length ANY], .dead, .dead, .dead, .dead, ab 57 e57 r35.1, ab 57 e57 r37.1]
def H13_15 (p3 : List Int) (p0 p1 : Int) (r35 : (List I2) × Int) : List Blk := [ab 5 e5 p3, cl 3 [iv (w64 (1 + (Int.tmod (w64 p0) 12)))], cl 3 [iv (w64 (1 + (Int.tmod (w64 p1) 12)))], cl 50 [sv 0 p3.length ANY], .dead, .dead, .dead, .dead, ab 57 e57 r35.1, .dead]
def S13_16 (r1 : I2) (r35 r37 : (List I2) × Int) (r39 r41 : I2) : CAct := (st 163 [(9, pt 1 0), (10, pt 2 0), (11, iv r1.1), (13, .func (.func 44) ⟨[]⟩ ⟨[pt 3 0, pt 1 0, pt 2 0]⟩), (17, accV 8 r35.1.length), (18, accV 9 r37.1.length), (20, iv r39.1), (21, iv r39.2), (22, iv r41.1), (23, iv r41.2), (105, .bool false), (107, .bool false)])
def H13_17 (p3 : List Int) (p0 p1 : Int) (r35 : (List I2) × Int) (o74 : I2) : List Blk := [ab 5 e5 p3, cl 50 [sv 0 p3.length ANY], cl 3 [iv (w64 (1 + (Int.tmod (w64 p0) 12)))], cl 3 [iv (w64 (1 + (Int.tmod (w64 p1) 12)))], ab 57 e57 r35.1, cl 57 [iv o74.1, iv o74.2]]
def S13_18 (r1 : I2) (r35 r37 : (List I2) × Int) (r39 r41 : I2) : CAct := (st 163 [(9, pt 1 0), (10, pt 2 0), (11, iv r1.1), (13, .func (.func 44) ⟨[]⟩ ⟨[pt 3 0, pt 1 0, pt 2 0]⟩), (17, accV 8 r35.1.length), (18, accV 9 r37.1.length), (20, iv r39.1), (21, iv r39.2), (22, iv r41.1), (23, iv r41.2), (105, .bool false), (106, iv r37.2)])
def S13_19 (r1 : I2) (r35 r37 : (List I2) × Int) (r39 r41 : I2) : CAct := (st 163 [(9, pt 1 0), (10, pt 2 0), (11, iv r1.1), (13, .func (.func 44) ⟨[]⟩ ⟨[pt 3 0, pt 1 0, pt 2 0]⟩), (17, accV 8 r35.1.length), (18, accV 9 r37.1.length), (19, iv r37.2), (20, iv r39.1), (21, iv r39.2), (22, iv r41.1), (23, iv r41.2), (104, .bool false)])
def S13_20 (r1 : I2) (r35 r37 : (List I2) × Int) (r39 r41 : I2) : CAct := (st 163 [(9, pt 1 0), (10, pt 2 0), (11, iv r1.1), (13, .func (.func 44) ⟨[]⟩ ⟨[pt 3 0, pt 1 0, pt 2 0]⟩), (17, accV 8 r35.1.length), (18, accV 9 r37.1.length), (19, iv r37.2), (20, iv r39.1), (21, iv r39.2), (22, iv r41.1), (23, iv r41.2), (103, iv r35.2)])
def S13_21 (r1 : I2) (r35 r37 : (List I2) × Int) (r39 r41 : I2) : CAct := (st 163 [(9, pt 1 0), (10, pt 2 0), (11, iv r1.1), (13, .func (.func 44) ⟨[]⟩ ⟨[pt 3 0, pt 1 0, pt 2 0]⟩), (17, accV 8 r35.1.length), (18, accV 9 r37.1.length), (20, iv r39.1), (22, iv r41.1), (117, .bool false), (119, iv (r35.1.length : Int))])
def S13_22 (r1 : I2) (r35 r37 : (List I2) × Int) (r39 r41 : I2) : CAct := (st 163 [(9, pt 1 0), (10, pt 2 0), (11, iv r1.1), (13, .func (.func 44) ⟨[]⟩ ⟨[pt 3 0, pt 1 0, pt 2 0]⟩), (17, accV 8 r35.1.length), (18, accV 9 r37.1.length), (20, iv r39.1), (22, iv r41.1), (23, iv r41.2), (109, .bool false), (111, .bool false)])
def S13_23 (r1 : I2) (r35 r37 : (List I2) × Int) (r39 r41 : I2) : CAct := (st 163 [(9, pt 1 0), (10, pt 2 0), (11, iv r1.1), (13, .func (.func 44) ⟨[]⟩ ⟨[pt 3 0, pt 1 0, pt 2 0]⟩), (17, accV 8 r35.1.length), (18, accV 9 r37.1.length), (20, iv r39.1), (22, iv r41.1), (23, iv r41.2), (109, .bool false), (110, iv r39.2)])
def H13_24 (p3 : List Int) (p0 p1 : Int) (r35 : (List I2) × Int) : List Blk := [ab 5 e5 p3, cl 50 [sv 0 p3.length ANY], cl 3 [iv (w64 (1 + (Int.tmod (w64 p0) 12)))], cl 3 [iv (w64 (1 + (Int.tmod (w64 p1) 12)))], ab 57 e57 r35.1, .dead]
def H13_25 (p3 : List Int) (p0 p1 : Int) (r6 : Int × Int × (List I2)) : List Blk := [ab 5 e5 p3, cl 50 [sv 0 p3.length ANY], cl 3 [iv (w64 (1 + (Int.tmod (w64 p0) 12)))], cl 3 [iv (w64 (1 + (Int.tmod (w64 p1) 12)))], ab 57 e57 r6.2.2]
def H13_26 (p3 : List Int) (p0 p1 : Int) (r35 : (List I2) × Int) : List Blk := [ab 5 e5 p3, cl 50 [sv 0 p3.length ANY], cl 3 [iv (w64 (1 + (Int.tmod (w64 p0) 12)))], cl 3 [iv (w64 (1 + (Int.tmod (w64 p1) 12)))], ab 57 e57 r35.1]
def S13_27 (r1 : I2) (r35 r37 : (List I2) × Int) (r39 r41 : I2) : CAct := (st 163 [(9, pt 1 0), (10, pt 2 0), (11, iv r1.1), (13, .func (.func 44) ⟨[]⟩ ⟨[pt 3 0, pt 1 0, pt 2 0]⟩), (17, accV 8 r35.1.length), (18, accV 9 r37.1.length), (20, iv r39.1), (22, iv r41.1), (113, .bool false), (115, .bool false)])
def S13_28 (r1 : I2) (r35 r37 : (List I2) × Int) (r39 r41 : I2) : CAct := (st 163 [(9, pt 1 0), (10, pt 2 0), (11, iv r1.1), (13, .func (.func 44) ⟨[]⟩ ⟨[pt 3 0, pt 1 0, pt 2 0]⟩), (17, accV 8 r35.1.length), (18, accV 9 r37.1.length), (20, iv r39.1), (22, iv r41.1), (117, .bool false), (120, .bool false)])
def S13_29 (r1 : I2) (r35 r37 : (List I2) × Int) (r39 r41 : I2) : CAct := (st 163 [(9, pt 1 0), (10, pt 2 0), (11, iv r1.1), (13, .func (.func 44) ⟨[]⟩ ⟨[pt 3 0, pt 1 0, pt 2 0]⟩), (17, accV 8 r35.1.length), (18, accV 9 r37.1.length), (20, iv r39.1), (22, iv r41.1), (113, .bool false), (114, iv r41.2)])
def S13_30 (r1 : I2) (r35 : (List I2) × Int) (r39 r41 : I2) (r37 : (List I2) × Int) : CAct := (st 163 [(9, pt 1 0), (10, pt 2 0), (11, iv r1.1), (13, .func (.func 44) ⟨[]⟩ ⟨[pt 3 0, pt 1 0, pt 2 0]⟩), (17, accV 8 r35.1.length), (20, iv r39.1), (22, iv r41.1), (122, .bool false), (124, iv (r37.1.length : Int))])
def S13_31 (v62 : Int) (r35 : (List I2) × Int) (o74 : I2) : CAct := (st 163 [(13, .func (.func 44) ⟨[]⟩ ⟨[pt 1 0, pt 2 0, pt 3 0]⟩), (24, iv v62), (25, pt 5 0), (142, accV 4 r35.1.length), (143, iv (r35.1.length : Int)), (144, iv v62), (149, pt 5 0), (150, iv o74.1), (151, iv v62)])
def S13_32 (r1 : I2) (r35 : (List I2) × Int) (r39 r41 : I2) : CAct := (st 163 [(9, pt 1 0), (10, pt 2 0), (11, iv r1.1), (13, .func (.func 44) ⟨[]⟩ ⟨[pt 3 0, pt 1 0, pt 2 0]⟩), (17, accV 8 r35.1.length), (20, iv r39.1), (127, .bool false), (128, iv r41.1), (130, iv (w64 (r39.1 + 1)))])
def S13_33 (r1 : I2) (r35 : (List I2) × Int) (r39 r41 : I2) : CAct := (st 163 [(9, pt 1 0), (10, pt 2 0), (11, iv r1.1), (13, .func (.func 44) ⟨[]⟩ ⟨[pt 3 0, pt 1 0, pt 2 0]⟩), (17, accV 8 r35.1.length), (20, iv r39.1), (22, iv r41.1), (122, .bool false), (125, .bool false)])
def H13_34 (p3 : List Int) (p0 p1 : Int) : List Blk := [cl 50 [sv 1 p3.length ANY], ab 5 e5 p3, cl 3 [iv (w64 (1 + (Int.tmod (w64 p0) 12)))], cl 3 [iv (w64 (1 + (Int.tmod (w64 p1) 12)))]]
def H13_35 (p3 : List Int) (p0 p1 : Int) : List Blk := [ab 5 e5 p3, cl 50 [sv 0 p3.length ANY], cl 3 [iv (w64 (1 + (Int.tmod (w64 p0) 12)))], cl 3 [iv (w64 (1 + (Int.tmod (w64 p1) 12)))]]
def S13_36 (p2 : Int) (r1 : I2) (v16 : Int) : CAct := (st 163 [(2, .int .u8 p2), (9, pt 1 0), (10, pt 2 0), (11, iv r1.1), (13, .func (.func 44) ⟨[]⟩ ⟨[pt 3 0, pt 1 0, pt 2 0]⟩), (14, pt 4 0), (15, pt 6 0), (16, iv (w64 (v16 + 1)))])
def S13_37 (p2 : Int) (r1 : I2) (v16 : Int) : CAct := (st 163 [(2, .int .u8 p2), (9, pt 1 0), (10, pt 2 0), (11, iv r1.1), (13, .func (.func 44) ⟨[]⟩ ⟨[pt 3 0, pt 1 0, pt 2 0]⟩), (14, pt 4 0), (15, pt 6 0), (16, iv v16)])
def S13_38 (r35 : (List I2) × Int) (v62 : Int) : CAct := (st 163 [(13, .func (.func 44) ⟨[]⟩ ⟨[pt 1 0, pt 2 0, pt 3 0]⟩), (142, accV 4 r35.1.length), (143, iv (r35.1.length : Int)), (144, iv (w64 (v62 + 1)))])
def S13_39 (r35 : (List I2) × Int) (v62 : Int) : CAct := (st 163 [(13, .func (.func 44) ⟨[]⟩ ⟨[pt 1 0, pt 2 0, pt 3 0]⟩), (142, accV 4 r35.1.length), (143, iv (r35.1.length : Int)), (144, iv v62)])
def S13_40 (r1 : I2) : CAct := (st 163 [(9, pt 1 0), (10, pt 2 0), (11, iv r1.1), (13, .func (.func 44) ⟨[]⟩ ⟨[pt 3 0, pt 1 0, pt 2 0]⟩), (14, pt 4 0), (15, pt 6 0)])
def S13_41 (r35 : (List I2) × Int) : CAct := (st 163 [(13, .func (.func 44) ⟨[]⟩ ⟨[pt 3 0, pt 1 0, pt 2 0]⟩), (17, accV 8 r35.1.length), (141, .bool true)])
def S13_42 (p2 : Int) (r1 : I2) : CAct := (st 163 [(2, .int .u8 p2), (7, pt 1 0), (9, pt 2 0), (10, pt 3 0), (11, iv r1.1), (40, iv r1.2)])
def F13l0 (p0 p1 p2 : Int) (p3 : List Int) (r1 : I2) (r6 r8 : Int × Int × (List I2)) (v16 : Int) (v17 : List I2) : Option (List I2) :=
 if decide (v16 < (w64 ((w64 p2) + r1.1))) then
  F44 v16 p3 (w64 (1 + (Int.tmod (w64 p0) 12))) (w64 (1 + (Int.tmod (w64 p1) 12))) >>= fun r26 =>
  if List.length v17 ≤ 1000000000 then
   F13l0 p0 p1 p2 p3 r1 r6 r8 (w64 (v16 + 1)) (v17 ++ [(v16, r26)])
  else none
 else
  some v17
 partial_fixpoint
def F13l1 (p0 p1 : Int) (p3 : List Int) (r35 : (List I2) × Int) (v62 : Int) : Option (Unit ⊕ Unit) :=
 if decide (v62 < (r35.1.length : Int)) then
  if (0 : Int) ≤ v62 ∧ v62 < (r35.1.length : Int) then
   some (List.getD r35.1 (Int.toNat v62) (0, 0)) >>= fun o74 =>
   (
    if o74.1 != v62 then
     some (true)
    else
     F44 v62 p3 (w64 (1 + (Int.tmod (w64 p0) 12))) (w64 (1 + (Int.tmod (w64 p1) 12))) >>= fun r77 =>
     some (o74.2 != r77)
   : Option Bool) >>= fun m79 =>
   if m79 then
    some (.inl ())
   else
    F13l1 p0 p1 p3 r35 (w64 (v62 + 1))
  else none
 else
  some (.inr ())
 partial_fixpoint
def F13 (p0 p1 p2 : Int) (p3 : List Int) : Option Bool :=
 F30 (w64 (1 + (Int.tmod (w64 p0) 12))) (w64 (1 + (Int.tmod (w64 p1) 12))) >>= fun r1 =>
 (
  if r1.2 != 0 then
   some (true)
  else
   if decide (r1.1 < 1) then
    some (true)
   else
    some (decide (r1.1 > 24))
 : Option Bool) >>= fun m5 =>
 if m5 then
  some false
 else
  F40 (w64 (1 + (Int.tmod (w64 p0) 12))) (w64 (1 + (Int.tmod (w64 p1) 12))) ([]) >>= fun r6 =>
  F40 (w64 (1 + (Int.tmod (w64 p0) 12))) (w64 (1 + (Int.tmod (w64 p1) 12))) ([]) >>= fun r8 =>
  F13l0 p0 p1 p2 p3 r1 r6 r8 (w64 p2) r6.2.2 >>= fun r31 =>
  if List.length r31 = 0 then none else
  if (0 : Int) ≤ w64 (r1.1 - 1) ∧ w64 (r1.1 - 1) ≤ (r31.length : Int) then
   F42 r6.1 r6.2.1 r31 0 150 >>= fun r35 =>
   F42 r8.1 r8.2.1 (List.take (Int.toNat (w64 (r1.1 - 1))) r31) 0 150 >>= fun r37 =>
   F18 r6.1 r6.2.1 r31 >>= fun r39 =>
   F18 r8.1 r8.2.1 (List.take (Int.toNat (w64 (r1.1 - 1))) r31) >>= fun r41 =>
   (
    if r35.2 != 0 then
     some (true)
    else
     if r37.2 != 0 then
      some (true)
     else
      if r39.2 != 0 then
       some (true)
      else
       if r41.2 != 0 then
        some (true)
       else
        if (r35.1.length : Int) != 151 then
         some (true)
        else
         if decide ((r37.1.length : Int) > 150) then
          some (true)
         else
          if r41.1 != (w64 (r39.1 + 1)) then
           some (true)
          else
           some (w64 ((w64 (1 + (Int.tmod (w64 p0) 12))) + (w64 (1 + (Int.tmod (w64 p1) 12))))) >>= fun o50 =>
           some (r39.1 != (w64 (o50 - r1.1)))
   : Option Bool) >>= fun m52 =>
   if m52 then
    some false
   else
    F13l1 p0 p1 p3 r35 0 >>= fun r81 =>
    match r81 with
    | .inl o83 =>
     some false
    | .inr o84 =>
     F14 >>= fun r85 =>
     some r85
  else none
def V13 (b : Nat) (r : Bool) : Value := .bool r
def N13 (b : Nat) (r : Bool) : List Blk := []
def P13l0 (p0 p1 p2 : Int) (p3 : List Int) (r1 : I2) (r6 r8 : Int × Int × (List I2)) (r : List I2) : Post := fun e a h => e = .exit 0 ∧ Wk Try.prog 1 1 a h (S13_40 r1) [ab 5 e5 p3, cl 3 [iv (w64 (1 + (Int.tmod (w64 p0) 12)))], cl 3 [iv (w64 (1 + (Int.tmod (w64 p1) 12)))], cl 50 [sv 0 p3.length ANY], cl 24 [iv r6.1, iv r6.2.1, accV 5 r.length], ab 57 e57 r, cl 24 [iv r8.1, iv r8.2.1, accV 7 r8.2.2.length], ab 57 e57 r8.2.2]
theorem L13l0 (p0 p1 p2 : Int) (p3 : List Int) (r1 : I2) (r6 r8 : Int × Int × (List I2)) (v16 : Int) (v17 r : List I2) (hF : F13l0 p0 p1 p2 p3 r1 r6 r8 v16 v17 = some r) : TL Try.prog 1 1 c13.s2.s2.s2.s2.s2.s2.s1.s2.bd.bd (S13_37 p2 r1 v16) (H13_10 p3 p0 p1 r6 v17 r8) (P13l0 p0 p1 p2 p3 r1 r6 r8 r) := by
 refine F13l0.partial_correctness p0 p1 p2 p3 r1 r6 r8 (motive := fun v16 v17 r => TL Try.prog 1 1 c13.s2.s2.s2.s2.s2.s2.s1.s2.bd.bd (S13_37 p2 r1 v16) (H13_10 p3 p0 p1 r6 v17 r8) (P13l0 p0 p1 p2 p3 r1 r6 r8 r)) ?_ v16 v17 r hF
 clear hF r v16 v17
 intro again ih v16 v17 r hF
 refine TL.round (TS.sq (TS.sq (TS.rg (TI.ra 6 [2, 9, 10, 11, 13, 14, 15, 16, 64] (st 163 [(2, .int .u8 p2), (9, pt 1 0), (10, pt 2 0), (11, iv r1.1), (13, .func (.func 44) ⟨[]⟩ ⟨[pt 3 0, pt 1 0, pt 2 0]⟩), (14, pt 4 0), (15, pt 6 0), (16, iv v16), (64, .bool (decide (v16 < (w64 ((w64 p2) + r1.1)))))]) (TI.dn (NX.sq ?_))))))
 refine TS.cd (.tmp 64) (decide (v16 < (w64 ((w64 p2) + r1.1)))) (fun hc25 => ?_) (fun hc25 => ?_)
 · replace hF := of_pos hF hc25
   refine TS.sk (NX.sq (TS.sq (TS.bk 1 ?_)))
   obtain ⟨r26, h27, hF⟩ := of_do hF
   revert hF
   generalize v17 = ly28
   intro hF
   cases ly28 with
   | nil =>
    obtain ⟨hg29, hF⟩ := of_guard hF
    have hT : ∀ e ∈ ([⟨44, [iv v16, pt 3 0, pt 1 0, pt 2 0], (H13_12 p3 p0 p1 r6 r8), iv r26, []⟩] : List Entry), PureSim Try.prog e.g e.args e.h e.v e.new := by
     intro e he
     simp only [List.mem_cons, List.not_mem_nil, or_false] at he
     rcases he with rfl
     exact (PureSim.ren (hc := (H13_34 p3 p0 p1)) (fun i => List.getD [(3, 0), (0, 0), (1, 0), (2, 0)] i (0, 0)) (C44 _ _ _ _ _ h27) (.cons (At.blk (b1 := cl 50 [sv 0 p3.length ANY]) (by kernel_rfl) (RnB.lit (.cons (Rn.any _ _ _ _ _ _ (nl rfl) rfl rfl (by decide)) .nil))) (.ac (.lt (.fl .nil) (.lt (.fl .nil) (.nil _))))) (.fl (.pp (.pp (.pp .nil)))) (.flat (by kernel_rfl)) newflat_nil)
    refine TS.drawE (id := 10) (b := true) (ops := c13.s2.s2.s2.s2.s2.s2.s1.s2.bd.bd.s2.s1.bd.rops) (fin := (qs (S13_8 p2 r1 v16 r26) (H13_11 p3 p0 p1 r6 r8 v16 r26) [(7, 8, 9)] [])) (fin2 := (qs (S13_8 p2 r1 v16 r26) (H13_11 p3 p0 p1 r6 r8 v16 r26) [(7, 8, 9)] [])) (a1 := (S13_2 p2 r1 v16 r26)) (h1 := (H13_4 p3 p0 p1 r6 v16 r26 r8)) [⟨44, [iv v16, pt 3 0, pt 1 0, pt 2 0], (H13_12 p3 p0 p1 r6 r8), iv r26, []⟩] hT mixed (by kernel_rfl) rfl 8 (by kernel_rfl) [] ?_ rfl (.inl ⟨rfl, rfl⟩) ?_ ?_
    · exact QI.run (s1 := (qs (st 163 [(2, .int .u8 p2), (9, pt 1 0), (10, pt 2 0), (11, iv r1.1), (13, .func (.func 44) ⟨[]⟩ ⟨[pt 3 0, pt 1 0, pt 2 0]⟩), (14, pt 4 0), (15, pt 6 0), (16, iv v16), (64, .bool (decide (v16 < (w64 ((w64 p2) + r1.1))))), (67, pt 4 2), (68, .slice none 0 0), (69, iv v16), (70, .func (.func 44) ⟨[]⟩ ⟨[pt 3 0, pt 1 0, pt 2 0]⟩), (71, iv v16)]) (H13_12 p3 p0 p1 r6 r8) [] [])) 5 (by kernel_rfl) (by kernel_rfl) (QI.op (q := { val := iv r26, new := [] }) (s1 := (qs (st 163 [(2, .int .u8 p2), (9, pt 1 0), (10, pt 2 0), (11, iv r1.1), (13, .func (.func 44) ⟨[]⟩ ⟨[pt 3 0, pt 1 0, pt 2 0]⟩), (14, pt 4 0), (15, pt 6 0), (16, iv v16), (64, .bool (decide (v16 < (w64 ((w64 p2) + r1.1))))), (67, pt 4 2), (68, .slice none 0 0), (69, iv v16), (70, .func (.func 44) ⟨[]⟩ ⟨[pt 3 0, pt 1 0, pt 2 0]⟩), (71, iv v16), (72, iv r26)]) (H13_12 p3 p0 p1 r6 r8) [] [])) (by decide) (qOf_call (g := 44) (args := [iv v16, pt 3 0, pt 1 0, pt 2 0]) (by kernel_rfl) lookC_hit) (by kernel_rfl) (QI.run (s1 := (qs (S13_8 p2 r1 v16 r26) (H13_11 p3 p0 p1 r6 r8 v16 r26) [(7, 8, 9)] [])) 2 (by kernel_rfl) (by kernel_rfl) (QI.done (by kernel_rfl))))
    · exact SI.op (q := { val := sv 9 (List.length [(v16, r26)]) UNK, new := [.cells 57 (List.flatMap e57 ([(v16, r26)]))] }) (a2 := (st 163 [(2, .int .u8 p2), (9, pt 1 0), (10, pt 2 0), (11, iv r1.1), (13, .func (.func 44) ⟨[]⟩ ⟨[pt 3 0, pt 1 0, pt 2 0]⟩), (14, pt 4 0), (15, pt 6 0), (16, iv v16), (64, .bool (decide (v16 < (w64 ((w64 p2) + r1.1))))), (67, pt 4 2), (68, .slice none 0 0), (69, iv v16), (70, .func (.func 44) ⟨[]⟩ ⟨[pt 3 0, pt 1 0, pt 2 0]⟩), (71, iv v16), (72, iv r26), (73, ag [iv v16, iv r26]), (74, sv 8 1 1), (75, sv 9 (List.length [(v16, r26)]) UNK)])) (h2 := [ab 5 e5 p3, cl 3 [iv (w64 (1 + (Int.tmod (w64 p0) 12)))], cl 3 [iv (w64 (1 + (Int.tmod (w64 p1) 12)))], cl 50 [sv 0 p3.length ANY], cl 24 [iv r6.1, iv r6.2.1, .slice none 0 0], .dead, cl 24 [iv r8.1, iv r8.2.1, accV 7 r8.2.2.length], ab 57 e57 r8.2.2, cl 57 [iv v16, iv r26], .cells 57 (List.flatMap e57 ([(v16, r26)]))]) (by kernel_rfl) (q_appN (P := Try.prog) (base := 1) (hp := (H13_11 p3 p0 p1 r6 r8 v16 r26)) (n := 9) (ts := #[22, 22]) (e := 57) (bytes := 16) (z := ag [iv 0, iv 0]) (y := sv 8 1 1) (ys := [(v16, r26)]) (xs := List.flatMap e57 ([(v16, r26)])) (m := 1) (s := 2) (enc := e57) (by kernel_rfl) (by kernel_rfl) (by kernel_rfl) (by kernel_rfl) (by kernel_rfl) (by kernel_rfl) (by kernel_rfl) (by kernel_rfl) rfl rfl (by omega)) (by kernel_rfl) (by kernel_rfl) (SI.run (a2 := (S13_2 p2 r1 v16 r26)) (h2 := (H13_4 p3 p0 p1 r6 v16 r26 r8)) 2 (by kernel_rfl) (SI.done (by kernel_rfl)))
    refine NX.bk (NX.sq (TS.rg (TI.rn 3 [2, 9, 10, 11, 13, 14, 15, 16] [0, 1, 2, 3, 4, 6, 7, 9] (S13_36 p2 r1 v16) [ab 5 e5 p3, cl 3 [iv (w64 (1 + (Int.tmod (w64 p0) 12)))], cl 3 [iv (w64 (1 + (Int.tmod (w64 p1) 12)))], cl 50 [sv 0 p3.length ANY], cl 24 [iv r6.1, iv r6.2.1, sv 9 (List.length [(v16, r26)]) UNK], .dead, cl 24 [iv r8.1, iv r8.2.1, accV 7 r8.2.2.length], ab 57 e57 r8.2.2, .dead, .cells 57 (List.flatMap e57 ([(v16, r26)]))] (TI.dn ?_))))
    exact Rd.again (a2 := (S13_36 p2 r1 v16)) (h2 := [ab 5 e5 p3, cl 3 [iv (w64 (1 + (Int.tmod (w64 p0) 12)))], cl 3 [iv (w64 (1 + (Int.tmod (w64 p1) 12)))], cl 50 [sv 0 p3.length ANY], cl 24 [iv r6.1, iv r6.2.1, accV 5 (List.length ([(v16, r26)]))], accB 57 (List.length ([(v16, r26)])) (List.flatMap e57 ([(v16, r26)])), cl 24 [iv r8.1, iv r8.2.1, accV 7 r8.2.2.length], ab 57 e57 r8.2.2]) (Wk.an [1, 2, 3, 4, 9, 6, 7] (.ac (.lt (.fl .nil) (.lt (.fl .nil) (.lt (.sl .nil) (.lt (.fl (.fl (.cons (Rn.accU (nl rfl) rfl (by simp)) .nil))) (.cons (At.accU (by kernel_rfl) rfl (fun _ => rfl)) (.lt (.fl (.fl (.cons (Rn.acc (nl rfl) rfl) .nil))) (.ac (.nil _))))))))) [.int .u8 p2, pt 1 0, pt 2 0, iv r1.1, .func (.func 44) ⟨[]⟩ ⟨[pt 3 0, pt 1 0, pt 2 0]⟩, pt 4 0, pt 6 0, iv (w64 (v16 + 1))] (.fl (.pp (.pp (.fl (.cons (Rn.func' .nil (.pp (.pp (.pp .nil)))) (.pp (.pp (.fl .nil))))))))) (ih (w64 (v16 + 1)) ([(v16, r26)]) _ hF)
   | cons y28 y28s =>
    obtain ⟨hg30, hF⟩ := of_guard hF
    have hT : ∀ e ∈ ([⟨44, [iv v16, pt 3 0, pt 1 0, pt 2 0], (H13_7 p3 p0 p1 r6 y28 y28s r8), iv r26, []⟩] : List Entry), PureSim Try.prog e.g e.args e.h e.v e.new := by
     intro e he
     simp only [List.mem_cons, List.not_mem_nil, or_false] at he
     rcases he with rfl
     exact (PureSim.ren (hc := (H13_34 p3 p0 p1)) (fun i => List.getD [(3, 0), (0, 0), (1, 0), (2, 0)] i (0, 0)) (C44 _ _ _ _ _ h27) (.cons (At.blk (b1 := cl 50 [sv 0 p3.length ANY]) (by kernel_rfl) (RnB.lit (.cons (Rn.any _ _ _ _ _ _ (nl rfl) rfl rfl (by decide)) .nil))) (.ac (.lt (.fl .nil) (.lt (.fl .nil) (.nil _))))) (.fl (.pp (.pp (.pp .nil)))) (.flat (by kernel_rfl)) newflat_nil)
    refine TS.drawE (id := 10) (b := true) (ops := c13.s2.s2.s2.s2.s2.s2.s1.s2.bd.bd.s2.s1.bd.rops) (fin := (qs (S13_5 p2 r1 v16 y28 y28s r26) (H13_6 p3 p0 p1 r6 y28 y28s r8 v16 r26) [(7, 8, 9)] [])) (fin2 := (qs (S13_5 p2 r1 v16 y28 y28s r26) (H13_6 p3 p0 p1 r6 y28 y28s r8 v16 r26) [(7, 8, 9)] [])) (a1 := (S13_0 p2 r1 v16 y28 y28s r26)) (h1 := (H13_1 p3 p0 p1 r6 y28 y28s v16 r26 r8)) [⟨44, [iv v16, pt 3 0, pt 1 0, pt 2 0], (H13_7 p3 p0 p1 r6 y28 y28s r8), iv r26, []⟩] hT mixed (by kernel_rfl) rfl 8 (by kernel_rfl) [] ?_ rfl (.inl ⟨rfl, rfl⟩) ?_ ?_
    · exact QI.run (s1 := (qs (st 163 [(2, .int .u8 p2), (9, pt 1 0), (10, pt 2 0), (11, iv r1.1), (13, .func (.func 44) ⟨[]⟩ ⟨[pt 3 0, pt 1 0, pt 2 0]⟩), (14, pt 4 0), (15, pt 6 0), (16, iv v16), (64, .bool (decide (v16 < (w64 ((w64 p2) + r1.1))))), (67, pt 4 2), (68, sv 5 (List.length (y28 :: y28s)) UNK), (69, iv v16), (70, .func (.func 44) ⟨[]⟩ ⟨[pt 3 0, pt 1 0, pt 2 0]⟩), (71, iv v16)]) (H13_7 p3 p0 p1 r6 y28 y28s r8) [] [])) 5 (by kernel_rfl) (by kernel_rfl) (QI.op (q := { val := iv r26, new := [] }) (s1 := (qs (st 163 [(2, .int .u8 p2), (9, pt 1 0), (10, pt 2 0), (11, iv r1.1), (13, .func (.func 44) ⟨[]⟩ ⟨[pt 3 0, pt 1 0, pt 2 0]⟩), (14, pt 4 0), (15, pt 6 0), (16, iv v16), (64, .bool (decide (v16 < (w64 ((w64 p2) + r1.1))))), (67, pt 4 2), (68, sv 5 (List.length (y28 :: y28s)) UNK), (69, iv v16), (70, .func (.func 44) ⟨[]⟩ ⟨[pt 3 0, pt 1 0, pt 2 0]⟩), (71, iv v16), (72, iv r26)]) (H13_7 p3 p0 p1 r6 y28 y28s r8) [] [])) (by decide) (qOf_call (g := 44) (args := [iv v16, pt 3 0, pt 1 0, pt 2 0]) (by kernel_rfl) lookC_hit) (by kernel_rfl) (QI.run (s1 := (qs (S13_5 p2 r1 v16 y28 y28s r26) (H13_6 p3 p0 p1 r6 y28 y28s r8 v16 r26) [(7, 8, 9)] [])) 2 (by kernel_rfl) (by kernel_rfl) (QI.done (by kernel_rfl))))
    · exact SI.op (q := { val := sv 9 (List.length ((y28 :: y28s) ++ [(v16, r26)])) UNK, new := [.cells 57 (List.flatMap e57 ((y28 :: y28s) ++ [(v16, r26)]))], upd := some (5, .dead) }) (a2 := (st 163 [(2, .int .u8 p2), (9, pt 1 0), (10, pt 2 0), (11, iv r1.1), (13, .func (.func 44) ⟨[]⟩ ⟨[pt 3 0, pt 1 0, pt 2 0]⟩), (14, pt 4 0), (15, pt 6 0), (16, iv v16), (64, .bool (decide (v16 < (w64 ((w64 p2) + r1.1))))), (67, pt 4 2), (68, sv 5 (List.length (y28 :: y28s)) UNK), (69, iv v16), (70, .func (.func 44) ⟨[]⟩ ⟨[pt 3 0, pt 1 0, pt 2 0]⟩), (71, iv v16), (72, iv r26), (73, ag [iv v16, iv r26]), (74, sv 8 1 1), (75, sv 9 (List.length ((y28 :: y28s) ++ [(v16, r26)])) UNK)])) (h2 := [ab 5 e5 p3, cl 3 [iv (w64 (1 + (Int.tmod (w64 p0) 12)))], cl 3 [iv (w64 (1 + (Int.tmod (w64 p1) 12)))], cl 50 [sv 0 p3.length ANY], cl 24 [iv r6.1, iv r6.2.1, sv 5 (List.length (y28 :: y28s)) UNK], .dead, cl 24 [iv r8.1, iv r8.2.1, accV 7 r8.2.2.length], ab 57 e57 r8.2.2, cl 57 [iv v16, iv r26], .cells 57 (List.flatMap e57 ((y28 :: y28s) ++ [(v16, r26)]))]) (by kernel_rfl) (q_appU (P := Try.prog) (base := 1) (hp := (H13_6 p3 p0 p1 r6 y28 y28s r8 v16 r26)) (n := 9) (l := (y28 :: y28s)) (b := 5) (ts := #[22, 22]) (e := 57) (bytes := 16) (z := ag [iv 0, iv 0]) (y := sv 8 1 1) (ys := [(v16, r26)]) (xs := List.flatMap e57 ([(v16, r26)])) (m := 1) (s := 2) (enc := e57) (by kernel_rfl) (by kernel_rfl) (by decide) (by kernel_rfl) (by kernel_rfl) (by kernel_rfl) (by kernel_rfl) (by kernel_rfl) (by kernel_rfl) (by kernel_rfl) (by kernel_rfl) (fun _ => rfl) rfl rfl (by omega)) (by kernel_rfl) (by kernel_rfl) (SI.run (a2 := (S13_0 p2 r1 v16 y28 y28s r26)) (h2 := (H13_1 p3 p0 p1 r6 y28 y28s v16 r26 r8)) 2 (by kernel_rfl) (SI.done (by kernel_rfl)))
    refine NX.bk (NX.sq (TS.rg (TI.rn 3 [2, 9, 10, 11, 13, 14, 15, 16] [0, 1, 2, 3, 4, 6, 7, 9] (S13_36 p2 r1 v16) [ab 5 e5 p3, cl 3 [iv (w64 (1 + (Int.tmod (w64 p0) 12)))], cl 3 [iv (w64 (1 + (Int.tmod (w64 p1) 12)))], cl 50 [sv 0 p3.length ANY], cl 24 [iv r6.1, iv r6.2.1, sv 9 (List.length ((y28 :: y28s) ++ [(v16, r26)])) UNK], .dead, cl 24 [iv r8.1, iv r8.2.1, accV 7 r8.2.2.length], ab 57 e57 r8.2.2, .dead, .cells 57 (List.flatMap e57 ((y28 :: y28s) ++ [(v16, r26)]))] (TI.dn ?_))))
    exact Rd.again (a2 := (S13_36 p2 r1 v16)) (h2 := [ab 5 e5 p3, cl 3 [iv (w64 (1 + (Int.tmod (w64 p0) 12)))], cl 3 [iv (w64 (1 + (Int.tmod (w64 p1) 12)))], cl 50 [sv 0 p3.length ANY], cl 24 [iv r6.1, iv r6.2.1, accV 5 (List.length ((y28 :: y28s) ++ [(v16, r26)]))], accB 57 (List.length ((y28 :: y28s) ++ [(v16, r26)])) (List.flatMap e57 ((y28 :: y28s) ++ [(v16, r26)])), cl 24 [iv r8.1, iv r8.2.1, accV 7 r8.2.2.length], ab 57 e57 r8.2.2]) (Wk.an [1, 2, 3, 4, 9, 6, 7] (.ac (.lt (.fl .nil) (.lt (.fl .nil) (.lt (.sl .nil) (.lt (.fl (.fl (.cons (Rn.accU (nl rfl) rfl (by simp)) .nil))) (.cons (At.accU (by kernel_rfl) rfl (fun _ => rfl)) (.lt (.fl (.fl (.cons (Rn.acc (nl rfl) rfl) .nil))) (.ac (.nil _))))))))) [.int .u8 p2, pt 1 0, pt 2 0, iv r1.1, .func (.func 44) ⟨[]⟩ ⟨[pt 3 0, pt 1 0, pt 2 0]⟩, pt 4 0, pt 6 0, iv (w64 (v16 + 1))] (.fl (.pp (.pp (.fl (.cons (Rn.func' .nil (.pp (.pp (.pp .nil)))) (.pp (.pp (.fl .nil))))))))) (ih (w64 (v16 + 1)) ((y28 :: y28s) ++ [(v16, r26)]) _ hF)
 replace hF := of_neg hF hc25
 refine TS.ex 0 (NX.sqX ?_)
 have hF := sj hF
 subst hF
 exact Rd.out (e := .exit 0) (by intro h; cases h) (And.intro rfl (Wk.an [1, 2, 3, 4, 5, 6, 7] (.ac (.lt (.fl .nil) (.lt (.fl .nil) (.lt (.sl .nil) (.lt (.fl (.fl (.cons (Rn.acc (nl rfl) rfl) .nil))) (.ac (.lt (.fl (.fl (.cons (Rn.acc (nl rfl) rfl) .nil))) (.ac (.nil _))))))))) [pt 1 0, pt 2 0, iv r1.1, .func (.func 44) ⟨[]⟩ ⟨[pt 3 0, pt 1 0, pt 2 0]⟩, pt 4 0, pt 6 0] (.pp (.pp (.fl (.cons (Rn.func' .nil (.pp (.pp (.pp .nil)))) (.pp (.pp .nil))))))))
def P13l1 (p0 p1 : Int) (p3 : List Int) (r35 : (List I2) × Int) (r : Unit ⊕ Unit) : Post := fun e a h => (match r with | .inl q0 => e = .ret ∧ Wk Try.prog 1 1 a h (st 163 [(8, .bool false)]) [ab 5 e5 p3] | .inr q0 => e = .exit 2 ∧ Wk Try.prog 1 1 a h (st 163 []) [ab 5 e5 p3])
theorem L13l1 (p0 p1 : Int) (p3 : List Int) (r35 : (List I2) × Int) (v62 : Int) (r : Unit ⊕ Unit) (hF : F13l1 p0 p1 p3 r35 v62 = some r) : TL Try.prog 1 1 c13.s2.s2.s2.s2.s2.s2.s2.s2.s2.s2.s2.s2.s2.s1.s2.bd.bd (S13_39 r35 v62) (H13_26 p3 p0 p1 r35) (P13l1 p0 p1 p3 r35 r) := by
 refine F13l1.partial_correctness p0 p1 p3 r35 (motive := fun v62 r => TL Try.prog 1 1 c13.s2.s2.s2.s2.s2.s2.s2.s2.s2.s2.s2.s2.s2.s1.s2.bd.bd (S13_39 r35 v62) (H13_26 p3 p0 p1 r35) (P13l1 p0 p1 p3 r35 r)) ?_ v62 r hF
 clear hF r v62
 intro again ih v62 r hF
 refine TL.round (TS.sq (TS.rg (TI.ra 1 [13, 142, 143, 144, 145] (st 163 [(13, .func (.func 44) ⟨[]⟩ ⟨[pt 1 0, pt 2 0, pt 3 0]⟩), (142, accV 4 r35.1.length), (143, iv (r35.1.length : Int)), (144, iv v62), (145, .bool (decide (v62 < (r35.1.length : Int))))]) (TI.dn (NX.sq (TS.sq ?_))))))
 refine TS.cd (.tmp 145) (decide (v62 < (r35.1.length : Int))) (fun hc72 => ?_) (fun hc72 => ?_)
 · replace hF := of_pos hF hc72
   refine TS.sk (NX.sq (TS.sq (TS.bk 3 (TS.sq ?_))))
   obtain ⟨hg73, hF⟩ := of_guard hF
   obtain ⟨o74, h75, hF⟩ := of_do hF
   replace h75 := sj h75
   refine TS.rg (TI.ra 1 [13, 142, 143, 144, 146] (st 163 [(13, .func (.func 44) ⟨[]⟩ ⟨[pt 1 0, pt 2 0, pt 3 0]⟩), (142, accV 4 r35.1.length), (143, iv (r35.1.length : Int)), (144, iv v62), (146, iv v62)]) (TI.o { val := .pointer (some ⟨4, 0 + (Int.toNat v62) * 2, none⟩) } (q_ixAcc (P := Try.prog) (t := 22) (s := 2) (e := 57) 4 r35.1.length (by kernel_rfl) hg73 (by kernel_rfl) (by kernel_rfl)) [13, 142, 143, 144, 146, 147] [0, 1, 2, 3, 4] (st 163 [(13, .func (.func 44) ⟨[]⟩ ⟨[pt 1 0, pt 2 0, pt 3 0]⟩), (142, accV 4 r35.1.length), (143, iv (r35.1.length : Int)), (144, iv v62), (146, iv v62), (147, .pointer (some ⟨4, 0 + (Int.toNat v62) * 2, none⟩))]) (H13_26 p3 p0 p1 r35) (TI.o { val := ag [iv o74.1, iv o74.2] } (q_nAa Try.prog (H13_26 p3 p0 p1 r35) 57 4 (0 + (Int.toNat v62) * 2) r35.1 e57 2 57 (Int.toNat v62) (0, 0) h75) [13, 142, 143, 144, 146, 148] [0, 1, 2, 3, 4] (st 163 [(13, .func (.func 44) ⟨[]⟩ ⟨[pt 1 0, pt 2 0, pt 3 0]⟩), (142, accV 4 r35.1.length), (143, iv (r35.1.length : Int)), (144, iv v62), (146, iv v62), (148, ag [iv o74.1, iv o74.2])]) (H13_26 p3 p0 p1 r35) (TI.rn 3 [13, 24, 25, 142, 143, 144] [0, 1, 2, 3, 4, 5] (st 163 [(13, .func (.func 44) ⟨[]⟩ ⟨[pt 1 0, pt 2 0, pt 3 0]⟩), (24, iv v62), (25, pt 5 0), (142, accV 4 r35.1.length), (143, iv (r35.1.length : Int)), (144, iv v62)]) (H13_17 p3 p0 p1 r35 o74) (TI.dn (NX.sq (TS.sq ?_)))))))
   obtain ⟨m79, hm80, hF⟩ := of_do hF
   have hK : NX Try.prog 1 1 [.sq c13.s2.s2.s2.s2.s2.s2.s2.s2.s2.s2.s2.s2.s2.s1.s2.bd.bd.s2.s2.s1.bd.s2.s2, .bk 3, .sq c13.s2.s2.s2.s2.s2.s2.s2.s2.s2.s2.s2.s2.s2.s1.s2.bd.bd.s2.s2.s2] (Rd Try.prog 1 1 c13.s2.s2.s2.s2.s2.s2.s2.s2.s2.s2.s2.s2.s2.s1.s2.bd.bd (P13l1 p0 p1 p3 r35 r)) .normal (st 163 [(13, .func (.func 44) ⟨[]⟩ ⟨[pt 1 0, pt 2 0, pt 3 0]⟩), (142, accV 4 r35.1.length), (143, iv (r35.1.length : Int)), (144, iv v62), (160, .bool m79)]) (H13_24 p3 p0 p1 r35) := by
    refine NX.sq ?_
    cases m79 with
    | true =>
     replace hF := of_pos hF rfl
     refine TS.cdT (.tmp 160) (TS.sq (TS.rg (TI.rn 1 [8] [0] (st 163 [(8, .bool false)]) [ab 5 e5 p3, .dead, .dead, .dead, .dead, .dead] (TI.dn (NX.sq (TS.rt (NX.bkR (NX.sqR ?_))))))))
     have hF := sj hF
     subst hF
     exact Rd.out (e := .ret) (by intro h; cases h) (And.intro rfl (Wk.an [] (.ac (.nil _)) [.bool false] (.fl .nil)))
    | false =>
     replace hF := of_neg hF rfl
     refine TS.cdF (.tmp 160) (TS.sk (NX.bk (NX.sq (TS.rg (TI.ra 2 [13, 142, 143, 144] (S13_38 r35 v62) (TI.dn ?_))))))
     exact Rd.again (a2 := (S13_38 r35 v62)) (h2 := (H13_26 p3 p0 p1 r35)) (Wk.an [1, 2, 3, 4] (.ac (.lt (.sl .nil) (.lt (.fl .nil) (.lt (.fl .nil) (.ac (.nil _)))))) [.func (.func 44) ⟨[]⟩ ⟨[pt 1 0, pt 2 0, pt 3 0]⟩, accV 4 r35.1.length, iv (r35.1.length : Int), iv (w64 (v62 + 1))] (.cons (Rn.func' .nil (.pp (.pp (.pp .nil)))) (.cons (Rn.acc (nl rfl) rfl) (.fl (.fl .nil))))) (ih (w64 (v62 + 1)) _ hF)
   rcases Bool.eq_false_or_eq_true (o74.1 != v62) with hc76 | hc76
   · replace hm80 := of_pos hm80 hc76
     have hm80 := sj hm80
     subst hm80
     refine TS.dp [] (fun e he => by cases he) mixed 10 [13, 142, 143, 144, 160] [0, 1, 2, 3, 4] (st 163 [(13, .func (.func 44) ⟨[]⟩ ⟨[pt 1 0, pt 2 0, pt 3 0]⟩), (142, accV 4 r35.1.length), (143, iv (r35.1.length : Int)), (144, iv v62), (160, .bool true)]) (H13_24 p3 p0 p1 r35) ?_ ?_
     · exact QJ.rn (qs (S13_31 v62 r35 o74) (H13_17 p3 p0 p1 r35 o74) [] []) 3 (QJ.o { val := .bool true } (q_conv (e := o74.1 != v62) (b := true) (by kernel_rfl) hc76) (QJ.rn (qs (st 163 [(13, .func (.func 44) ⟨[]⟩ ⟨[pt 1 0, pt 2 0, pt 3 0]⟩), (24, iv v62), (25, pt 5 0), (142, accV 4 r35.1.length), (143, iv (r35.1.length : Int)), (144, iv v62), (149, pt 5 0), (150, iv o74.1), (151, iv v62), (152, .bool true), (153, .bool true), (154, undef), (155, undef), (156, undef), (157, undef), (158, undef)]) (H13_17 p3 p0 p1 r35 o74) [] []) 6 (QJ.dn ⟨rfl, SJ.la⟩)))
     exact hK
   replace hm80 := of_neg hm80 hc76
   have hX := of_do hm80
   clear hm80
   obtain ⟨r77, h78, hm80⟩ := hX
   have hm80 := sj hm80
   subst hm80
   have hT : ∀ e ∈ ([⟨44, [iv v62, pt 1 0, pt 2 0, pt 3 0], (H13_17 p3 p0 p1 r35 o74), iv r77, []⟩] : List Entry), PureSim Try.prog e.g e.args e.h e.v e.new := by
    intro e he
    simp only [List.mem_cons, List.not_mem_nil, or_false] at he
    rcases he with rfl
    exact (PureSim.ren (hc := (H13_34 p3 p0 p1)) (fun i => List.getD [(1, 0), (0, 0), (2, 0), (3, 0)] i (0, 0)) (C44 _ _ _ _ _ h78) (.cons (At.blk (b1 := cl 50 [sv 0 p3.length ANY]) (by kernel_rfl) (RnB.lit (.cons (Rn.any _ _ _ _ _ _ (nl rfl) rfl rfl (by decide)) .nil))) (.ac (.lt (.fl .nil) (.lt (.fl .nil) (.nil _))))) (.fl (.pp (.pp (.pp .nil)))) (.flat (by kernel_rfl)) newflat_nil)
   refine TS.dp [⟨44, [iv v62, pt 1 0, pt 2 0, pt 3 0], (H13_17 p3 p0 p1 r35 o74), iv r77, []⟩] hT mixed 10 [13, 142, 143, 144, 160] [0, 1, 2, 3, 4] (st 163 [(13, .func (.func 44) ⟨[]⟩ ⟨[pt 1 0, pt 2 0, pt 3 0]⟩), (142, accV 4 r35.1.length), (143, iv (r35.1.length : Int)), (144, iv v62), (160, .bool (o74.2 != r77))]) (H13_24 p3 p0 p1 r35) ?_ ?_
   · exact QJ.rn (qs (S13_31 v62 r35 o74) (H13_17 p3 p0 p1 r35 o74) [] []) 3 (QJ.o { val := .bool false } (q_conv (e := o74.1 != v62) (b := false) (by kernel_rfl) hc76) (QJ.rn (qs (st 163 [(13, .func (.func 44) ⟨[]⟩ ⟨[pt 1 0, pt 2 0, pt 3 0]⟩), (24, iv v62), (25, pt 5 0), (142, accV 4 r35.1.length), (143, iv (r35.1.length : Int)), (144, iv v62), (149, pt 5 0), (150, iv o74.1), (151, iv v62), (152, .bool false), (153, .bool false), (154, pt 5 1), (155, iv o74.2), (156, .func (.func 44) ⟨[]⟩ ⟨[pt 1 0, pt 2 0, pt 3 0]⟩), (157, iv v62)]) (H13_17 p3 p0 p1 r35 o74) [] []) 5 (QJ.o { val := iv r77, new := [] } (qOf_call (g := 44) (args := [iv v62, pt 1 0, pt 2 0, pt 3 0]) (by kernel_rfl) lookC_hit) (QJ.dn ⟨rfl, SJ.la⟩))))
   exact hK
 replace hF := of_neg hF hc72
 refine TS.ex 2 (NX.sqX ?_)
 have hF := sj hF
 subst hF
 exact Rd.out (e := .exit 2) (by intro h; cases h) (And.intro rfl (Wk.an [] (.ac (.nil _)) [] .nil))
theorem B13 (p0 p1 p2 : Int) (p3 : List Int) (r : Bool) (hF : F13 p0 p1 p2 p3 = some r) : TS Try.prog 1 1 c13 (st 163 [(0, .int .u8 p0), (1, .int .u8 p1), (2, .int .u8 p2), (3, sv 0 p3.length ANY)]) [ab 5 e5 p3] (NX Try.prog 1 1 [] (FinP Try.prog Try.f13 1 (V13 1 r) (N13 1 r))) := by
 unfold F13 at hF
 refine TS.sq (TS.rg (TI.rn 2 [0, 1, 2, 7] [0, 1] (st 163 [(0, .int .u8 p0), (1, .int .u8 p1), (2, .int .u8 p2), (7, pt 1 0)]) [ab 5 e5 p3, cl 50 [sv 0 p3.length ANY]] (TI.dn (NX.sq (TS.sq (TS.rg (TI.rn 12 [2, 7, 9, 10] [0, 1, 2, 3] (st 163 [(2, .int .u8 p2), (7, pt 1 0), (9, pt 2 0), (10, pt 3 0)]) (H13_35 p3 p0 p1) (TI.dn ?_))))))))
 refine NX.sq (TS.sq ?_)
 obtain ⟨r1, h2, hF⟩ := of_do hF
 refine TS.rg (TI.ra 2 [2, 7, 9, 10, 35, 36] (st 163 [(2, .int .u8 p2), (7, pt 1 0), (9, pt 2 0), (10, pt 3 0), (35, iv (w64 (1 + (Int.tmod (w64 p0) 12)))), (36, iv (w64 (1 + (Int.tmod (w64 p1) 12))))]) (TI.cf (C30 _ _ _ h2) (TI.ra 5 [2, 7, 9, 10, 11, 12] (st 163 [(2, .int .u8 p2), (7, pt 1 0), (9, pt 2 0), (10, pt 3 0), (11, iv r1.1), (12, iv r1.2)]) (TI.dn (NX.sq (TS.sq (TS.sq ?_)))))))
 obtain ⟨m5, hm88, hF⟩ := of_do hF
 have hK : NX Try.prog 1 1 [.sq c13.s2.s2.s2.s1.s2, .sq c13.s2.s2.s2.s2] (FinP Try.prog Try.f13 1 (V13 1 r) (N13 1 r)) .normal (st 163 [(2, .int .u8 p2), (7, pt 1 0), (9, pt 2 0), (10, pt 3 0), (11, iv r1.1), (49, .bool m5)]) (H13_35 p3 p0 p1) := by
  refine NX.sq ?_
  cases m5 with
  | true =>
   replace hF := of_pos hF rfl
   refine TS.cdT (.tmp 49) (TS.sq (TS.rg (TI.rn 1 [8] [0] (st 163 [(8, .bool false)]) [ab 5 e5 p3, .dead, .dead, .dead] (TI.dn (NX.sq (TS.rt (NX.sqR ?_)))))))
   have hF := sj hF
   subst hF
   exact ⟨.inr rfl, rfl, .bool false, by kernel_rfl, WkV.flat0 (by kernel_rfl) (nl rfl)⟩
  | false =>
   replace hF := of_neg hF rfl
   refine TS.cdF (.tmp 49) (TS.sk (NX.sq (TS.sq (TS.rg (TI.ra 2 [2, 9, 10, 11, 13] (st 163 [(2, .int .u8 p2), (9, pt 2 0), (10, pt 3 0), (11, iv r1.1), (13, .func (.func 44) ⟨[]⟩ ⟨[pt 1 0, pt 2 0, pt 3 0]⟩)]) (TI.dn (NX.sq (TS.sq ?_))))))))
   obtain ⟨r6, h7, hF⟩ := of_do hF
   obtain ⟨r8, h9, hF⟩ := of_do hF
   have hT : ∀ e ∈ ([⟨40, [iv (w64 (1 + (Int.tmod (w64 p0) 12))), iv (w64 (1 + (Int.tmod (w64 p1) 12))), .slice none 0 0], (H13_35 p3 p0 p1), ag [iv r6.1, iv r6.2.1, accV 4 r6.2.2.length], [ab 57 e57 r6.2.2]⟩, ⟨40, [iv (w64 (1 + (Int.tmod (w64 p0) 12))), iv (w64 (1 + (Int.tmod (w64 p1) 12))), .slice none 0 0], (H13_25 p3 p0 p1 r6), ag [iv r8.1, iv r8.2.1, accV 5 r8.2.2.length], [ab 57 e57 r8.2.2]⟩] : List Entry), PureSim Try.prog e.g e.args e.h e.v e.new := by
    intro e he
    simp only [List.mem_cons, List.not_mem_nil, or_false] at he
    rcases he with rfl | rfl
    · exact (PureSim.ren (hc := [accB 3 (List.length ([])) (List.flatMap e3 ([]))]) (fun i => List.getD [(0, 0)] i (0, 0)) (C40 _ _ _ _ h7) (.cons At.accN (.nil _)) (.fl (.fl (.cons (Rn.anyN _ _ _ rfl (by decide)) .nil))) (Rn.agg' (.fl (.fl (.cons (Rn.acc (i' := 4) (nl rfl) rfl) .nil)))) (newflat_cons (accB_flat (fun _ => rfl)) newflat_nil))
    exact (PureSim.ren (hc := [accB 3 (List.length ([])) (List.flatMap e3 ([]))]) (fun i => List.getD [(0, 0)] i (0, 0)) (C40 _ _ _ _ h9) (.cons At.accN (.nil _)) (.fl (.fl (.cons (Rn.anyN _ _ _ rfl (by decide)) .nil))) (Rn.agg' (.fl (.fl (.cons (Rn.acc (i' := 5) (nl rfl) rfl) .nil)))) (newflat_cons (accB_flat (fun _ => rfl)) newflat_nil))
   refine TS.dp [⟨40, [iv (w64 (1 + (Int.tmod (w64 p0) 12))), iv (w64 (1 + (Int.tmod (w64 p1) 12))), .slice none 0 0], (H13_35 p3 p0 p1), ag [iv r6.1, iv r6.2.1, accV 4 r6.2.2.length], [ab 57 e57 r6.2.2]⟩, ⟨40, [iv (w64 (1 + (Int.tmod (w64 p0) 12))), iv (w64 (1 + (Int.tmod (w64 p1) 12))), .slice none 0 0], (H13_25 p3 p0 p1 r6), ag [iv r8.1, iv r8.2.1, accV 5 r8.2.2.length], [ab 57 e57 r8.2.2]⟩] hT mixed 8 [2, 9, 10, 11, 13, 14, 15] [0, 1, 2, 3, 4, 5, 6, 7] (st 163 [(2, .int .u8 p2), (9, pt 2 0), (10, pt 3 0), (11, iv r1.1), (13, .func (.func 44) ⟨[]⟩ ⟨[pt 1 0, pt 2 0, pt 3 0]⟩), (14, pt 6 0), (15, pt 7 0)]) [ab 5 e5 p3, cl 50 [sv 0 p3.length ANY], cl 3 [iv (w64 (1 + (Int.tmod (w64 p0) 12)))], cl 3 [iv (w64 (1 + (Int.tmod (w64 p1) 12)))], ab 57 e57 r6.2.2, ab 57 e57 r8.2.2, cl 24 [iv r6.1, iv r6.2.1, accV 4 r6.2.2.length], cl 24 [iv r8.1, iv r8.2.1, accV 5 r8.2.2.length]] ?_ ?_
   · refine QJ.rn (qs (st 163 [(2, .int .u8 p2), (9, pt 2 0), (10, pt 3 0), (11, iv r1.1), (13, .func (.func 44) ⟨[]⟩ ⟨[pt 1 0, pt 2 0, pt 3 0]⟩), (51, iv (w64 (1 + (Int.tmod (w64 p0) 12)))), (52, iv (w64 (1 + (Int.tmod (w64 p1) 12))))]) (H13_35 p3 p0 p1) [] []) 2 (QJ.o { val := ag [iv r6.1, iv r6.2.1, accV 4 r6.2.2.length], new := [ab 57 e57 r6.2.2] } (qOf_call (g := 40) (args := [iv (w64 (1 + (Int.tmod (w64 p0) 12))), iv (w64 (1 + (Int.tmod (w64 p1) 12))), .slice none 0 0]) (by kernel_rfl) lookC_hit) (QJ.rn (qs (st 163 [(2, .int .u8 p2), (9, pt 2 0), (10, pt 3 0), (11, iv r1.1), (13, .func (.func 44) ⟨[]⟩ ⟨[pt 1 0, pt 2 0, pt 3 0]⟩), (51, iv (w64 (1 + (Int.tmod (w64 p0) 12)))), (52, iv (w64 (1 + (Int.tmod (w64 p1) 12)))), (53, ag [iv r6.1, iv r6.2.1, accV 4 r6.2.2.length]), (54, iv (w64 (1 + (Int.tmod (w64 p0) 12)))), (55, iv (w64 (1 + (Int.tmod (w64 p1) 12))))]) (H13_25 p3 p0 p1 r6) [(2, 4, 5)] []) 2 ?_))
     exact QJ.o { val := ag [iv r8.1, iv r8.2.1, accV 5 r8.2.2.length], new := [ab 57 e57 r8.2.2] } (qOf_call (g := 40) (args := [iv (w64 (1 + (Int.tmod (w64 p0) 12))), iv (w64 (1 + (Int.tmod (w64 p1) 12))), .slice none 0 0]) (by kernel_rfl) (lookC_skip (by intro _ ha hh; first | (exact absurd (congrArg List.length hh) (Nat.ne_of_beq_eq_false rfl)) | (have hr := sj (h7.symm.trans (Eq.trans (congr (congr (congrArg F40 (Eq.refl (w64 (1 + (Int.tmod (w64 p0) 12))))) (Eq.refl (w64 (1 + (Int.tmod (w64 p1) 12))))) (Eq.refl ([]))) h9)); first | (subst hr; rfl) | (cases hr; done) | (cases hr; rfl))) lookC_hit)) (QJ.rn (qs (st 163 [(2, .int .u8 p2), (9, pt 2 0), (10, pt 3 0), (11, iv r1.1), (13, .func (.func 44) ⟨[]⟩ ⟨[pt 1 0, pt 2 0, pt 3 0]⟩), (14, pt 6 0), (15, pt 7 0), (51, iv (w64 (1 + (Int.tmod (w64 p0) 12)))), (52, iv (w64 (1 + (Int.tmod (w64 p1) 12)))), (53, ag [iv r6.1, iv r6.2.1, accV 4 r6.2.2.length]), (54, iv (w64 (1 + (Int.tmod (w64 p0) 12)))), (55, iv (w64 (1 + (Int.tmod (w64 p1) 12)))), (56, ag [iv r8.1, iv r8.2.1, accV 5 r8.2.2.length])]) [ab 5 e5 p3, cl 50 [sv 0 p3.length ANY], cl 3 [iv (w64 (1 + (Int.tmod (w64 p0) 12)))], cl 3 [iv (w64 (1 + (Int.tmod (w64 p1) 12)))], ab 57 e57 r6.2.2, ab 57 e57 r8.2.2, cl 24 [iv 0, iv 0, .slice none 0 0], cl 24 [iv 0, iv 0, .slice none 0 0]] [(7, 7, 8), (6, 6, 7), (5, 5, 6), (2, 4, 5)] []) 2 (QJ.dn ⟨rfl, SJ.la⟩))
   refine TS.sq (TS.sq (TS.rg (TI.ra 3 [2, 9, 10, 11, 13, 14, 15, 16] (st 163 [(2, .int .u8 p2), (9, pt 2 0), (10, pt 3 0), (11, iv r1.1), (13, .func (.func 44) ⟨[]⟩ ⟨[pt 1 0, pt 2 0, pt 3 0]⟩), (14, pt 6 0), (15, pt 7 0), (16, iv (w64 p2))]) (TI.dn (NX.sq (TS.bk 0 ?_))))))
   obtain ⟨r31, h32, hF⟩ := of_do hF
   refine TS.lp (TL.weak (a2 := (st 163 [(2, .int .u8 p2), (9, pt 1 0), (10, pt 2 0), (11, iv r1.1), (13, .func (.func 44) ⟨[]⟩ ⟨[pt 3 0, pt 1 0, pt 2 0]⟩), (14, pt 4 0), (15, pt 6 0), (16, iv (w64 p2))])) (h2 := [ab 5 e5 p3, cl 3 [iv (w64 (1 + (Int.tmod (w64 p0) 12)))], cl 3 [iv (w64 (1 + (Int.tmod (w64 p1) 12)))], cl 50 [sv 0 p3.length ANY], cl 24 [iv r6.1, iv r6.2.1, accV 5 r6.2.2.length], ab 57 e57 r6.2.2, cl 24 [iv r8.1, iv r8.2.1, accV 7 r8.2.2.length], ab 57 e57 r8.2.2]) (Wk.an [2, 3, 1, 6, 4, 7, 5] (.ac (.lt (.fl .nil) (.lt (.fl .nil) (.lt (.sl .nil) (.lt (.fl (.fl (.cons (Rn.acc (nl rfl) rfl) .nil))) (.ac (.lt (.fl (.fl (.cons (Rn.acc (nl rfl) rfl) .nil))) (.ac (.nil _))))))))) [.int .u8 p2, pt 2 0, pt 3 0, iv r1.1, .func (.func 44) ⟨[]⟩ ⟨[pt 1 0, pt 2 0, pt 3 0]⟩, pt 6 0, pt 7 0, iv (w64 p2)] (.fl (.pp (.pp (.fl (.cons (Rn.func' .nil (.pp (.pp (.pp .nil)))) (.pp (.pp (.fl .nil))))))))) (TL.post (L13l0 p0 p1 p2 p3 r1 r6 r8 (w64 p2) r6.2.2 r31 h32) ?_))
   rintro e a1 h1 hp
   obtain ⟨rfl, hw⟩ := hp
   refine ⟨(S13_40 r1), [ab 5 e5 p3, cl 3 [iv (w64 (1 + (Int.tmod (w64 p0) 12)))], cl 3 [iv (w64 (1 + (Int.tmod (w64 p1) 12)))], cl 50 [sv 0 p3.length ANY], cl 24 [iv r6.1, iv r6.2.1, accV 5 r31.length], ab 57 e57 r31, cl 24 [iv r8.1, iv r8.2.1, accV 7 r8.2.2.length], ab 57 e57 r8.2.2], (NX.bkX (NX.sq (TS.sq ?_))), hw⟩
   obtain ⟨hg33, hF⟩ := of_guardn hF
   refine TS.weak (a2 := (S13_40 r1)) (h2 := (H13_9 p3 p0 p1 r6 r31 r8)) (Wk.eq2 (congrArg (fun nn => (S13_40 r1)) (accV_pos (b := 5) hg33)) (Eq.trans (congrArg (fun nn => [ab 5 e5 p3, cl 3 [iv (w64 (1 + (Int.tmod (w64 p0) 12)))], cl 3 [iv (w64 (1 + (Int.tmod (w64 p1) 12)))], cl 50 [sv 0 p3.length ANY], cl 24 [iv r6.1, iv r6.2.1, nn], ab 57 e57 r31, cl 24 [iv r8.1, iv r8.2.1, accV 7 r8.2.2.length], ab 57 e57 r8.2.2]) (accV_pos (b := 5) hg33)) (congrArg (fun bb => [ab 5 e5 p3, cl 3 [iv (w64 (1 + (Int.tmod (w64 p0) 12)))], cl 3 [iv (w64 (1 + (Int.tmod (w64 p1) 12)))], cl 50 [sv 0 p3.length ANY], cl 24 [iv r6.1, iv r6.2.1, sv 5 r31.length UNK], bb, cl 24 [iv r8.1, iv r8.2.1, accV 7 r8.2.2.length], ab 57 e57 r8.2.2]) (accB_pos hg33)))) ?_
   obtain ⟨hg34, hF⟩ := of_guard hF
   refine TS.rg (TI.ra 4 [9, 10, 11, 13, 14, 15, 78, 80] (st 163 [(9, pt 1 0), (10, pt 2 0), (11, iv r1.1), (13, .func (.func 44) ⟨[]⟩ ⟨[pt 3 0, pt 1 0, pt 2 0]⟩), (14, pt 4 0), (15, pt 6 0), (78, sv 5 r31.length UNK), (80, iv (w64 (r1.1 - 1)))]) (TI.o { val := sv 5 (List.length (List.take (Int.toNat (w64 (r1.1 - 1))) r31)) UNK } (q_slUhi (P := Try.prog) (t := 22) (e := 57) (s := 2) (b := 5) (off := 0) (ys := r31) (k := .i64) (v := w64 (r1.1 - 1)) (by kernel_rfl) (by kernel_rfl) (by kernel_rfl) hg34) [9, 10, 11, 13, 14, 15, 81] [0, 1, 2, 3, 4, 5, 6, 7] (st 163 [(9, pt 1 0), (10, pt 2 0), (11, iv r1.1), (13, .func (.func 44) ⟨[]⟩ ⟨[pt 3 0, pt 1 0, pt 2 0]⟩), (14, pt 4 0), (15, pt 6 0), (81, sv 5 (List.length (List.take (Int.toNat (w64 (r1.1 - 1))) r31)) UNK)]) (H13_9 p3 p0 p1 r6 r31 r8) (TI.rn 2 [9, 10, 11, 13, 14, 15] [0, 1, 2, 3, 4, 5, 6] (S13_40 r1) [ab 5 e5 p3, cl 3 [iv (w64 (1 + (Int.tmod (w64 p0) 12)))], cl 3 [iv (w64 (1 + (Int.tmod (w64 p1) 12)))], cl 50 [sv 0 p3.length ANY], cl 24 [iv r6.1, iv r6.2.1, sv 5 r31.length UNK], .cells 57 (List.flatMap e57 r31), cl 24 [iv r8.1, iv r8.2.1, sv 5 (List.length (List.take (Int.toNat (w64 (r1.1 - 1))) r31)) UNK], .dead] (TI.dn (NX.sq (TS.sq ?_))))))
   obtain ⟨r35, h36, hF⟩ := of_do hF
   refine TS.rg (TI.ra 1 [9, 10, 11, 13, 14, 15, 84] (st 163 [(9, pt 1 0), (10, pt 2 0), (11, iv r1.1), (13, .func (.func 44) ⟨[]⟩ ⟨[pt 3 0, pt 1 0, pt 2 0]⟩), (14, pt 4 0), (15, pt 6 0), (84, ag [iv r6.1, iv r6.2.1, sv 5 r31.length UNK])]) (TI.cp 42 [ag [iv r6.1, iv r6.2.1, sv 5 r31.length UNK], iv 0, iv 150] (.tuple ⟨[accV 8 r35.1.length, iv r35.2]⟩) [ab 57 e57 r35.1] (PureSim.ren (hc := [ab 57 e57 r31]) (fun i => List.getD [(5, 0)] i (0, 0)) (C42 _ _ _ _ _ _ h36) (.cons (At.accU (by kernel_rfl) rfl (fun _ => rfl)) (.nil _)) (.cons (Rn.agg' (.fl (.fl (.cons (Rn.any _ _ _ _ _ _ (nl rfl) rfl rfl (by decide)) .nil)))) (.fl (.fl .nil))) (Rn.tuple' (.cons (Rn.acc (i' := 8) (nl rfl) rfl) (.fl .nil))) (newflat_cons (accB_flat (fun _ => rfl)) newflat_nil)) (TI.rn 5 [9, 10, 11, 12, 13, 14, 15, 17] [0, 1, 2, 3, 4, 5, 6, 8] (st 163 [(9, pt 1 0), (10, pt 2 0), (11, iv r1.1), (12, iv r35.2), (13, .func (.func 44) ⟨[]⟩ ⟨[pt 3 0, pt 1 0, pt 2 0]⟩), (14, pt 4 0), (15, pt 6 0), (17, accV 8 r35.1.length)]) (H13_3 p3 p0 p1 r6 r31 r8 r1 r35) (TI.dn (NX.sq (TS.sq ?_))))))
   obtain ⟨r37, h38, hF⟩ := of_do hF
   refine TS.rg (TI.ra 1 [9, 10, 11, 12, 13, 14, 15, 17, 89] (st 163 [(9, pt 1 0), (10, pt 2 0), (11, iv r1.1), (12, iv r35.2), (13, .func (.func 44) ⟨[]⟩ ⟨[pt 3 0, pt 1 0, pt 2 0]⟩), (14, pt 4 0), (15, pt 6 0), (17, accV 8 r35.1.length), (89, ag [iv r8.1, iv r8.2.1, sv 5 (List.length (List.take (Int.toNat (w64 (r1.1 - 1))) r31)) UNK])]) ?_)
   refine TI.cp 42 [ag [iv r8.1, iv r8.2.1, sv 5 (List.length (List.take (Int.toNat (w64 (r1.1 - 1))) r31)) UNK], iv 0, iv 150] (.tuple ⟨[accV 9 r37.1.length, iv r37.2]⟩) [ab 57 e57 r37.1] (PureSim.ren (hc := [accB 57 (List.length (List.take (Int.toNat (w64 (r1.1 - 1))) r31)) (List.flatMap e57 (List.take (Int.toNat (w64 (r1.1 - 1))) r31))]) (fun i => List.getD [(5, 0)] i (0, 0)) (C42 _ _ _ _ _ _ h38) (.cons (At.win (s := 2) (b := 5) (off := 0) (L := r31) (ys := List.take (Int.toNat (w64 (r1.1 - 1))) r31) (by rfl) (win_take win_all _) (holds_lst (hp := (H13_3 p3 p0 p1 r6 r31 r8 r1 r35)) (b := 5) (T := 57) (enc := e57) (L := r31) (by kernel_rfl)) (fun _ => rfl) (fun _ => rfl)) (.nil _)) (.cons (Rn.agg' (.fl (.fl (.cons (Rn.win (i := 0) (i' := 5) (off := 0) (Nat.le_of_ble_eq_true (by rfl)) (by rfl) rfl) .nil)))) (.fl (.fl .nil))) (Rn.tuple' (.cons (Rn.acc (i' := 9) (nl rfl) rfl) (.fl .nil))) (newflat_cons (accB_flat (fun _ => rfl)) newflat_nil)) (TI.rn 5 [9, 10, 11, 12, 13, 14, 15, 17, 18, 19] [0, 1, 2, 3, 4, 5, 6, 8, 9] (st 163 [(9, pt 1 0), (10, pt 2 0), (11, iv r1.1), (12, iv r35.2), (13, .func (.func 44) ⟨[]⟩ ⟨[pt 3 0, pt 1 0, pt 2 0]⟩), (14, pt 4 0), (15, pt 6 0), (17, accV 8 r35.1.length), (18, accV 9 r37.1.length), (19, iv r37.2)]) [ab 5 e5 p3, cl 3 [iv (w64 (1 + (Int.tmod (w64 p0) 12)))], cl 3 [iv (w64 (1 + (Int.tmod (w64 p1) 12)))], cl 50 [sv 0 p3.length ANY], cl 24 [iv r6.1, iv r6.2.1, sv 5 r31.length UNK], .cells 57 (List.flatMap e57 r31), cl 24 [iv r8.1, iv r8.2.1, sv 5 (List.length (List.take (Int.toNat (w64 (r1.1 - 1))) r31)) UNK], .dead, ab 57 e57 r35.1, ab 57 e57 r37.1] (TI.dn (NX.sq (TS.sq ?_))))
   obtain ⟨r39, h40, hF⟩ := of_do hF
   refine TS.rg (TI.rn 1 [9, 10, 11, 12, 13, 15, 17, 18, 19, 94] [0, 1, 2, 3, 5, 6, 8, 9] (st 163 [(9, pt 1 0), (10, pt 2 0), (11, iv r1.1), (12, iv r35.2), (13, .func (.func 44) ⟨[]⟩ ⟨[pt 3 0, pt 1 0, pt 2 0]⟩), (15, pt 6 0), (17, accV 8 r35.1.length), (18, accV 9 r37.1.length), (19, iv r37.2), (94, ag [iv r6.1, iv r6.2.1, sv 5 r31.length UNK])]) [ab 5 e5 p3, cl 3 [iv (w64 (1 + (Int.tmod (w64 p0) 12)))], cl 3 [iv (w64 (1 + (Int.tmod (w64 p1) 12)))], cl 50 [sv 0 p3.length ANY], .dead, .cells 57 (List.flatMap e57 r31), cl 24 [iv r8.1, iv r8.2.1, sv 5 (List.length (List.take (Int.toNat (w64 (r1.1 - 1))) r31)) UNK], .dead, ab 57 e57 r35.1, ab 57 e57 r37.1] (TI.cp 18 [ag [iv r6.1, iv r6.2.1, sv 5 r31.length UNK]] (.tuple ⟨[iv r39.1, iv r39.2]⟩) [] (PureSim.ren (hc := [ab 57 e57 r31]) (fun i => List.getD [(5, 0)] i (0, 0)) (C18 _ _ _ _ h40) (.cons (At.accU (by kernel_rfl) rfl (fun _ => rfl)) (.nil _)) (.cons (Rn.agg' (.fl (.fl (.cons (Rn.any _ _ _ _ _ _ (nl rfl) rfl rfl (by decide)) .nil)))) .nil) (.flat (by kernel_rfl)) newflat_nil) (TI.ra 5 [9, 10, 11, 12, 13, 15, 17, 18, 19, 20, 21] (st 163 [(9, pt 1 0), (10, pt 2 0), (11, iv r1.1), (12, iv r35.2), (13, .func (.func 44) ⟨[]⟩ ⟨[pt 3 0, pt 1 0, pt 2 0]⟩), (15, pt 6 0), (17, accV 8 r35.1.length), (18, accV 9 r37.1.length), (19, iv r37.2), (20, iv r39.1), (21, iv r39.2)]) (TI.dn (NX.sq (TS.sq ?_))))))
   obtain ⟨r41, h42, hF⟩ := of_do hF
   refine TS.rg (TI.rn 1 [9, 10, 11, 12, 13, 17, 18, 19, 20, 21, 99] [0, 1, 2, 3, 5, 8, 9] (st 163 [(9, pt 1 0), (10, pt 2 0), (11, iv r1.1), (12, iv r35.2), (13, .func (.func 44) ⟨[]⟩ ⟨[pt 3 0, pt 1 0, pt 2 0]⟩), (17, accV 8 r35.1.length), (18, accV 9 r37.1.length), (19, iv r37.2), (20, iv r39.1), (21, iv r39.2), (99, ag [iv r8.1, iv r8.2.1, sv 5 (List.length (List.take (Int.toNat (w64 (r1.1 - 1))) r31)) UNK])]) (H13_13 p3 p0 p1 r31 r35 r37) ?_)
   refine TI.cp 18 [ag [iv r8.1, iv r8.2.1, sv 5 (List.length (List.take (Int.toNat (w64 (r1.1 - 1))) r31)) UNK]] (.tuple ⟨[iv r41.1, iv r41.2]⟩) [] (PureSim.ren (hc := [accB 57 (List.length (List.take (Int.toNat (w64 (r1.1 - 1))) r31)) (List.flatMap e57 (List.take (Int.toNat (w64 (r1.1 - 1))) r31))]) (fun i => List.getD [(5, 0)] i (0, 0)) (C18 _ _ _ _ h42) (.cons (At.win (s := 2) (b := 5) (off := 0) (L := r31) (ys := List.take (Int.toNat (w64 (r1.1 - 1))) r31) (by rfl) (win_take win_all _) (holds_lst (hp := (H13_13 p3 p0 p1 r31 r35 r37)) (b := 5) (T := 57) (enc := e57) (L := r31) (by kernel_rfl)) (fun _ => rfl) (fun _ => rfl)) (.nil _)) (.cons (Rn.agg' (.fl (.fl (.cons (Rn.win (i := 0) (i' := 5) (off := 0) (Nat.le_of_ble_eq_true (by rfl)) (by rfl) rfl) .nil)))) .nil) (.flat (by kernel_rfl)) newflat_nil) (TI.rn 5 [9, 10, 11, 12, 13, 17, 18, 19, 20, 21, 22, 23] [0, 1, 2, 3, 8, 9] (st 163 [(9, pt 1 0), (10, pt 2 0), (11, iv r1.1), (12, iv r35.2), (13, .func (.func 44) ⟨[]⟩ ⟨[pt 3 0, pt 1 0, pt 2 0]⟩), (17, accV 8 r35.1.length), (18, accV 9 r37.1.length), (19, iv r37.2), (20, iv r39.1), (21, iv r39.2), (22, iv r41.1), (23, iv r41.2)]) (H13_14 p3 p0 p1 r35 r37) (TI.dn (NX.sq (TS.sq (TS.sq ?_)))))
   obtain ⟨m52, hm87, hF⟩ := of_do hF
   have hK : NX Try.prog 1 1 [.sq c13.s2.s2.s2.s2.s2.s2.s2.s2.s2.s2.s2.s2.s1.s2, .sq c13.s2.s2.s2.s2.s2.s2.s2.s2.s2.s2.s2.s2.s2] (FinP Try.prog Try.f13 1 (V13 1 r) (N13 1 r)) .normal (st 163 [(13, .func (.func 44) ⟨[]⟩ ⟨[pt 3 0, pt 1 0, pt 2 0]⟩), (17, accV 8 r35.1.length), (141, .bool m52)]) (H13_15 p3 p0 p1 r35) := by
    refine NX.sq ?_
    cases m52 with
    | true =>
     replace hF := of_pos hF rfl
     refine TS.cdT (.tmp 141) (TS.sq (TS.rg (TI.rn 1 [8] [0] (st 163 [(8, .bool false)]) [ab 5 e5 p3, .dead, .dead, .dead, .dead, .dead, .dead, .dead, .dead, .dead] (TI.dn (NX.sq (TS.rt (NX.sqR ?_)))))))
     have hF := sj hF
     subst hF
     exact ⟨.inr rfl, rfl, .bool false, by kernel_rfl, WkV.flat0 (by kernel_rfl) (nl rfl)⟩
    | false =>
     replace hF := of_neg hF rfl
     refine TS.cdF (.tmp 141) (TS.sk (NX.sq (TS.sq (TS.sq (TS.rg (TI.ra 3 [13, 142, 143, 144] (st 163 [(13, .func (.func 44) ⟨[]⟩ ⟨[pt 3 0, pt 1 0, pt 2 0]⟩), (142, accV 8 r35.1.length), (143, iv (r35.1.length : Int)), (144, iv 0)]) (TI.dn (NX.sq ?_))))))))
     refine TS.bk 2 ?_
     obtain ⟨r81, h82, hF⟩ := of_do hF
     refine TS.lp (TL.weak (a2 := (st 163 [(13, .func (.func 44) ⟨[]⟩ ⟨[pt 1 0, pt 2 0, pt 3 0]⟩), (142, accV 4 r35.1.length), (143, iv (r35.1.length : Int)), (144, iv 0)])) (h2 := (H13_26 p3 p0 p1 r35)) (Wk.an [3, 1, 2, 8] (.ac (.lt (.sl .nil) (.lt (.fl .nil) (.lt (.fl .nil) (.ac (.nil _)))))) [.func (.func 44) ⟨[]⟩ ⟨[pt 3 0, pt 1 0, pt 2 0]⟩, accV 8 r35.1.length, iv (r35.1.length : Int), iv 0] (.cons (Rn.func' .nil (.pp (.pp (.pp .nil)))) (.cons (Rn.acc (nl rfl) rfl) (.fl (.fl .nil))))) (TL.post (L13l1 p0 p1 p3 r35 0 r81 h82) ?_))
     rintro e a1 h1 hp
     rcases r81 with o83 | o84
     · skip
       obtain ⟨rfl, hw⟩ := hp
       refine ⟨(st 163 [(8, .bool false)]), [ab 5 e5 p3], (NX.bkR (NX.sqR ?_)), hw⟩
       have hF := sj hF
       subst hF
       exact ⟨.inr rfl, rfl, .bool false, by kernel_rfl, WkV.flat0 (by kernel_rfl) (nl rfl)⟩
     skip
     obtain ⟨rfl, hw⟩ := hp
     refine ⟨(st 163 []), [ab 5 e5 p3], (NX.bkX (NX.sq (TS.sq ?_))), hw⟩
     obtain ⟨r85, h86, hF⟩ := of_do hF
     refine TS.rg (TI.cf (C14 _ h86) (TI.ra 1 [8] (st 163 [(8, .bool r85)]) (TI.dn (NX.sq (TS.rt ?_)))))
     have hF := sj hF
     subst hF
     exact ⟨.inr rfl, rfl, .bool r85, by kernel_rfl, WkV.flat0 (by kernel_rfl) (nl rfl)⟩
   rcases Bool.eq_false_or_eq_true (r35.2 != 0) with hc43 | hc43
   · replace hm87 := of_pos hm87 hc43
     have hm87 := sj hm87
     subst hm87
     exact TS.rg (TI.ra 1 [9, 10, 11, 13, 17, 18, 19, 20, 21, 22, 23, 103] (S13_20 r1 r35 r37 r39 r41) (TI.o { val := .bool true } (q_conv (e := r35.2 != 0) (b := true) (by kernel_rfl) hc43) [9, 10, 11, 13, 17, 18, 19, 20, 21, 22, 23, 104] [0, 1, 2, 3, 8, 9] (st 163 [(9, pt 1 0), (10, pt 2 0), (11, iv r1.1), (13, .func (.func 44) ⟨[]⟩ ⟨[pt 3 0, pt 1 0, pt 2 0]⟩), (17, accV 8 r35.1.length), (18, accV 9 r37.1.length), (19, iv r37.2), (20, iv r39.1), (21, iv r39.2), (22, iv r41.1), (23, iv r41.2), (104, .bool true)]) (H13_14 p3 p0 p1 r35 r37) (TI.rn 37 [13, 17, 141] [0, 1, 2, 3, 8] (S13_41 r35) (H13_15 p3 p0 p1 r35) (TI.dn hK))))
   replace hm87 := of_neg hm87 hc43
   rcases Bool.eq_false_or_eq_true (r37.2 != 0) with hc44 | hc44
   · replace hm87 := of_pos hm87 hc44
     have hm87 := sj hm87
     subst hm87
     exact TS.rg (TI.ra 1 [9, 10, 11, 13, 17, 18, 19, 20, 21, 22, 23, 103] (S13_20 r1 r35 r37 r39 r41) (TI.o { val := .bool false } (q_conv (e := r35.2 != 0) (b := false) (by kernel_rfl) hc43) [9, 10, 11, 13, 17, 18, 19, 20, 21, 22, 23, 104] [0, 1, 2, 3, 8, 9] (S13_19 r1 r35 r37 r39 r41) (H13_14 p3 p0 p1 r35 r37) (TI.ra 2 [9, 10, 11, 13, 17, 18, 20, 21, 22, 23, 105, 106] (S13_18 r1 r35 r37 r39 r41) (TI.o { val := .bool true } (q_conv (e := r37.2 != 0) (b := true) (by kernel_rfl) hc44) [9, 10, 11, 13, 17, 18, 20, 21, 22, 23, 105, 107] [0, 1, 2, 3, 8, 9] (st 163 [(9, pt 1 0), (10, pt 2 0), (11, iv r1.1), (13, .func (.func 44) ⟨[]⟩ ⟨[pt 3 0, pt 1 0, pt 2 0]⟩), (17, accV 8 r35.1.length), (18, accV 9 r37.1.length), (20, iv r39.1), (21, iv r39.2), (22, iv r41.1), (23, iv r41.2), (105, .bool false), (107, .bool true)]) (H13_14 p3 p0 p1 r35 r37) (TI.rn 34 [13, 17, 141] [0, 1, 2, 3, 8] (S13_41 r35) (H13_15 p3 p0 p1 r35) (TI.dn hK))))))
   replace hm87 := of_neg hm87 hc44
   rcases Bool.eq_false_or_eq_true (r39.2 != 0) with hc45 | hc45
   · replace hm87 := of_pos hm87 hc45
     have hm87 := sj hm87
     subst hm87
     refine TS.rg (TI.ra 1 [9, 10, 11, 13, 17, 18, 19, 20, 21, 22, 23, 103] (S13_20 r1 r35 r37 r39 r41) (TI.o { val := .bool false } (q_conv (e := r35.2 != 0) (b := false) (by kernel_rfl) hc43) [9, 10, 11, 13, 17, 18, 19, 20, 21, 22, 23, 104] [0, 1, 2, 3, 8, 9] (S13_19 r1 r35 r37 r39 r41) (H13_14 p3 p0 p1 r35 r37) (TI.ra 2 [9, 10, 11, 13, 17, 18, 20, 21, 22, 23, 105, 106] (S13_18 r1 r35 r37 r39 r41) (TI.o { val := .bool false } (q_conv (e := r37.2 != 0) (b := false) (by kernel_rfl) hc44) [9, 10, 11, 13, 17, 18, 20, 21, 22, 23, 105, 107] [0, 1, 2, 3, 8, 9] (S13_16 r1 r35 r37 r39 r41) (H13_14 p3 p0 p1 r35 r37) (TI.ra 3 [9, 10, 11, 13, 17, 18, 20, 22, 23, 109, 110] (S13_23 r1 r35 r37 r39 r41) (TI.o { val := .bool true } (q_conv (e := r39.2 != 0) (b := true) (by kernel_rfl) hc45) [9, 10, 11, 13, 17, 18, 20, 22, 23, 109, 111] [0, 1, 2, 3, 8, 9] (st 163 [(9, pt 1 0), (10, pt 2 0), (11, iv r1.1), (13, .func (.func 44) ⟨[]⟩ ⟨[pt 3 0, pt 1 0, pt 2 0]⟩), (17, accV 8 r35.1.length), (18, accV 9 r37.1.length), (20, iv r39.1), (22, iv r41.1), (23, iv r41.2), (109, .bool false), (111, .bool true)]) (H13_14 p3 p0 p1 r35 r37) (TI.rn 30 [13, 17, 141] [0, 1, 2, 3, 8] (S13_41 r35) (H13_15 p3 p0 p1 r35) (TI.dn ?_))))))))
     exact hK
   replace hm87 := of_neg hm87 hc45
   rcases Bool.eq_false_or_eq_true (r41.2 != 0) with hc46 | hc46
   · replace hm87 := of_pos hm87 hc46
     have hm87 := sj hm87
     subst hm87
     refine TS.rg (TI.ra 1 [9, 10, 11, 13, 17, 18, 19, 20, 21, 22, 23, 103] (S13_20 r1 r35 r37 r39 r41) (TI.o { val := .bool false } (q_conv (e := r35.2 != 0) (b := false) (by kernel_rfl) hc43) [9, 10, 11, 13, 17, 18, 19, 20, 21, 22, 23, 104] [0, 1, 2, 3, 8, 9] (S13_19 r1 r35 r37 r39 r41) (H13_14 p3 p0 p1 r35 r37) (TI.ra 2 [9, 10, 11, 13, 17, 18, 20, 21, 22, 23, 105, 106] (S13_18 r1 r35 r37 r39 r41) (TI.o { val := .bool false } (q_conv (e := r37.2 != 0) (b := false) (by kernel_rfl) hc44) [9, 10, 11, 13, 17, 18, 20, 21, 22, 23, 105, 107] [0, 1, 2, 3, 8, 9] (S13_16 r1 r35 r37 r39 r41) (H13_14 p3 p0 p1 r35 r37) (TI.ra 3 [9, 10, 11, 13, 17, 18, 20, 22, 23, 109, 110] (S13_23 r1 r35 r37 r39 r41) (TI.o { val := .bool false } (q_conv (e := r39.2 != 0) (b := false) (by kernel_rfl) hc45) [9, 10, 11, 13, 17, 18, 20, 22, 23, 109, 111] [0, 1, 2, 3, 8, 9] (S13_22 r1 r35 r37 r39 r41) (H13_14 p3 p0 p1 r35 r37) (TI.ra 3 [9, 10, 11, 13, 17, 18, 20, 22, 113, 114] (S13_29 r1 r35 r37 r39 r41) (TI.o { val := .bool true } (q_conv (e := r41.2 != 0) (b := true) (by kernel_rfl) hc46) [9, 10, 11, 13, 17, 18, 20, 22, 113, 115] [0, 1, 2, 3, 8, 9] (st 163 [(9, pt 1 0), (10, pt 2 0), (11, iv r1.1), (13, .func (.func 44) ⟨[]⟩ ⟨[pt 3 0, pt 1 0, pt 2 0]⟩), (17, accV 8 r35.1.length), (18, accV 9 r37.1.length), (20, iv r39.1), (22, iv r41.1), (113, .bool false), (115, .bool true)]) (H13_14 p3 p0 p1 r35 r37) ?_))))))))
     exact TI.rn 26 [13, 17, 141] [0, 1, 2, 3, 8] (S13_41 r35) (H13_15 p3 p0 p1 r35) (TI.dn hK)
   replace hm87 := of_neg hm87 hc46
   rcases Bool.eq_false_or_eq_true ((r35.1.length : Int) != 151) with hc47 | hc47
   · replace hm87 := of_pos hm87 hc47
     have hm87 := sj hm87
     subst hm87
     refine TS.rg (TI.ra 1 [9, 10, 11, 13, 17, 18, 19, 20, 21, 22, 23, 103] (S13_20 r1 r35 r37 r39 r41) (TI.o { val := .bool false } (q_conv (e := r35.2 != 0) (b := false) (by kernel_rfl) hc43) [9, 10, 11, 13, 17, 18, 19, 20, 21, 22, 23, 104] [0, 1, 2, 3, 8, 9] (S13_19 r1 r35 r37 r39 r41) (H13_14 p3 p0 p1 r35 r37) (TI.ra 2 [9, 10, 11, 13, 17, 18, 20, 21, 22, 23, 105, 106] (S13_18 r1 r35 r37 r39 r41) (TI.o { val := .bool false } (q_conv (e := r37.2 != 0) (b := false) (by kernel_rfl) hc44) [9, 10, 11, 13, 17, 18, 20, 21, 22, 23, 105, 107] [0, 1, 2, 3, 8, 9] (S13_16 r1 r35 r37 r39 r41) (H13_14 p3 p0 p1 r35 r37) (TI.ra 3 [9, 10, 11, 13, 17, 18, 20, 22, 23, 109, 110] (S13_23 r1 r35 r37 r39 r41) (TI.o { val := .bool false } (q_conv (e := r39.2 != 0) (b := false) (by kernel_rfl) hc45) [9, 10, 11, 13, 17, 18, 20, 22, 23, 109, 111] [0, 1, 2, 3, 8, 9] (S13_22 r1 r35 r37 r39 r41) (H13_14 p3 p0 p1 r35 r37) (TI.ra 3 [9, 10, 11, 13, 17, 18, 20, 22, 113, 114] (S13_29 r1 r35 r37 r39 r41) (TI.o { val := .bool false } (q_conv (e := r41.2 != 0) (b := false) (by kernel_rfl) hc46) [9, 10, 11, 13, 17, 18, 20, 22, 113, 115] [0, 1, 2, 3, 8, 9] (S13_27 r1 r35 r37 r39 r41) (H13_14 p3 p0 p1 r35 r37) ?_))))))))
     exact TI.ra 4 [9, 10, 11, 13, 17, 18, 20, 22, 117, 119] (S13_21 r1 r35 r37 r39 r41) (TI.o { val := .bool true } (q_conv (e := (r35.1.length : Int) != 151) (b := true) (by kernel_rfl) hc47) [9, 10, 11, 13, 17, 18, 20, 22, 117, 120] [0, 1, 2, 3, 8, 9] (st 163 [(9, pt 1 0), (10, pt 2 0), (11, iv r1.1), (13, .func (.func 44) ⟨[]⟩ ⟨[pt 3 0, pt 1 0, pt 2 0]⟩), (17, accV 8 r35.1.length), (18, accV 9 r37.1.length), (20, iv r39.1), (22, iv r41.1), (117, .bool false), (120, .bool true)]) (H13_14 p3 p0 p1 r35 r37) (TI.rn 21 [13, 17, 141] [0, 1, 2, 3, 8] (S13_41 r35) (H13_15 p3 p0 p1 r35) (TI.dn hK)))
   replace hm87 := of_neg hm87 hc47
   rcases Bool.eq_false_or_eq_true (decide ((r37.1.length : Int) > 150)) with hc48 | hc48
   · replace hm87 := of_pos hm87 hc48
     have hm87 := sj hm87
     subst hm87
     refine TS.rg (TI.ra 1 [9, 10, 11, 13, 17, 18, 19, 20, 21, 22, 23, 103] (S13_20 r1 r35 r37 r39 r41) (TI.o { val := .bool false } (q_conv (e := r35.2 != 0) (b := false) (by kernel_rfl) hc43) [9, 10, 11, 13, 17, 18, 19, 20, 21, 22, 23, 104] [0, 1, 2, 3, 8, 9] (S13_19 r1 r35 r37 r39 r41) (H13_14 p3 p0 p1 r35 r37) (TI.ra 2 [9, 10, 11, 13, 17, 18, 20, 21, 22, 23, 105, 106] (S13_18 r1 r35 r37 r39 r41) (TI.o { val := .bool false } (q_conv (e := r37.2 != 0) (b := false) (by kernel_rfl) hc44) [9, 10, 11, 13, 17, 18, 20, 21, 22, 23, 105, 107] [0, 1, 2, 3, 8, 9] (S13_16 r1 r35 r37 r39 r41) (H13_14 p3 p0 p1 r35 r37) (TI.ra 3 [9, 10, 11, 13, 17, 18, 20, 22, 23, 109, 110] (S13_23 r1 r35 r37 r39 r41) (TI.o { val := .bool false } (q_conv (e := r39.2 != 0) (b := false) (by kernel_rfl) hc45) [9, 10, 11, 13, 17, 18, 20, 22, 23, 109, 111] [0, 1, 2, 3, 8, 9] (S13_22 r1 r35 r37 r39 r41) (H13_14 p3 p0 p1 r35 r37) (TI.ra 3 [9, 10, 11, 13, 17, 18, 20, 22, 113, 114] (S13_29 r1 r35 r37 r39 r41) (TI.o { val := .bool false } (q_conv (e := r41.2 != 0) (b := false) (by kernel_rfl) hc46) [9, 10, 11, 13, 17, 18, 20, 22, 113, 115] [0, 1, 2, 3, 8, 9] (S13_27 r1 r35 r37 r39 r41) (H13_14 p3 p0 p1 r35 r37) ?_))))))))
     exact TI.ra 4 [9, 10, 11, 13, 17, 18, 20, 22, 117, 119] (S13_21 r1 r35 r37 r39 r41) (TI.o { val := .bool false } (q_conv (e := (r35.1.length : Int) != 151) (b := false) (by kernel_rfl) hc47) [9, 10, 11, 13, 17, 18, 20, 22, 117, 120] [0, 1, 2, 3, 8, 9] (S13_28 r1 r35 r37 r39 r41) (H13_14 p3 p0 p1 r35 r37) (TI.rn 4 [9, 10, 11, 13, 17, 20, 22, 122, 124] [0, 1, 2, 3, 8] (S13_30 r1 r35 r39 r41 r37) (H13_15 p3 p0 p1 r35) (TI.o { val := .bool true } (q_conv (e := decide ((r37.1.length : Int) > 150)) (b := true) (by kernel_rfl) hc48) [9, 10, 11, 13, 17, 20, 22, 122, 125] [0, 1, 2, 3, 8] (st 163 [(9, pt 1 0), (10, pt 2 0), (11, iv r1.1), (13, .func (.func 44) ⟨[]⟩ ⟨[pt 3 0, pt 1 0, pt 2 0]⟩), (17, accV 8 r35.1.length), (20, iv r39.1), (22, iv r41.1), (122, .bool false), (125, .bool true)]) (H13_15 p3 p0 p1 r35) (TI.ra 16 [13, 17, 141] (S13_41 r35) (TI.dn hK)))))
   replace hm87 := of_neg hm87 hc48
   rcases Bool.eq_false_or_eq_true (r41.1 != (w64 (r39.1 + 1))) with hc49 | hc49
   · replace hm87 := of_pos hm87 hc49
     have hm87 := sj hm87
     subst hm87
     refine TS.rg (TI.ra 1 [9, 10, 11, 13, 17, 18, 19, 20, 21, 22, 23, 103] (S13_20 r1 r35 r37 r39 r41) (TI.o { val := .bool false } (q_conv (e := r35.2 != 0) (b := false) (by kernel_rfl) hc43) [9, 10, 11, 13, 17, 18, 19, 20, 21, 22, 23, 104] [0, 1, 2, 3, 8, 9] (S13_19 r1 r35 r37 r39 r41) (H13_14 p3 p0 p1 r35 r37) (TI.ra 2 [9, 10, 11, 13, 17, 18, 20, 21, 22, 23, 105, 106] (S13_18 r1 r35 r37 r39 r41) (TI.o { val := .bool false } (q_conv (e := r37.2 != 0) (b := false) (by kernel_rfl) hc44) [9, 10, 11, 13, 17, 18, 20, 21, 22, 23, 105, 107] [0, 1, 2, 3, 8, 9] (S13_16 r1 r35 r37 r39 r41) (H13_14 p3 p0 p1 r35 r37) (TI.ra 3 [9, 10, 11, 13, 17, 18, 20, 22, 23, 109, 110] (S13_23 r1 r35 r37 r39 r41) (TI.o { val := .bool false } (q_conv (e := r39.2 != 0) (b := false) (by kernel_rfl) hc45) [9, 10, 11, 13, 17, 18, 20, 22, 23, 109, 111] [0, 1, 2, 3, 8, 9] (S13_22 r1 r35 r37 r39 r41) (H13_14 p3 p0 p1 r35 r37) (TI.ra 3 [9, 10, 11, 13, 17, 18, 20, 22, 113, 114] (S13_29 r1 r35 r37 r39 r41) (TI.o { val := .bool false } (q_conv (e := r41.2 != 0) (b := false) (by kernel_rfl) hc46) [9, 10, 11, 13, 17, 18, 20, 22, 113, 115] [0, 1, 2, 3, 8, 9] (S13_27 r1 r35 r37 r39 r41) (H13_14 p3 p0 p1 r35 r37) ?_))))))))
     exact TI.ra 4 [9, 10, 11, 13, 17, 18, 20, 22, 117, 119] (S13_21 r1 r35 r37 r39 r41) (TI.o { val := .bool false } (q_conv (e := (r35.1.length : Int) != 151) (b := false) (by kernel_rfl) hc47) [9, 10, 11, 13, 17, 18, 20, 22, 117, 120] [0, 1, 2, 3, 8, 9] (S13_28 r1 r35 r37 r39 r41) (H13_14 p3 p0 p1 r35 r37) (TI.rn 4 [9, 10, 11, 13, 17, 20, 22, 122, 124] [0, 1, 2, 3, 8] (S13_30 r1 r35 r39 r41 r37) (H13_15 p3 p0 p1 r35) (TI.o { val := .bool false } (q_conv (e := decide ((r37.1.length : Int) > 150)) (b := false) (by kernel_rfl) hc48) [9, 10, 11, 13, 17, 20, 22, 122, 125] [0, 1, 2, 3, 8] (S13_33 r1 r35 r39 r41) (H13_15 p3 p0 p1 r35) (TI.ra 5 [9, 10, 11, 13, 17, 20, 127, 128, 130] (S13_32 r1 r35 r39 r41) (TI.o { val := .bool true } (q_conv (e := r41.1 != (w64 (r39.1 + 1))) (b := true) (by kernel_rfl) hc49) [9, 10, 11, 13, 17, 20, 127, 131] [0, 1, 2, 3, 8] (st 163 [(9, pt 1 0), (10, pt 2 0), (11, iv r1.1), (13, .func (.func 44) ⟨[]⟩ ⟨[pt 3 0, pt 1 0, pt 2 0]⟩), (17, accV 8 r35.1.length), (20, iv r39.1), (127, .bool false), (131, .bool true)]) (H13_15 p3 p0 p1 r35) (TI.ra 10 [13, 17, 141] (S13_41 r35) (TI.dn hK)))))))
   replace hm87 := of_neg hm87 hc49
   have hX := of_do hm87
   clear hm87
   obtain ⟨o50, h51, hm87⟩ := hX
   replace h51 := sj h51
   have hm87 := sj hm87
   subst hm87
   refine TS.rg (TI.ra 1 [9, 10, 11, 13, 17, 18, 19, 20, 21, 22, 23, 103] (S13_20 r1 r35 r37 r39 r41) (TI.o { val := .bool false } (q_conv (e := r35.2 != 0) (b := false) (by kernel_rfl) hc43) [9, 10, 11, 13, 17, 18, 19, 20, 21, 22, 23, 104] [0, 1, 2, 3, 8, 9] (S13_19 r1 r35 r37 r39 r41) (H13_14 p3 p0 p1 r35 r37) (TI.ra 2 [9, 10, 11, 13, 17, 18, 20, 21, 22, 23, 105, 106] (S13_18 r1 r35 r37 r39 r41) (TI.o { val := .bool false } (q_conv (e := r37.2 != 0) (b := false) (by kernel_rfl) hc44) [9, 10, 11, 13, 17, 18, 20, 21, 22, 23, 105, 107] [0, 1, 2, 3, 8, 9] (S13_16 r1 r35 r37 r39 r41) (H13_14 p3 p0 p1 r35 r37) (TI.ra 3 [9, 10, 11, 13, 17, 18, 20, 22, 23, 109, 110] (S13_23 r1 r35 r37 r39 r41) (TI.o { val := .bool false } (q_conv (e := r39.2 != 0) (b := false) (by kernel_rfl) hc45) [9, 10, 11, 13, 17, 18, 20, 22, 23, 109, 111] [0, 1, 2, 3, 8, 9] (S13_22 r1 r35 r37 r39 r41) (H13_14 p3 p0 p1 r35 r37) (TI.ra 3 [9, 10, 11, 13, 17, 18, 20, 22, 113, 114] (S13_29 r1 r35 r37 r39 r41) (TI.o { val := .bool false } (q_conv (e := r41.2 != 0) (b := false) (by kernel_rfl) hc46) [9, 10, 11, 13, 17, 18, 20, 22, 113, 115] [0, 1, 2, 3, 8, 9] (S13_27 r1 r35 r37 r39 r41) (H13_14 p3 p0 p1 r35 r37) ?_))))))))
   refine TI.ra 4 [9, 10, 11, 13, 17, 18, 20, 22, 117, 119] (S13_21 r1 r35 r37 r39 r41) (TI.o { val := .bool false } (q_conv (e := (r35.1.length : Int) != 151) (b := false) (by kernel_rfl) hc47) [9, 10, 11, 13, 17, 18, 20, 22, 117, 120] [0, 1, 2, 3, 8, 9] (S13_28 r1 r35 r37 r39 r41) (H13_14 p3 p0 p1 r35 r37) (TI.rn 4 [9, 10, 11, 13, 17, 20, 22, 122, 124] [0, 1, 2, 3, 8] (S13_30 r1 r35 r39 r41 r37) (H13_15 p3 p0 p1 r35) (TI.o { val := .bool false } (q_conv (e := decide ((r37.1.length : Int) > 150)) (b := false) (by kernel_rfl) hc48) [9, 10, 11, 13, 17, 20, 22, 122, 125] [0, 1, 2, 3, 8] (S13_33 r1 r35 r39 r41) (H13_15 p3 p0 p1 r35) (TI.ra 5 [9, 10, 11, 13, 17, 20, 127, 128, 130] (S13_32 r1 r35 r39 r41) (TI.o { val := .bool false } (q_conv (e := r41.1 != (w64 (r39.1 + 1))) (b := false) (by kernel_rfl) hc49) [9, 10, 11, 13, 17, 20, 127, 131] [0, 1, 2, 3, 8] (st 163 [(9, pt 1 0), (10, pt 2 0), (11, iv r1.1), (13, .func (.func 44) ⟨[]⟩ ⟨[pt 3 0, pt 1 0, pt 2 0]⟩), (17, accV 8 r35.1.length), (20, iv r39.1), (127, .bool false), (131, .bool false)]) (H13_15 p3 p0 p1 r35) (TI.ra 5 [11, 13, 17, 133, 134, 135, 136] (st 163 [(11, iv r1.1), (13, .func (.func 44) ⟨[]⟩ ⟨[pt 3 0, pt 1 0, pt 2 0]⟩), (17, accV 8 r35.1.length), (133, .bool false), (134, iv r39.1), (135, iv (w64 (1 + (Int.tmod (w64 p0) 12)))), (136, iv (w64 (1 + (Int.tmod (w64 p1) 12))))]) (TI.o { val := iv o50 } (q_convI (e := w64 ((w64 (1 + (Int.tmod (w64 p0) 12))) + (w64 (1 + (Int.tmod (w64 p1) 12))))) (y := o50) (by kernel_rfl) h51) [11, 13, 17, 133, 134, 137] [0, 1, 2, 3, 8] (st 163 [(11, iv r1.1), (13, .func (.func 44) ⟨[]⟩ ⟨[pt 3 0, pt 1 0, pt 2 0]⟩), (17, accV 8 r35.1.length), (133, .bool false), (134, iv r39.1), (137, iv o50)]) (H13_15 p3 p0 p1 r35) (TI.ra 4 [13, 17, 141] (st 163 [(13, .func (.func 44) ⟨[]⟩ ⟨[pt 3 0, pt 1 0, pt 2 0]⟩), (17, accV 8 r35.1.length), (141, .bool (r39.1 != (w64 (o50 - r1.1))))]) ?_))))))))
   exact TI.dn hK
 rcases Bool.eq_false_or_eq_true (r1.2 != 0) with hc3 | hc3
 · replace hm88 := of_pos hm88 hc3
   have hm88 := sj hm88
   subst hm88
   exact TS.rg (TI.ra 1 [2, 7, 9, 10, 11, 40] (S13_42 p2 r1) (TI.o { val := .bool true } (q_conv (e := r1.2 != 0) (b := true) (by kernel_rfl) hc3) [2, 7, 9, 10, 11, 41] [0, 1, 2, 3] (st 163 [(2, .int .u8 p2), (7, pt 1 0), (9, pt 2 0), (10, pt 3 0), (11, iv r1.1), (41, .bool true)]) (H13_35 p3 p0 p1) (TI.ra 8 [2, 7, 9, 10, 11, 49] (st 163 [(2, .int .u8 p2), (7, pt 1 0), (9, pt 2 0), (10, pt 3 0), (11, iv r1.1), (49, .bool true)]) (TI.dn hK))))
 replace hm88 := of_neg hm88 hc3
 rcases Bool.eq_false_or_eq_true (decide (r1.1 < 1)) with hc4 | hc4
 · replace hm88 := of_pos hm88 hc4
   have hm88 := sj hm88
   subst hm88
   exact TS.rg (TI.ra 1 [2, 7, 9, 10, 11, 40] (S13_42 p2 r1) (TI.o { val := .bool false } (q_conv (e := r1.2 != 0) (b := false) (by kernel_rfl) hc3) [2, 7, 9, 10, 11, 41] [0, 1, 2, 3] (st 163 [(2, .int .u8 p2), (7, pt 1 0), (9, pt 2 0), (10, pt 3 0), (11, iv r1.1), (41, .bool false)]) (H13_35 p3 p0 p1) (TI.ra 2 [2, 7, 9, 10, 11, 42, 43] (st 163 [(2, .int .u8 p2), (7, pt 1 0), (9, pt 2 0), (10, pt 3 0), (11, iv r1.1), (42, .bool false), (43, iv r1.1)]) (TI.o { val := .bool true } (q_conv (e := decide (r1.1 < 1)) (b := true) (by kernel_rfl) hc4) [2, 7, 9, 10, 11, 42, 44] [0, 1, 2, 3] (st 163 [(2, .int .u8 p2), (7, pt 1 0), (9, pt 2 0), (10, pt 3 0), (11, iv r1.1), (42, .bool false), (44, .bool true)]) (H13_35 p3 p0 p1) (TI.ra 5 [2, 7, 9, 10, 11, 49] (st 163 [(2, .int .u8 p2), (7, pt 1 0), (9, pt 2 0), (10, pt 3 0), (11, iv r1.1), (49, .bool true)]) (TI.dn hK))))))
 replace hm88 := of_neg hm88 hc4
 have hm88 := sj hm88
 subst hm88
 exact TS.rg (TI.ra 1 [2, 7, 9, 10, 11, 40] (S13_42 p2 r1) (TI.o { val := .bool false } (q_conv (e := r1.2 != 0) (b := false) (by kernel_rfl) hc3) [2, 7, 9, 10, 11, 41] [0, 1, 2, 3] (st 163 [(2, .int .u8 p2), (7, pt 1 0), (9, pt 2 0), (10, pt 3 0), (11, iv r1.1), (41, .bool false)]) (H13_35 p3 p0 p1) (TI.ra 2 [2, 7, 9, 10, 11, 42, 43] (st 163 [(2, .int .u8 p2), (7, pt 1 0), (9, pt 2 0), (10, pt 3 0), (11, iv r1.1), (42, .bool false), (43, iv r1.1)]) (TI.o { val := .bool false } (q_conv (e := decide (r1.1 < 1)) (b := false) (by kernel_rfl) hc4) [2, 7, 9, 10, 11, 42, 44] [0, 1, 2, 3] (st 163 [(2, .int .u8 p2), (7, pt 1 0), (9, pt 2 0), (10, pt 3 0), (11, iv r1.1), (42, .bool false), (44, .bool false)]) (H13_35 p3 p0 p1) (TI.ra 5 [2, 7, 9, 10, 11, 49] (st 163 [(2, .int .u8 p2), (7, pt 1 0), (9, pt 2 0), (10, pt 3 0), (11, iv r1.1), (49, .bool (decide (r1.1 > 24)))]) (TI.dn hK))))))
theorem C13 (p0 p1 p2 : Int) (p3 : List Int) (r : Bool) (hF : F13 p0 p1 p2 p3 = some r) : PureSim Try.prog 13 [.int .u8 p0, .int .u8 p1, .int .u8 p2, sv 0 p3.length ANY] [ab 5 e5 p3] (V13 1 r) (N13 1 r) :=
 PureSim.of_Fin Try.func13 (c := c13) (by kernel_rfl) (by kernel_rfl) 1 rfl [0, 1, 2, 3] [0] (by kernel_rfl) (B13 p0 p1 p2 p3 r hF)
end
end Go.Proofs.Ytdekbjfjbbdjgaa
