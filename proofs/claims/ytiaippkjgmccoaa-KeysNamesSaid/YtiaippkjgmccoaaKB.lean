/- What functions of the program compute, and that they do. -/
import Derived.Test.YtiaippkjgmccoaaKA
set_option linter.unusedVariables false
set_option linter.unusedSimpArgs false
set_option maxRecDepth 100000
set_option maxHeartbeats 4000000
namespace Go.Proofs.Ytiaippkjgmccoaa
open Go Go.Cl
noncomputable section
def e3 (x : Int) : List Value := [.int .i64 x]
noncomputable def c24 : Code := Try.f24.code
def S24_0 (p0 : (List Bool)) (p1 : (List Bool)) : CAct := (st 26 [(0, sv 0 p0.length ANY), (1, sv 1 p1.length ANY), (5, iv 0)])
def H24_1 (p0 : (List Bool)) (p1 : (List Bool)) : List Blk := [ab 4 e4 p0, ab 4 e4 p1]
def F24l0 (p0 : (List Bool)) (p1 : (List Bool)) (v10 : Int) : Option (Unit ⊕ Unit) :=
 if decide (v10 < (p0.length : Int)) then
  if (0 : Int) ≤ v10 ∧ v10 < (p0.length : Int) then
   some (List.getD p0 (Int.toNat v10) false) >>= fun o22 =>
   if (0 : Int) ≤ v10 ∧ v10 < (p1.length : Int) then
    some (List.getD p1 (Int.toNat v10) false) >>= fun o25 =>
    if !(o22 == o25) then
     some (.inl ())
    else
     F24l0 p0 p1 (w64 (v10 + 1))
   else none
  else none
 else
  some (.inr ())
 partial_fixpoint
def F24 (p0 : (List Bool)) (p1 : (List Bool)) : Option Bool :=
 if (p0.length : Int) != (p1.length : Int) then
  some false
 else
  F24l0 p0 p1 0 >>= fun r28 =>
  match r28 with
  | .inl o30 =>
   some false
  | .inr o31 =>
   some true
def V24 (b : Nat) (r : Bool) : Value := .bool r
def N24 (b : Nat) (r : Bool) : List Blk := []
def P24l0 (p0 : (List Bool)) (p1 : (List Bool)) (r : (Unit ⊕ Unit)) : Post := fun e a h => (match r with | .inl q0 => e = .ret ∧ Wk Try.prog 2 2 a h (st 26 [(4, .bool false)]) (H24_1 p0 p1) | .inr q0 => e = .exit 0 ∧ Wk Try.prog 2 2 a h (st 26 []) (H24_1 p0 p1))
theorem L24l0 (p0 : (List Bool)) (p1 : (List Bool)) (v10 : Int) (r : (Unit ⊕ Unit)) (hF : F24l0 p0 p1 v10 = some r) : TL Try.prog 2 2 c24.s2.s2.s1.s2.bd.bd (st 26 [(0, sv 0 p0.length ANY), (1, sv 1 p1.length ANY), (5, iv v10)]) (H24_1 p0 p1) (P24l0 p0 p1 r) := by
 refine F24l0.partial_correctness p0 p1 (motive := fun v10 r => TL Try.prog 2 2 c24.s2.s2.s1.s2.bd.bd (st 26 [(0, sv 0 p0.length ANY), (1, sv 1 p1.length ANY), (5, iv v10)]) (H24_1 p0 p1) (P24l0 p0 p1 r)) ?_ v10 r hF
 clear hF r v10
 intro again ih v10 r hF
 refine TL.round (TS.sq (TS.sq (TS.rg (TI.ra 4 [0, 1, 5, 14] (st 26 [(0, sv 0 p0.length ANY), (1, sv 1 p1.length ANY), (5, iv v10), (14, .bool (decide (v10 < (p0.length : Int))))]) (TI.dn (NX.sq ?_))))))
 refine TS.cd (.tmp 14) (decide (v10 < (p0.length : Int))) (fun hc20 => ?_) (fun hc20 => ?_)
 · replace hF := of_pos hF hc20
   refine TS.sk (NX.sq (TS.sq (TS.bk 1 (TS.sq ?_))))
   have hX := of_guard hF
   clear hF
   obtain ⟨hg21, hF⟩ := hX
   have hX := of_do hF
   clear hF
   obtain ⟨o22, h23, hF⟩ := hX
   replace h23 := Option.some.inj h23
   have hX := of_guard hF
   clear hF
   obtain ⟨hg24, hF⟩ := hX
   have hX := of_do hF
   clear hF
   obtain ⟨o25, h26, hF⟩ := hX
   replace h26 := Option.some.inj h26
   refine TS.dp [] (fun e he => by cases he) mixed 8 [0, 1, 5, 25] [0, 1] (st 26 [(0, sv 0 p0.length ANY), (1, sv 1 p1.length ANY), (5, iv v10), (25, .bool (!(o22 == o25)))]) (H24_1 p0 p1) ?_ ?_
   · exact QJ.rn (qs (st 26 [(0, sv 0 p0.length ANY), (1, sv 1 p1.length ANY), (5, iv v10), (14, .bool (decide (v10 < (p0.length : Int)))), (17, sv 0 p0.length ANY), (18, iv v10)]) (H24_1 p0 p1) [] []) 2 (QJ.o { val := .pointer (some ⟨0, 0 + (Int.toNat v10) * 1, none⟩) } (q_ixS 0 0 ((Int.toNat v10) * 1) (by kernel_rfl) hg21) (QJ.o { val := .bool o22 } (q_n1a Try.prog (H24_1 p0 p1) 4 0 (0 + (Int.toNat v10) * 1) p0 e4 1 4 (Int.toNat v10) 0 false h23) (QJ.rn (qs (st 26 [(0, sv 0 p0.length ANY), (1, sv 1 p1.length ANY), (5, iv v10), (14, .bool (decide (v10 < (p0.length : Int)))), (17, sv 0 p0.length ANY), (18, iv v10), (19, .pointer (some ⟨0, 0 + (Int.toNat v10) * 1, none⟩)), (20, .bool o22), (21, sv 1 p1.length ANY), (22, iv v10)]) (H24_1 p0 p1) [] []) 2 (QJ.o { val := .pointer (some ⟨1, 0 + (Int.toNat v10) * 1, none⟩) } (q_ixS 1 0 ((Int.toNat v10) * 1) (by kernel_rfl) hg24) (QJ.o { val := .bool o25 } (q_n1a Try.prog (H24_1 p0 p1) 4 1 (0 + (Int.toNat v10) * 1) p1 e4 1 4 (Int.toNat v10) 0 false h26) (QJ.dn ⟨rfl, SJ.la⟩))))))
   refine TS.cd (.tmp 25) (!(o22 == o25)) (fun hc27 => ?_) (fun hc27 => ?_)
   · replace hF := of_pos hF hc27
     refine TS.sq (TS.rg (TI.ra 1 [4] (st 26 [(4, .bool false)]) (TI.dn (NX.sq (TS.rt (NX.bkR (NX.sqR ?_)))))))
     have hF := Option.some.inj hF
     subst hF
     exact Rd.out (e := .ret) (by intro h; cases h) (And.intro rfl (Wk.an [] (.ac (.ac (.nil _))) [.bool false] (.fl .nil)))
   replace hF := of_neg hF hc27
   refine TS.sk (NX.bk (NX.sq (TS.rg (TI.ra 3 [0, 1, 5] (st 26 [(0, sv 0 p0.length ANY), (1, sv 1 p1.length ANY), (5, iv (w64 (v10 + 1)))]) (TI.dn ?_)))))
   exact Rd.again (a2 := (st 26 [(0, sv 0 p0.length ANY), (1, sv 1 p1.length ANY), (5, iv (w64 (v10 + 1)))])) (h2 := (H24_1 p0 p1)) (Wk.an [] (.ac (.ac (.nil _))) [sv 0 p0.length ANY, sv 1 p1.length ANY, iv (w64 (v10 + 1))] (.sl (.sl (.fl .nil)))) (ih (w64 (v10 + 1)) _ hF)
 replace hF := of_neg hF hc20
 refine TS.ex 0 (NX.sqX ?_)
 have hF := Option.some.inj hF
 subst hF
 exact Rd.out (e := .exit 0) (by intro h; cases h) (And.intro rfl (Wk.an [] (.ac (.ac (.nil _))) [] .nil))
theorem B24 (p0 : (List Bool)) (p1 : (List Bool)) (r : Bool) (hF : F24 p0 p1 = some r) : TS Try.prog 2 2 c24 (st 26 [(0, sv 0 p0.length ANY), (1, sv 1 p1.length ANY)]) (H24_1 p0 p1) (NX Try.prog 2 2 [] (FinP Try.prog Try.f24 2 (V24 2 r) (N24 2 r))) := by
 unfold F24 at hF
 refine TS.sq (TS.rg (TI.ra 1 [0, 1] (st 26 [(0, sv 0 p0.length ANY), (1, sv 1 p1.length ANY)]) (TI.dn (NX.sq (TS.sq (TS.sq (TS.rg (TI.ra 5 [0, 1, 10] (st 26 [(0, sv 0 p0.length ANY), (1, sv 1 p1.length ANY), (10, .bool ((p0.length : Int) != (p1.length : Int)))]) ?_))))))))
 refine TI.dn (NX.sq ?_)
 refine TS.cd (.tmp 10) ((p0.length : Int) != (p1.length : Int)) (fun hc1 => ?_) (fun hc1 => ?_)
 · replace hF := of_pos hF hc1
   refine TS.sq (TS.rg (TI.ra 1 [4] (st 26 [(4, .bool false)]) (TI.dn (NX.sq (TS.rt (NX.sqR ?_))))))
   have hF := Option.some.inj hF
   subst hF
   exact ⟨.inr rfl, rfl, .bool false, by kernel_rfl, WkV.flat0 (by kernel_rfl) (Nat.le_of_ble_eq_true rfl)⟩
 replace hF := of_neg hF hc1
 refine TS.sk (NX.sq (TS.sq (TS.sq (TS.rg (TI.ra 1 [0, 1, 5] (S24_0 p0 p1) (TI.dn (NX.sq (TS.bk 0 ?_))))))))
 have hX := of_do hF
 clear hF
 obtain ⟨r28, h29, hF⟩ := hX
 refine TS.lp (TL.weak (a2 := (S24_0 p0 p1)) (h2 := (H24_1 p0 p1)) (Wk.an [] (.ac (.ac (.nil _))) [sv 0 p0.length ANY, sv 1 p1.length ANY, iv 0] (.sl (.sl (.fl .nil)))) (TL.post (L24l0 p0 p1 0 r28 h29) ?_))
 rintro e a1 h1 hp
 rcases r28 with o30 | o31
 · skip
   obtain ⟨rfl, hw⟩ := hp
   refine ⟨(st 26 [(4, .bool false)]), (H24_1 p0 p1), (NX.bkR (NX.sqR ?_)), hw⟩
   have hF := Option.some.inj hF
   subst hF
   exact ⟨.inr rfl, rfl, .bool false, by kernel_rfl, WkV.flat0 (by kernel_rfl) (Nat.le_of_ble_eq_true rfl)⟩
 skip
 obtain ⟨rfl, hw⟩ := hp
 refine ⟨(st 26 []), (H24_1 p0 p1), (NX.bkX (NX.sq (TS.sq (TS.rg (TI.ra 1 [4] (st 26 [(4, .bool true)]) (TI.dn (NX.sq (TS.rt ?_)))))))), hw⟩
 have hF := Option.some.inj hF
 subst hF
 exact ⟨.inr rfl, rfl, .bool true, by kernel_rfl, WkV.flat0 (by kernel_rfl) (Nat.le_of_ble_eq_true rfl)⟩
theorem C24 (p0 : (List Bool)) (p1 : (List Bool)) (r : Bool) (hF : F24 p0 p1 = some r) : PureSim Try.prog 24 [sv 0 p0.length ANY, sv 1 p1.length ANY] (H24_1 p0 p1) (V24 2 r) (N24 2 r) :=
 PureSim.of_Fin Try.func24 (c := c24) (by kernel_rfl) (by kernel_rfl) 2 rfl [0, 1] [0, 1] (by kernel_rfl) (B24 p0 p1 r hF)
noncomputable def c25 : Code := Try.f25.code
def S25_0 (p0 : (List Int)) (p1 : (List Int)) : CAct := (st 26 [(0, sv 0 p0.length ANY), (1, sv 1 p1.length ANY), (5, iv 0)])
def H25_1 (p0 : (List Int)) (p1 : (List Int)) : List Blk := [ab 3 e3 p0, ab 3 e3 p1]
def F25l0 (p0 : (List Int)) (p1 : (List Int)) (v10 : Int) : Option (Unit ⊕ Unit) :=
 if decide (v10 < (p0.length : Int)) then
  if (0 : Int) ≤ v10 ∧ v10 < (p0.length : Int) then
   some (List.getD p0 (Int.toNat v10) 0) >>= fun o22 =>
   if (0 : Int) ≤ v10 ∧ v10 < (p1.length : Int) then
    some (List.getD p1 (Int.toNat v10) 0) >>= fun o25 =>
    if o22 != o25 then
     some (.inl ())
    else
     F25l0 p0 p1 (w64 (v10 + 1))
   else none
  else none
 else
  some (.inr ())
 partial_fixpoint
def F25 (p0 : (List Int)) (p1 : (List Int)) : Option Bool :=
 if (p0.length : Int) != (p1.length : Int) then
  some false
 else
  F25l0 p0 p1 0 >>= fun r28 =>
  match r28 with
  | .inl o30 =>
   some false
  | .inr o31 =>
   some true
def V25 (b : Nat) (r : Bool) : Value := .bool r
def N25 (b : Nat) (r : Bool) : List Blk := []
def P25l0 (p0 : (List Int)) (p1 : (List Int)) (r : (Unit ⊕ Unit)) : Post := fun e a h => (match r with | .inl q0 => e = .ret ∧ Wk Try.prog 2 2 a h (st 26 [(4, .bool false)]) (H25_1 p0 p1) | .inr q0 => e = .exit 0 ∧ Wk Try.prog 2 2 a h (st 26 []) (H25_1 p0 p1))
theorem L25l0 (p0 : (List Int)) (p1 : (List Int)) (v10 : Int) (r : (Unit ⊕ Unit)) (hF : F25l0 p0 p1 v10 = some r) : TL Try.prog 2 2 c25.s2.s2.s1.s2.bd.bd (st 26 [(0, sv 0 p0.length ANY), (1, sv 1 p1.length ANY), (5, iv v10)]) (H25_1 p0 p1) (P25l0 p0 p1 r) := by
 refine F25l0.partial_correctness p0 p1 (motive := fun v10 r => TL Try.prog 2 2 c25.s2.s2.s1.s2.bd.bd (st 26 [(0, sv 0 p0.length ANY), (1, sv 1 p1.length ANY), (5, iv v10)]) (H25_1 p0 p1) (P25l0 p0 p1 r)) ?_ v10 r hF
 clear hF r v10
 intro again ih v10 r hF
 refine TL.round (TS.sq (TS.sq (TS.rg (TI.ra 4 [0, 1, 5, 14] (st 26 [(0, sv 0 p0.length ANY), (1, sv 1 p1.length ANY), (5, iv v10), (14, .bool (decide (v10 < (p0.length : Int))))]) (TI.dn (NX.sq ?_))))))
 refine TS.cd (.tmp 14) (decide (v10 < (p0.length : Int))) (fun hc20 => ?_) (fun hc20 => ?_)
 · replace hF := of_pos hF hc20
   refine TS.sk (NX.sq (TS.sq (TS.bk 1 (TS.sq ?_))))
   have hX := of_guard hF
   clear hF
   obtain ⟨hg21, hF⟩ := hX
   have hX := of_do hF
   clear hF
   obtain ⟨o22, h23, hF⟩ := hX
   replace h23 := Option.some.inj h23
   have hX := of_guard hF
   clear hF
   obtain ⟨hg24, hF⟩ := hX
   have hX := of_do hF
   clear hF
   obtain ⟨o25, h26, hF⟩ := hX
   replace h26 := Option.some.inj h26
   refine TS.dp [] (fun e he => by cases he) mixed 8 [0, 1, 5, 25] [0, 1] (st 26 [(0, sv 0 p0.length ANY), (1, sv 1 p1.length ANY), (5, iv v10), (25, .bool (o22 != o25))]) (H25_1 p0 p1) ?_ ?_
   · exact QJ.rn (qs (st 26 [(0, sv 0 p0.length ANY), (1, sv 1 p1.length ANY), (5, iv v10), (14, .bool (decide (v10 < (p0.length : Int)))), (17, sv 0 p0.length ANY), (18, iv v10)]) (H25_1 p0 p1) [] []) 2 (QJ.o { val := .pointer (some ⟨0, 0 + (Int.toNat v10) * 1, none⟩) } (q_ixS 0 0 ((Int.toNat v10) * 1) (by kernel_rfl) hg21) (QJ.o { val := iv o22 } (q_n1a Try.prog (H25_1 p0 p1) 3 0 (0 + (Int.toNat v10) * 1) p0 e3 1 3 (Int.toNat v10) 0 0 h23) (QJ.rn (qs (st 26 [(0, sv 0 p0.length ANY), (1, sv 1 p1.length ANY), (5, iv v10), (14, .bool (decide (v10 < (p0.length : Int)))), (17, sv 0 p0.length ANY), (18, iv v10), (19, .pointer (some ⟨0, 0 + (Int.toNat v10) * 1, none⟩)), (20, iv o22), (21, sv 1 p1.length ANY), (22, iv v10)]) (H25_1 p0 p1) [] []) 2 (QJ.o { val := .pointer (some ⟨1, 0 + (Int.toNat v10) * 1, none⟩) } (q_ixS 1 0 ((Int.toNat v10) * 1) (by kernel_rfl) hg24) (QJ.o { val := iv o25 } (q_n1a Try.prog (H25_1 p0 p1) 3 1 (0 + (Int.toNat v10) * 1) p1 e3 1 3 (Int.toNat v10) 0 0 h26) (QJ.dn ⟨rfl, SJ.la⟩))))))
   refine TS.cd (.tmp 25) (o22 != o25) (fun hc27 => ?_) (fun hc27 => ?_)
   · replace hF := of_pos hF hc27
     refine TS.sq (TS.rg (TI.ra 1 [4] (st 26 [(4, .bool false)]) (TI.dn (NX.sq (TS.rt (NX.bkR (NX.sqR ?_)))))))
     have hF := Option.some.inj hF
     subst hF
     exact Rd.out (e := .ret) (by intro h; cases h) (And.intro rfl (Wk.an [] (.ac (.ac (.nil _))) [.bool false] (.fl .nil)))
   replace hF := of_neg hF hc27
   refine TS.sk (NX.bk (NX.sq (TS.rg (TI.ra 3 [0, 1, 5] (st 26 [(0, sv 0 p0.length ANY), (1, sv 1 p1.length ANY), (5, iv (w64 (v10 + 1)))]) (TI.dn ?_)))))
   exact Rd.again (a2 := (st 26 [(0, sv 0 p0.length ANY), (1, sv 1 p1.length ANY), (5, iv (w64 (v10 + 1)))])) (h2 := (H25_1 p0 p1)) (Wk.an [] (.ac (.ac (.nil _))) [sv 0 p0.length ANY, sv 1 p1.length ANY, iv (w64 (v10 + 1))] (.sl (.sl (.fl .nil)))) (ih (w64 (v10 + 1)) _ hF)
 replace hF := of_neg hF hc20
 refine TS.ex 0 (NX.sqX ?_)
 have hF := Option.some.inj hF
 subst hF
 exact Rd.out (e := .exit 0) (by intro h; cases h) (And.intro rfl (Wk.an [] (.ac (.ac (.nil _))) [] .nil))
theorem B25 (p0 : (List Int)) (p1 : (List Int)) (r : Bool) (hF : F25 p0 p1 = some r) : TS Try.prog 2 2 c25 (st 26 [(0, sv 0 p0.length ANY), (1, sv 1 p1.length ANY)]) (H25_1 p0 p1) (NX Try.prog 2 2 [] (FinP Try.prog Try.f25 2 (V25 2 r) (N25 2 r))) := by
 unfold F25 at hF
 refine TS.sq (TS.rg (TI.ra 1 [0, 1] (st 26 [(0, sv 0 p0.length ANY), (1, sv 1 p1.length ANY)]) (TI.dn (NX.sq (TS.sq (TS.sq (TS.rg (TI.ra 5 [0, 1, 10] (st 26 [(0, sv 0 p0.length ANY), (1, sv 1 p1.length ANY), (10, .bool ((p0.length : Int) != (p1.length : Int)))]) ?_))))))))
 refine TI.dn (NX.sq ?_)
 refine TS.cd (.tmp 10) ((p0.length : Int) != (p1.length : Int)) (fun hc1 => ?_) (fun hc1 => ?_)
 · replace hF := of_pos hF hc1
   refine TS.sq (TS.rg (TI.ra 1 [4] (st 26 [(4, .bool false)]) (TI.dn (NX.sq (TS.rt (NX.sqR ?_))))))
   have hF := Option.some.inj hF
   subst hF
   exact ⟨.inr rfl, rfl, .bool false, by kernel_rfl, WkV.flat0 (by kernel_rfl) (Nat.le_of_ble_eq_true rfl)⟩
 replace hF := of_neg hF hc1
 refine TS.sk (NX.sq (TS.sq (TS.sq (TS.rg (TI.ra 1 [0, 1, 5] (S25_0 p0 p1) (TI.dn (NX.sq (TS.bk 0 ?_))))))))
 have hX := of_do hF
 clear hF
 obtain ⟨r28, h29, hF⟩ := hX
 refine TS.lp (TL.weak (a2 := (S25_0 p0 p1)) (h2 := (H25_1 p0 p1)) (Wk.an [] (.ac (.ac (.nil _))) [sv 0 p0.length ANY, sv 1 p1.length ANY, iv 0] (.sl (.sl (.fl .nil)))) (TL.post (L25l0 p0 p1 0 r28 h29) ?_))
 rintro e a1 h1 hp
 rcases r28 with o30 | o31
 · skip
   obtain ⟨rfl, hw⟩ := hp
   refine ⟨(st 26 [(4, .bool false)]), (H25_1 p0 p1), (NX.bkR (NX.sqR ?_)), hw⟩
   have hF := Option.some.inj hF
   subst hF
   exact ⟨.inr rfl, rfl, .bool false, by kernel_rfl, WkV.flat0 (by kernel_rfl) (Nat.le_of_ble_eq_true rfl)⟩
 skip
 obtain ⟨rfl, hw⟩ := hp
 refine ⟨(st 26 []), (H25_1 p0 p1), (NX.bkX (NX.sq (TS.sq (TS.rg (TI.ra 1 [4] (st 26 [(4, .bool true)]) (TI.dn (NX.sq (TS.rt ?_)))))))), hw⟩
 have hF := Option.some.inj hF
 subst hF
 exact ⟨.inr rfl, rfl, .bool true, by kernel_rfl, WkV.flat0 (by kernel_rfl) (Nat.le_of_ble_eq_true rfl)⟩
theorem C25 (p0 : (List Int)) (p1 : (List Int)) (r : Bool) (hF : F25 p0 p1 = some r) : PureSim Try.prog 25 [sv 0 p0.length ANY, sv 1 p1.length ANY] (H25_1 p0 p1) (V25 2 r) (N25 2 r) :=
 PureSim.of_Fin Try.func25 (c := c25) (by kernel_rfl) (by kernel_rfl) 2 rfl [0, 1] [0, 1] (by kernel_rfl) (B25 p0 p1 r hF)
noncomputable def c62 : Code := Try.f62.code
def H62_0 (p2 : (List Bool)) (p0 : Int) (p1 : Bool) : List Blk := [ab 4 e4 p2, cl 50 [iv p0, .bool p1]]
def F62 (p0 : Int) (p1 : Bool) (p2 : (List Bool)) : Option Bool :=
 if (0 : Int) ≤ p0 ∧ p0 < (p2.length : Int) then
  some (List.getD p2 (Int.toNat p0) false) >>= fun o2 =>
  some (o2 == p1)
 else none
def V62 (b : Nat) (r : Bool) : Value := .bool r
def N62 (b : Nat) (r : Bool) : List Blk := []
theorem B62 (p0 : Int) (p1 : Bool) (p2 : (List Bool)) (r : Bool) (hF : F62 p0 p1 p2 = some r) : TS Try.prog 1 1 c62 (st 13 [(0, ag [iv p0, .bool p1]), (1, sv 0 p2.length ANY)]) [ab 4 e4 p2] (NX Try.prog 1 1 [] (FinP Try.prog Try.f62 1 (V62 1 r) (N62 1 r))) := by
 unfold F62 at hF
 refine TS.sq (TS.rg (TI.rn 2 [1, 2] [0, 1] (st 13 [(1, sv 0 p2.length ANY), (2, pt 1 0)]) (H62_0 p2 p0 p1) (TI.dn (NX.sq (TS.sq ?_)))))
 have hX := of_guard hF
 clear hF
 obtain ⟨hg1, hF⟩ := hX
 have hX := of_do hF
 clear hF
 obtain ⟨o2, h3, hF⟩ := hX
 replace h3 := Option.some.inj h3
 refine TS.dp [] (fun e he => by cases he) mixed 7 [4] [0] (st 13 [(4, .bool (o2 == p1))]) [ab 4 e4 p2, .dead] ?_ ?_
 · exact QJ.rn (qs (st 13 [(1, sv 0 p2.length ANY), (2, pt 1 0), (5, sv 0 p2.length ANY), (6, pt 1 0), (7, iv p0)]) (H62_0 p2 p0 p1) [] []) 3 (QJ.o { val := .pointer (some ⟨0, 0 + (Int.toNat p0) * 1, none⟩) } (q_ixS 0 0 ((Int.toNat p0) * 1) (by kernel_rfl) hg1) (QJ.o { val := .bool o2 } (q_n1a Try.prog (H62_0 p2 p0 p1) 4 0 (0 + (Int.toNat p0) * 1) p2 e4 1 4 (Int.toNat p0) 0 false h3) (QJ.rn (qs (st 13 [(1, sv 0 p2.length ANY), (2, pt 1 0), (5, sv 0 p2.length ANY), (6, pt 1 0), (7, iv p0), (8, .pointer (some ⟨0, 0 + (Int.toNat p0) * 1, none⟩)), (9, .bool o2), (10, pt 1 1), (11, .bool p1)]) (H62_0 p2 p0 p1) [] []) 2 (QJ.dn ⟨rfl, SJ.la⟩))))
 refine TS.rt ?_
 have hF := Option.some.inj hF
 subst hF
 exact ⟨.inr rfl, rfl, .bool (o2 == p1), by kernel_rfl, WkV.flat0 (by kernel_rfl) (Nat.le_of_ble_eq_true rfl)⟩
theorem C62 (p0 : Int) (p1 : Bool) (p2 : (List Bool)) (r : Bool) (hF : F62 p0 p1 p2 = some r) : PureSim Try.prog 62 [ag [iv p0, .bool p1], sv 0 p2.length ANY] [ab 4 e4 p2] (V62 1 r) (N62 1 r) :=
 PureSim.of_Fin Try.func62 (c := c62) (by kernel_rfl) (by kernel_rfl) 1 rfl [0, 1] [0] (by kernel_rfl) (B62 p0 p1 p2 r hF)
end
end Go.Proofs.Ytiaippkjgmccoaa
