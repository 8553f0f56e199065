/- What functions of the program compute, and that they do. -/
import Derived.Test.YtiaippkjgmccoaaKC
set_option linter.unusedVariables false
set_option linter.unusedSimpArgs false
set_option maxRecDepth 100000
set_option maxHeartbeats 4000000
namespace Go.Proofs.Ytiaippkjgmccoaa
open Go Go.Cl
noncomputable section
noncomputable def c59 : Code := Try.f59.code
def H59_0 (p1 : (List ((Int × Bool) × (Int × Bool)))) (p2 : (List (Int × Bool))) (p0 : Int) : List Blk := [ab 93 e93 p1, ab 55 e55 p2, cl 30 [iv p0, sv 0 p1.length ANY]]
def H59_1 (p1 : (List ((Int × Bool) × (Int × Bool)))) (p2 : (List (Int × Bool))) : List Blk := [ab 93 e93 p1, ab 55 e55 p2, .dead]
def H59_2 (p1 : (List ((Int × Bool) × (Int × Bool)))) (p2 : (List (Int × Bool))) : List Blk := [ab 93 e93 p1, ab 55 e55 p2]
def F59l0 (p0 : Int) (p1 : (List ((Int × Bool) × (Int × Bool)))) (p2 : (List (Int × Bool))) (v12 : Int) : Option (Unit ⊕ Unit) :=
 if decide (v12 < (p2.length : Int)) then
  if (0 : Int) ≤ v12 ∧ v12 < (p2.length : Int) then
   some (List.getD p2 (Int.toNat v12) (0, false)) >>= fun o23 =>
   F65 p0 p1 o23.1 o23.2 >>= fun r25 =>
   if !r25 then
    some (.inl ())
   else
    F59l0 p0 p1 p2 (w64 (v12 + 1))
  else none
 else
  some (.inr ())
 partial_fixpoint
def F59 (p0 : Int) (p1 : (List ((Int × Bool) × (Int × Bool)))) (p2 : (List (Int × Bool))) : Option Int :=
 F27 p0 p1 >>= fun r1 =>
 if r1 != 0 then
  some r1
 else
  if decide ((p2.length : Int) > 24) then
   some 3
  else
   F59l0 p0 p1 p2 0 >>= fun r28 =>
   match r28 with
   | .inl o30 =>
    some 6
   | .inr o31 =>
    some 0
def V59 (b : Nat) (r : Int) : Value := iv r
def N59 (b : Nat) (r : Int) : List Blk := []
def P59l0 (p0 : Int) (p1 : (List ((Int × Bool) × (Int × Bool)))) (p2 : (List (Int × Bool))) (r : (Unit ⊕ Unit)) : Post := fun e a h => (match r with | .inl q0 => e = .ret ∧ Wk Try.prog 2 2 a h (st 28 [(4, iv 6)]) (H59_2 p1 p2) | .inr q0 => e = .exit 0 ∧ Wk Try.prog 2 2 a h (st 28 []) (H59_2 p1 p2))
theorem L59l0 (p0 : Int) (p1 : (List ((Int × Bool) × (Int × Bool)))) (p2 : (List (Int × Bool))) (v12 : Int) (r : (Unit ⊕ Unit)) (hF : F59l0 p0 p1 p2 v12 = some r) : TL Try.prog 2 2 c59.s2.s2.s2.s2.s1.s2.bd.bd (st 28 [(1, sv 1 p2.length ANY), (2, pt 2 0), (6, iv v12)]) (H59_0 p1 p2 p0) (P59l0 p0 p1 p2 r) := by
 refine F59l0.partial_correctness p0 p1 p2 (motive := fun v12 r => TL Try.prog 2 2 c59.s2.s2.s2.s2.s1.s2.bd.bd (st 28 [(1, sv 1 p2.length ANY), (2, pt 2 0), (6, iv v12)]) (H59_0 p1 p2 p0) (P59l0 p0 p1 p2 r)) ?_ v12 r hF
 clear hF r v12
 intro again ih v12 r hF
 refine TL.round (TS.sq (TS.sq (TS.rg (TI.ra 4 [1, 2, 6, 18] (st 28 [(1, sv 1 p2.length ANY), (2, pt 2 0), (6, iv v12), (18, .bool (decide (v12 < (p2.length : Int))))]) (TI.dn (NX.sq ?_))))))
 refine TS.cd (.tmp 18) (decide (v12 < (p2.length : Int))) (fun hc21 => ?_) (fun hc21 => ?_)
 · replace hF := of_pos hF hc21
   refine TS.sk (NX.sq (TS.sq (TS.bk 1 (TS.sq ?_))))
   have hX := of_guard hF
   clear hF
   obtain ⟨hg22, hF⟩ := hX
   have hX := of_do hF
   clear hF
   obtain ⟨o23, h24, hF⟩ := hX
   replace h24 := Option.some.inj h24
   have hX := of_do hF
   clear hF
   obtain ⟨r25, h26, hF⟩ := hX
   have hT : ∀ e ∈ ([⟨65, [ag [iv p0, sv 0 p1.length ANY], ag [iv o23.1, .bool o23.2]], (H59_0 p1 p2 p0), .bool r25, []⟩] : List Entry), PureSim Try.prog e.g e.args e.h e.v e.new := by
    intro e he
    simp only [List.mem_cons, List.not_mem_nil, or_false] at he
    rcases he with rfl
    exact (PureSim.ren (hc := [ab 93 e93 p1]) (fun i => List.getD [(0, 0)] i (0, 0)) (C65 _ _ _ _ _ h26) (.ac (.nil _)) (.cons (Rn.agg' (.fl (.cons (Rn.any _ _ _ _ _ _ (Nat.le_of_ble_eq_true rfl) rfl rfl (by decide)) .nil))) (.fl .nil)) (.flat (by kernel_rfl)) newflat_nil)
   refine TS.dp [⟨65, [ag [iv p0, sv 0 p1.length ANY], ag [iv o23.1, .bool o23.2]], (H59_0 p1 p2 p0), .bool r25, []⟩] hT mixed 5 [1, 2, 6, 27] [0, 1, 2] (st 28 [(1, sv 1 p2.length ANY), (2, pt 2 0), (6, iv v12), (27, .bool (!r25))]) (H59_0 p1 p2 p0) ?_ ?_
   · exact QJ.rn (qs (st 28 [(1, sv 1 p2.length ANY), (2, pt 2 0), (6, iv v12), (18, .bool (decide (v12 < (p2.length : Int)))), (21, ag [iv p0, sv 0 p1.length ANY]), (22, sv 1 p2.length ANY), (23, iv v12)]) (H59_0 p1 p2 p0) [] []) 3 (QJ.o { val := .pointer (some ⟨1, 0 + (Int.toNat v12) * 2, none⟩) } (q_ixS 1 0 ((Int.toNat v12) * 2) (by kernel_rfl) hg22) (QJ.o { val := ag [iv o23.1, .bool o23.2] } (q_nAa Try.prog (H59_0 p1 p2 p0) 55 1 (0 + (Int.toNat v12) * 2) p2 e55 2 55 (Int.toNat v12) (0, false) h24) (QJ.dn ⟨rfl, (SJ.o { val := .bool r25, new := [] } (qOf_call (g := 65) (args := [ag [iv p0, sv 0 p1.length ANY], ag [iv o23.1, .bool o23.2]]) (by kernel_rfl) lookC_hit) SJ.la)⟩)))
   refine TS.cd (.tmp 27) (!r25) (fun hc27 => ?_) (fun hc27 => ?_)
   · replace hF := of_pos hF hc27
     refine TS.sq (TS.rg (TI.rn 1 [4] [0, 1] (st 28 [(4, iv 6)]) (H59_1 p1 p2) (TI.dn (NX.sq (TS.rt (NX.bkR (NX.sqR ?_)))))))
     have hF := Option.some.inj hF
     subst hF
     exact Rd.out (e := .ret) (by intro h; cases h) (And.intro rfl (Wk.an [] (.ac (.ac (.nil _))) [iv 6] (.fl .nil)))
   replace hF := of_neg hF hc27
   refine TS.sk (NX.bk (NX.sq (TS.rg (TI.ra 3 [1, 2, 6] (st 28 [(1, sv 1 p2.length ANY), (2, pt 2 0), (6, iv (w64 (v12 + 1)))]) (TI.dn ?_)))))
   exact Rd.again (a2 := (st 28 [(1, sv 1 p2.length ANY), (2, pt 2 0), (6, iv (w64 (v12 + 1)))])) (h2 := (H59_0 p1 p2 p0)) (Wk.an [2] (.ac (.ac (.lt (.fl (.sl .nil)) (.nil _)))) [sv 1 p2.length ANY, pt 2 0, iv (w64 (v12 + 1))] (.sl (.pp (.fl .nil)))) (ih (w64 (v12 + 1)) _ hF)
 replace hF := of_neg hF hc21
 refine TS.ex 0 (NX.sqX ?_)
 have hF := Option.some.inj hF
 subst hF
 exact Rd.out (e := .exit 0) (by intro h; cases h) (And.intro rfl (Wk.an [] (.ac (.ac (.nil _))) [] .nil))
theorem B59 (p0 : Int) (p1 : (List ((Int × Bool) × (Int × Bool)))) (p2 : (List (Int × Bool))) (r : Int) (hF : F59 p0 p1 p2 = some r) : TS Try.prog 2 2 c59 (st 28 [(0, ag [iv p0, sv 0 p1.length ANY]), (1, sv 1 p2.length ANY)]) (H59_2 p1 p2) (NX Try.prog 2 2 [] (FinP Try.prog Try.f59 2 (V59 2 r) (N59 2 r))) := by
 unfold F59 at hF
 refine TS.sq (TS.rg (TI.rn 2 [1, 2] [0, 1, 2] (st 28 [(1, sv 1 p2.length ANY), (2, pt 2 0)]) (H59_0 p1 p2 p0) (TI.dn (NX.sq (TS.sq ?_)))))
 have hX := of_do hF
 clear hF
 obtain ⟨r1, h2, hF⟩ := hX
 refine TS.rg (TI.ra 1 [1, 2, 7] (st 28 [(1, sv 1 p2.length ANY), (2, pt 2 0), (7, ag [iv p0, sv 0 p1.length ANY])]) (TI.cp 27 [ag [iv p0, sv 0 p1.length ANY]] (iv r1) [] (PureSim.ren (hc := [ab 93 e93 p1]) (fun i => List.getD [(0, 0)] i (0, 0)) (C27 _ _ _ h2) (.ac (.nil _)) (.cons (Rn.agg' (.fl (.cons (Rn.any _ _ _ _ _ _ (Nat.le_of_ble_eq_true rfl) rfl rfl (by decide)) .nil))) .nil) (.flat (by kernel_rfl)) newflat_nil) (TI.ra 1 [1, 2, 5] (st 28 [(1, sv 1 p2.length ANY), (2, pt 2 0), (5, iv r1)]) (TI.dn (NX.sq (TS.sq (TS.sq (TS.rg ?_))))))))
 refine TI.ra 2 [1, 2, 5, 10] (st 28 [(1, sv 1 p2.length ANY), (2, pt 2 0), (5, iv r1), (10, .bool (r1 != 0))]) (TI.dn (NX.sq ?_))
 refine TS.cd (.tmp 10) (r1 != 0) (fun hc3 => ?_) (fun hc3 => ?_)
 · replace hF := of_pos hF hc3
   refine TS.sq (TS.rg (TI.rn 2 [4] [0, 1] (st 28 [(4, iv r1)]) (H59_1 p1 p2) (TI.dn (NX.sq (TS.rt (NX.sqR ?_))))))
   have hF := Option.some.inj hF
   subst hF
   exact ⟨.inr rfl, rfl, iv r1, by kernel_rfl, WkV.flat0 (by kernel_rfl) (Nat.le_of_ble_eq_true rfl)⟩
 replace hF := of_neg hF hc3
 refine TS.sk (NX.sq (TS.sq (TS.sq (TS.rg (TI.ra 3 [1, 2, 14] (st 28 [(1, sv 1 p2.length ANY), (2, pt 2 0), (14, .bool (decide ((p2.length : Int) > 24)))]) (TI.dn (NX.sq ?_)))))))
 refine TS.cd (.tmp 14) (decide ((p2.length : Int) > 24)) (fun hc4 => ?_) (fun hc4 => ?_)
 · replace hF := of_pos hF hc4
   refine TS.sq (TS.rg (TI.rn 1 [4] [0, 1] (st 28 [(4, iv 3)]) (H59_1 p1 p2) (TI.dn (NX.sq (TS.rt (NX.sqR ?_))))))
   have hF := Option.some.inj hF
   subst hF
   exact ⟨.inr rfl, rfl, iv 3, by kernel_rfl, WkV.flat0 (by kernel_rfl) (Nat.le_of_ble_eq_true rfl)⟩
 replace hF := of_neg hF hc4
 refine TS.sk (NX.sq (TS.sq (TS.sq (TS.rg (TI.ra 1 [1, 2, 6] (st 28 [(1, sv 1 p2.length ANY), (2, pt 2 0), (6, iv 0)]) (TI.dn (NX.sq (TS.bk 0 ?_))))))))
 have hX := of_do hF
 clear hF
 obtain ⟨r28, h29, hF⟩ := hX
 refine TS.lp (TL.weak (a2 := (st 28 [(1, sv 1 p2.length ANY), (2, pt 2 0), (6, iv 0)])) (h2 := (H59_0 p1 p2 p0)) (Wk.an [2] (.ac (.ac (.lt (.fl (.sl .nil)) (.nil _)))) [sv 1 p2.length ANY, pt 2 0, iv 0] (.sl (.pp (.fl .nil)))) (TL.post (L59l0 p0 p1 p2 0 r28 h29) ?_))
 rintro e a1 h1 hp
 rcases r28 with o30 | o31
 · skip
   obtain ⟨rfl, hw⟩ := hp
   refine ⟨(st 28 [(4, iv 6)]), (H59_2 p1 p2), (NX.bkR (NX.sqR ?_)), hw⟩
   have hF := Option.some.inj hF
   subst hF
   exact ⟨.inr rfl, rfl, iv 6, by kernel_rfl, WkV.flat0 (by kernel_rfl) (Nat.le_of_ble_eq_true rfl)⟩
 skip
 obtain ⟨rfl, hw⟩ := hp
 refine ⟨(st 28 []), (H59_2 p1 p2), (NX.bkX (NX.sq (TS.sq (TS.rg (TI.ra 1 [4] (st 28 [(4, iv 0)]) (TI.dn (NX.sq (TS.rt ?_)))))))), hw⟩
 have hF := Option.some.inj hF
 subst hF
 exact ⟨.inr rfl, rfl, iv 0, by kernel_rfl, WkV.flat0 (by kernel_rfl) (Nat.le_of_ble_eq_true rfl)⟩
theorem C59 (p0 : Int) (p1 : (List ((Int × Bool) × (Int × Bool)))) (p2 : (List (Int × Bool))) (r : Int) (hF : F59 p0 p1 p2 = some r) : PureSim Try.prog 59 [ag [iv p0, sv 0 p1.length ANY], sv 1 p2.length ANY] (H59_2 p1 p2) (V59 2 r) (N59 2 r) :=
 PureSim.of_Fin Try.func59 (c := c59) (by kernel_rfl) (by kernel_rfl) 2 rfl [0, 1] [0, 1] (by kernel_rfl) (B59 p0 p1 p2 r hF)
noncomputable def c71 : Code := Try.f71.code
def F71 (p0 : Int) (p1 : Bool) : Option Int :=
 if p1 then
  some (w64 ((w64 (2 * p0)) + 1))
 else
  some (w64 (2 * p0))
def V71 (b : Nat) (r : Int) : Value := iv r
def N71 (b : Nat) (r : Int) : List Blk := []
theorem B71 (p0 : Int) (p1 : Bool) (r : Int) (hF : F71 p0 p1 = some r) : TS Try.prog 0 0 c71 (st 12 [(0, ag [iv p0, .bool p1])]) [] (NX Try.prog 0 0 [] (FinP Try.prog Try.f71 0 (V71 0 r) (N71 0 r))) := by
 unfold F71 at hF
 refine TS.sq (TS.rg (TI.rn 2 [1] [0] (st 12 [(1, pt 0 0)]) [cl 55 [iv p0, .bool p1]] (TI.dn (NX.sq (TS.sq (TS.sq (TS.rg (TI.ra 2 [1, 4] (st 12 [(1, pt 0 0), (4, .bool p1)]) ?_))))))))
 refine TI.dn (NX.sq ?_)
 cases p1 with
 | true =>
  replace hF := of_pos hF rfl
  refine TS.cdT (.tmp 4) (TS.sq (TS.rg (TI.rn 5 [2] [] (st 12 [(2, iv (w64 ((w64 (2 * p0)) + 1)))]) [.dead] (TI.dn (NX.sq (TS.rt (NX.sqR ?_)))))))
  have hF := Option.some.inj hF
  subst hF
  exact ⟨.inr rfl, rfl, iv (w64 ((w64 (2 * p0)) + 1)), by kernel_rfl, WkV.flat0 (by kernel_rfl) (Nat.le_of_ble_eq_true rfl)⟩
 | false =>
  replace hF := of_neg hF rfl
  refine TS.cdF (.tmp 4) (TS.sk (NX.sq (TS.sq (TS.rg (TI.rn 4 [2] [] (st 12 [(2, iv (w64 (2 * p0)))]) [.dead] (TI.dn (NX.sq (TS.rt ?_))))))))
  have hF := Option.some.inj hF
  subst hF
  exact ⟨.inr rfl, rfl, iv (w64 (2 * p0)), by kernel_rfl, WkV.flat0 (by kernel_rfl) (Nat.le_of_ble_eq_true rfl)⟩
theorem C71 (p0 : Int) (p1 : Bool) (r : Int) (hF : F71 p0 p1 = some r) : PureSim Try.prog 71 [ag [iv p0, .bool p1]] [] (V71 0 r) (N71 0 r) :=
 PureSim.of_Fin Try.func71 (c := c71) (by kernel_rfl) (by kernel_rfl) 0 rfl [0] [] (by kernel_rfl) (B71 p0 p1 r hF)
noncomputable def c76 : Code := Try.f76.code
def F76 (p0 : Int) (p1 : Bool) : Option (Int × Bool) :=
 some (p0, !p1)
def V76 (b : Nat) (r : (Int × Bool)) : Value := ag [iv r.1, .bool r.2]
def N76 (b : Nat) (r : (Int × Bool)) : List Blk := []
theorem B76 (p0 : Int) (p1 : Bool) (r : (Int × Bool)) (hF : F76 p0 p1 = some r) : TS Try.prog 0 0 c76 (st 9 [(0, ag [iv p0, .bool p1])]) [] (NX Try.prog 0 0 [] (FinP Try.prog Try.f76 0 (V76 0 r) (N76 0 r))) := by
 unfold F76 at hF
 refine TS.sq (TS.rg (TI.rn 2 [1, 2] [0, 1] (st 9 [(1, pt 0 0), (2, pt 1 0)]) [cl 55 [iv p0, .bool p1], cl 55 [iv 0, .bool false]] (TI.dn (NX.sq (TS.sq (TS.rg (TI.rn 7 [2] [1] (st 9 [(2, pt 1 0)]) [.dead, cl 55 [iv p0, .bool (!p1)]] (TI.dn ?_))))))))
 refine NX.sq (TS.rt ?_)
 have hF := Option.some.inj hF
 subst hF
 exact ⟨.inr rfl, rfl, ag [iv p0, .bool (!p1)], by kernel_rfl, WkV.flat0 (by kernel_rfl) (Nat.le_of_ble_eq_true rfl)⟩
theorem C76 (p0 : Int) (p1 : Bool) (r : (Int × Bool)) (hF : F76 p0 p1 = some r) : PureSim Try.prog 76 [ag [iv p0, .bool p1]] [] (V76 0 r) (N76 0 r) :=
 PureSim.of_Fin Try.func76 (c := c76) (by kernel_rfl) (by kernel_rfl) 0 rfl [0] [] (by kernel_rfl) (B76 p0 p1 r hF)
noncomputable def c70 : Code := Try.f70.code
def H70_0 (p1 : (List ((Int × Bool) × (Int × Bool)))) (p0 : Int) (v421 : (List Int)) (o484 : ((Int × Bool) × (Int × Bool))) : List Blk := [ab 93 e93 p1, cl 30 [iv p0, sv 0 p1.length ANY], .cells 3 (List.flatMap e3 v421), cl 93 [iv o484.1.1, .bool o484.1.2, iv o484.2.1, .bool o484.2.2]]
def H70_1 (p1 : (List ((Int × Bool) × (Int × Bool)))) (p0 : Int) (m504 : (List Int)) (o484 : ((Int × Bool) × (Int × Bool))) : List Blk := [ab 93 e93 p1, cl 30 [iv p0, sv 0 p1.length ANY], .cells 3 (List.flatMap e3 m504), cl 93 [iv o484.1.1, .bool o484.1.2, iv o484.2.1, .bool o484.2.2]]
def H70_2 (p1 : (List ((Int × Bool) × (Int × Bool)))) (p0 : Int) : List Blk := [ab 93 e93 p1, cl 30 [iv p0, sv 0 p1.length ANY], .dead, .cells 3 (List.flatMap e3 (List.replicate (Int.toNat (w64 (2 * p0))) (0 : Int)))]
def H70_3 (p1 : (List ((Int × Bool) × (Int × Bool)))) (p0 : Int) (m504 : (List Int)) : List Blk := [ab 93 e93 p1, cl 30 [iv p0, sv 0 p1.length ANY], .cells 3 (List.flatMap e3 m504), .dead]
def H70_4 (p1 : (List ((Int × Bool) × (Int × Bool)))) (p0 : Int) (v421 : (List Int)) : List Blk := [ab 93 e93 p1, cl 30 [iv p0, sv 0 p1.length ANY], .cells 3 (List.flatMap e3 v421)]
def H70_5 (p1 : (List ((Int × Bool) × (Int × Bool)))) (p0 : Int) (v183 : (List Int)) : List Blk := [ab 93 e93 p1, cl 30 [iv p0, sv 0 p1.length ANY], .cells 3 (List.flatMap e3 v183)]
def F70l1 (p0 : Int) (p1 : (List ((Int × Bool) × (Int × Bool)))) (v182 : Int) (v420 : Int) (v421 : (List Int)) : Option (List Int) :=
 if decide (v420 < (p1.length : Int)) then
  if (0 : Int) ≤ v420 ∧ v420 < (p1.length : Int) then
   some (List.getD p1 (Int.toNat v420) ((0, false), (0, false))) >>= fun o484 =>
   F76 o484.1.1 o484.1.2 >>= fun r486 =>
   F71 r486.1 r486.2 >>= fun r488 =>
   if (0 : Int) ≤ r488 ∧ r488 < (v421.length : Int) then
    some (List.getD v421 (Int.toNat r488) 0) >>= fun o491 =>
    (
     if o491 == v182 then
      F71 o484.2.1 o484.2.2 >>= fun r494 =>
      if (0 : Int) ≤ r494 ∧ r494 < (v421.length : Int) then
       some (List.getD v421 (Int.toNat r494) 0) >>= fun o497 =>
       some (o497 == 0)
      else none
     else
      some (false)
    : Option Bool) >>= fun m499 =>
    (
     if m499 then
      F71 o484.2.1 o484.2.2 >>= fun r530 =>
      if (0 : Int) ≤ r530 ∧ r530 < (v421.length : Int) then
       some (List.set v421 (Int.toNat r530) (w64 (v182 + 1)))
      else none
     else
      some v421
    : Option (List Int)) >>= fun m504 =>
    F76 o484.2.1 o484.2.2 >>= fun r506 =>
    F71 r506.1 r506.2 >>= fun r508 =>
    if (0 : Int) ≤ r508 ∧ r508 < (m504.length : Int) then
     some (List.getD m504 (Int.toNat r508) 0) >>= fun o511 =>
     (
      if o511 == v182 then
       F71 o484.1.1 o484.1.2 >>= fun r514 =>
       if (0 : Int) ≤ r514 ∧ r514 < (m504.length : Int) then
        some (List.getD m504 (Int.toNat r514) 0) >>= fun o517 =>
        some (o517 == 0)
       else none
      else
       some (false)
     : Option Bool) >>= fun m519 =>
     (
      if m519 then
       F71 o484.1.1 o484.1.2 >>= fun r526 =>
       if (0 : Int) ≤ r526 ∧ r526 < (m504.length : Int) then
        some (List.set m504 (Int.toNat r526) (w64 (v182 + 1)))
       else none
      else
       some m504
     : Option (List Int)) >>= fun m524 =>
     F70l1 p0 p1 v182 (w64 (v420 + 1)) m524
    else none
   else none
  else none
 else
  some v421
 partial_fixpoint
def F70l0 (p0 : Int) (p1 : (List ((Int × Bool) × (Int × Bool)))) (v182 : Int) (v183 : (List Int)) : Option (List Int) :=
 if decide (v182 ≤ (v183.length : Int)) then
  F70l1 p0 p1 v182 0 v183 >>= fun r534 =>
  F70l0 p0 p1 (w64 (v182 + 1)) r534
 else
  some v183
 partial_fixpoint
def F70 (p0 : Int) (p1 : (List ((Int × Bool) × (Int × Bool)))) (p2 : Int) (p3 : Bool) : Option (List Int) :=
 if (0 : Int) ≤ w64 (2 * p0) ∧ w64 (2 * p0) ≤ 1000000000 then
  F71 p2 p3 >>= fun r2 =>
  if (0 : Int) ≤ r2 ∧ r2 < (List.length (List.replicate (Int.toNat (w64 (2 * p0))) (0 : Int)) : Int) then
   F70l0 p0 p1 1 (List.set (List.replicate (Int.toNat (w64 (2 * p0))) (0 : Int)) (Int.toNat r2) 1) >>= fun r536 =>
   some r536
  else none
 else none
def V70 (b : Nat) (r : (List Int)) : Value := mkV (b + 0) r.length
def N70 (b : Nat) (r : (List Int)) : List Blk := [.cells 3 (List.flatMap e3 r)]
def P70l1 (p0 : Int) (p1 : (List ((Int × Bool) × (Int × Bool)))) (v182 : Int) (r : (List Int)) : Post := fun e a h => e = .exit 2 ∧ Wk Try.prog 1 1 a h (st 86 [(2, pt 1 0), (5, mkV 2 r.length), (6, iv v182)]) [ab 93 e93 p1, cl 30 [iv p0, sv 0 p1.length ANY], .cells 3 (List.flatMap e3 r)]
theorem L70l1 (p0 : Int) (p1 : (List ((Int × Bool) × (Int × Bool)))) (v182 : Int) (v420 : Int) (v421 : (List Int)) (r : (List Int)) (hF : F70l1 p0 p1 v182 v420 v421 = some r) : TL Try.prog 1 1 c70.s2.s2.s2.s1.s2.bd.bd.s2.s1.bd.s2.bd.bd (st 86 [(2, pt 1 0), (5, mkV 2 v421.length), (6, iv v182), (7, iv v420)]) (H70_4 p1 p0 v421) (P70l1 p0 p1 v182 r) := by
 refine F70l1.partial_correctness p0 p1 v182 (motive := fun v420 v421 r => TL Try.prog 1 1 c70.s2.s2.s2.s1.s2.bd.bd.s2.s1.bd.s2.bd.bd (st 86 [(2, pt 1 0), (5, mkV 2 v421.length), (6, iv v182), (7, iv v420)]) (H70_4 p1 p0 v421) (P70l1 p0 p1 v182 r)) ?_ v420 v421 r hF
 clear hF r v420 v421
 intro again ih v420 v421 r hF
 refine TL.round (TS.sq (TS.sq (TS.rg (TI.ra 5 [2, 5, 6, 7, 27] (st 86 [(2, pt 1 0), (5, mkV 2 v421.length), (6, iv v182), (7, iv v420), (27, .bool (decide (v420 < (p1.length : Int))))]) (TI.dn (NX.sq ?_))))))
 refine TS.cd (.tmp 27) (decide (v420 < (p1.length : Int))) (fun hc482 => ?_) (fun hc482 => ?_)
 · replace hF := of_pos hF hc482
   refine TS.sk (NX.sq (TS.sq (TS.bk 3 (TS.sq ?_))))
   have hX := of_guard hF
   clear hF
   obtain ⟨hg483, hF⟩ := hX
   have hX := of_do hF
   clear hF
   obtain ⟨o484, h485, hF⟩ := hX
   replace h485 := Option.some.inj h485
   refine TS.rg (TI.ra 3 [2, 5, 6, 7, 31, 32] (st 86 [(2, pt 1 0), (5, mkV 2 v421.length), (6, iv v182), (7, iv v420), (31, sv 0 p1.length ANY), (32, iv v420)]) (TI.o { val := .pointer (some ⟨0, 0 + (Int.toNat v420) * 4, none⟩) } (q_ixS 0 0 ((Int.toNat v420) * 4) (by kernel_rfl) hg483) [2, 5, 6, 7, 33] [0, 1, 2] (st 86 [(2, pt 1 0), (5, mkV 2 v421.length), (6, iv v182), (7, iv v420), (33, .pointer (some ⟨0, 0 + (Int.toNat v420) * 4, none⟩))]) (H70_4 p1 p0 v421) (TI.o { val := ag [iv o484.1.1, .bool o484.1.2, iv o484.2.1, .bool o484.2.2] } (q_nAa Try.prog (H70_4 p1 p0 v421) 93 0 (0 + (Int.toNat v420) * 4) p1 e93 4 93 (Int.toNat v420) ((0, false), (0, false)) h485) [2, 5, 6, 7, 34] [0, 1, 2] (st 86 [(2, pt 1 0), (5, mkV 2 v421.length), (6, iv v182), (7, iv v420), (34, ag [iv o484.1.1, .bool o484.1.2, iv o484.2.1, .bool o484.2.2])]) (H70_4 p1 p0 v421) (TI.rn 2 [2, 5, 6, 7, 8] [0, 1, 2, 3] (st 86 [(2, pt 1 0), (5, mkV 2 v421.length), (6, iv v182), (7, iv v420), (8, pt 3 0)]) (H70_0 p1 p0 v421 o484) (TI.dn (NX.sq (TS.sq (TS.sq ?_))))))))
   have hX := of_do hF
   clear hF
   obtain ⟨r486, h487, hF⟩ := hX
   have hX := of_do hF
   clear hF
   obtain ⟨r488, h489, hF⟩ := hX
   have hX := of_guard hF
   clear hF
   obtain ⟨hg490, hF⟩ := hX
   have hX := of_do hF
   clear hF
   obtain ⟨o491, h492, hF⟩ := hX
   replace h492 := Option.some.inj h492
   have hX := of_do hF
   clear hF
   obtain ⟨m499, hm533, hF⟩ := hX
   have hK : NX Try.prog 1 1 [.sq c70.s2.s2.s2.s1.s2.bd.bd.s2.s1.bd.s2.bd.bd.s2.s1.bd.s2.s1.s2, .sq c70.s2.s2.s2.s1.s2.bd.bd.s2.s1.bd.s2.bd.bd.s2.s1.bd.s2.s2, .bk 3, .sq c70.s2.s2.s2.s1.s2.bd.bd.s2.s1.bd.s2.bd.bd.s2.s2] (Rd Try.prog 1 1 c70.s2.s2.s2.s1.s2.bd.bd.s2.s1.bd.s2.bd.bd (P70l1 p0 p1 v182 r)) .normal (st 86 [(2, pt 1 0), (5, mkV 2 v421.length), (6, iv v182), (7, iv v420), (8, pt 3 0), (52, .bool m499)]) (H70_0 p1 p0 v421 o484) := by
    refine NX.sq ?_
    have hX := of_do hF
    clear hF
    obtain ⟨m504, hm505, hF⟩ := hX
    have hK : NX Try.prog 1 1 [.sq c70.s2.s2.s2.s1.s2.bd.bd.s2.s1.bd.s2.bd.bd.s2.s1.bd.s2.s2, .bk 3, .sq c70.s2.s2.s2.s1.s2.bd.bd.s2.s1.bd.s2.bd.bd.s2.s2] (Rd Try.prog 1 1 c70.s2.s2.s2.s1.s2.bd.bd.s2.s1.bd.s2.bd.bd (P70l1 p0 p1 v182 r)) .normal (st 86 [(2, pt 1 0), (5, mkV 2 m504.length), (6, iv v182), (7, iv v420), (8, pt 3 0)]) (H70_1 p1 p0 m504 o484) := by
     refine NX.sq (TS.sq ?_)
     have hX := of_do hF
     clear hF
     obtain ⟨r506, h507, hF⟩ := hX
     have hX := of_do hF
     clear hF
     obtain ⟨r508, h509, hF⟩ := hX
     have hX := of_guard hF
     clear hF
     obtain ⟨hg510, hF⟩ := hX
     have hX := of_do hF
     clear hF
     obtain ⟨o511, h512, hF⟩ := hX
     replace h512 := Option.some.inj h512
     have hX := of_do hF
     clear hF
     obtain ⟨m519, hm529, hF⟩ := hX
     have hK : NX Try.prog 1 1 [.sq c70.s2.s2.s2.s1.s2.bd.bd.s2.s1.bd.s2.bd.bd.s2.s1.bd.s2.s2.s2, .bk 3, .sq c70.s2.s2.s2.s1.s2.bd.bd.s2.s1.bd.s2.bd.bd.s2.s2] (Rd Try.prog 1 1 c70.s2.s2.s2.s1.s2.bd.bd.s2.s1.bd.s2.bd.bd (P70l1 p0 p1 v182 r)) .normal (st 86 [(2, pt 1 0), (5, mkV 2 m504.length), (6, iv v182), (7, iv v420), (8, pt 3 0), (77, .bool m519)]) (H70_1 p1 p0 m504 o484) := by
      refine NX.sq ?_
      have hX := of_do hF
      clear hF
      obtain ⟨m524, hm525, hF⟩ := hX
      have hK : NX Try.prog 1 1 [.bk 3, .sq c70.s2.s2.s2.s1.s2.bd.bd.s2.s1.bd.s2.bd.bd.s2.s2] (Rd Try.prog 1 1 c70.s2.s2.s2.s1.s2.bd.bd.s2.s1.bd.s2.bd.bd (P70l1 p0 p1 v182 r)) .normal (st 86 [(2, pt 1 0), (5, mkV 2 m524.length), (6, iv v182), (7, iv v420)]) [ab 93 e93 p1, cl 30 [iv p0, sv 0 p1.length ANY], .cells 3 (List.flatMap e3 m524)] := by
       refine NX.bk (NX.sq (TS.rg (TI.ra 3 [2, 5, 6, 7] (st 86 [(2, pt 1 0), (5, mkV 2 m524.length), (6, iv v182), (7, iv (w64 (v420 + 1)))]) (TI.dn ?_))))
       exact Rd.again (a2 := (st 86 [(2, pt 1 0), (5, mkV 2 m524.length), (6, iv v182), (7, iv (w64 (v420 + 1)))])) (h2 := [ab 93 e93 p1, cl 30 [iv p0, sv 0 p1.length ANY], .cells 3 (List.flatMap e3 m524)]) (Wk.an [1, 2] (.ac (.lt (.fl (.sl .nil)) (.cons (At.blk (by kernel_rfl) (RnB.list (fun _ => rfl))) (.nil _)))) [pt 1 0, mkV 2 m524.length, iv v182, iv (w64 (v420 + 1))] (.pp (.cons (Rn.mk (Nat.le_of_ble_eq_true rfl) rfl (by simp only [List.length_set])) (.fl (.fl .nil))))) (ih (w64 (v420 + 1)) m524 _ hF)
      clear hF
      have hF := hm525
      clear hm525
      refine TS.start ?_
      cases m519 with
      | true =>
       replace hF := of_pos hF rfl
       refine TS.cdT (.tmp 77) ?_
       have hX := of_do hF
       clear hF
       obtain ⟨r526, h527, hF⟩ := hX
       have hX := of_guard hF
       clear hF
       obtain ⟨hg528, hF⟩ := hX
       refine TS.rg (TI.rn 3 [2, 5, 6, 7, 78, 80] [0, 1, 2] (st 86 [(2, pt 1 0), (5, mkV 2 m504.length), (6, iv v182), (7, iv v420), (78, mkV 2 m504.length), (80, ag [iv o484.1.1, .bool o484.1.2])]) (H70_3 p1 p0 m504) (TI.cf (C71 _ _ _ h527) (TI.ra 2 [2, 5, 6, 7, 78, 81, 83] (st 86 [(2, pt 1 0), (5, mkV 2 m504.length), (6, iv v182), (7, iv v420), (78, mkV 2 m504.length), (81, iv r526), (83, iv (w64 (v182 + 1)))]) (TI.o { val := .pointer (some ⟨2, 0 + (Int.toNat r526) * 1, none⟩) } (q_ixS 2 0 ((Int.toNat r526) * 1) (by kernel_rfl) hg528) [2, 5, 6, 7, 83, 84] [0, 1, 2] (st 86 [(2, pt 1 0), (5, mkV 2 m504.length), (6, iv v182), (7, iv v420), (83, iv (w64 (v182 + 1))), (84, .pointer (some ⟨2, 0 + (Int.toNat r526) * 1, none⟩))]) (H70_3 p1 p0 m504) ?_))))
       refine TI.o { val := undef, upd := some (2, .cells 3 (List.flatMap e3 (List.set m504 (Int.toNat r526) (w64 (v182 + 1))))) } (q_stP Try.prog 1 (H70_3 p1 p0 m504) 3 2 (0 + (Int.toNat r526) * 1) m504 e3 1 3 (Int.toNat r526) 0 1 (iv (w64 (v182 + 1))) [iv (w64 (v182 + 1))] 0 (w64 (v182 + 1)) (by first | omega | (simp <;> omega))) [2, 5, 6, 7] [0, 1, 2] (st 86 [(2, pt 1 0), (5, mkV 2 m504.length), (6, iv v182), (7, iv v420)]) [ab 93 e93 p1, cl 30 [iv p0, sv 0 p1.length ANY], .cells 3 (List.flatMap e3 (List.set m504 (Int.toNat r526) (w64 (v182 + 1)))), .dead] (TI.dn ?_)
       have hF := Option.some.inj hF
       subst hF
       exact TS.weak (by exact (Wk.an [1, 2] (.ac (.lt (.fl (.sl .nil)) (.cons (At.blk (by kernel_rfl) (RnB.list (fun _ => rfl))) (.nil _)))) [pt 1 0, mkV 2 m504.length, iv v182, iv v420] (.pp (.cons (Rn.mk (Nat.le_of_ble_eq_true rfl) rfl (by simp only [List.length_set])) (.fl (.fl .nil)))))) hK
      | false =>
       replace hF := of_neg hF rfl
       refine TS.cdF (.tmp 77) (TS.sk ?_)
       have hF := Option.some.inj hF
       subst hF
       exact TS.weak (by exact (Wk.an [1, 2] (.ac (.lt (.fl (.sl .nil)) (.cons (At.blk (by kernel_rfl) (RnB.list (fun _ => rfl))) (.nil _)))) [pt 1 0, mkV 2 m504.length, iv v182, iv v420] (.pp (.cons (Rn.mk (Nat.le_of_ble_eq_true rfl) rfl (by simp only [List.length_set])) (.fl (.fl .nil)))))) hK
     rcases Bool.eq_false_or_eq_true (o511 == v182) with hc513 | hc513
     · replace hm529 := of_pos hm529 hc513
       have hX := of_do hm529
       clear hm529
       obtain ⟨r514, h515, hm529⟩ := hX
       have hX := of_guard hm529
       clear hm529
       obtain ⟨hg516, hm529⟩ := hX
       have hX := of_do hm529
       clear hm529
       obtain ⟨o517, h518, hm529⟩ := hX
       replace h518 := Option.some.inj h518
       have hm529 := Option.some.inj hm529
       subst hm529
       refine TS.rg (TI.ra 3 [2, 5, 6, 7, 8, 60, 62] (st 86 [(2, pt 1 0), (5, mkV 2 m504.length), (6, iv v182), (7, iv v420), (8, pt 3 0), (60, mkV 2 m504.length), (62, ag [iv o484.2.1, .bool o484.2.2])]) (TI.cm (PureSim.ak (C76 _ _ _ h507)) [2, 5, 6, 7, 8, 60, 63] [0, 1, 2, 3] (st 86 [(2, pt 1 0), (5, mkV 2 m504.length), (6, iv v182), (7, iv v420), (8, pt 3 0), (60, mkV 2 m504.length), (63, ag [iv r506.1, .bool r506.2])]) (H70_1 p1 p0 m504 o484) (TI.cm (PureSim.ak (C71 _ _ _ h509)) [2, 5, 6, 7, 8, 60, 64] [0, 1, 2, 3] (st 86 [(2, pt 1 0), (5, mkV 2 m504.length), (6, iv v182), (7, iv v420), (8, pt 3 0), (60, mkV 2 m504.length), (64, iv r508)]) (H70_1 p1 p0 m504 o484) (TI.o { val := .pointer (some ⟨2, 0 + (Int.toNat r508) * 1, none⟩) } (q_ixS 2 0 ((Int.toNat r508) * 1) (by kernel_rfl) hg510) [2, 5, 6, 7, 8, 65] [0, 1, 2, 3] (st 86 [(2, pt 1 0), (5, mkV 2 m504.length), (6, iv v182), (7, iv v420), (8, pt 3 0), (65, .pointer (some ⟨2, 0 + (Int.toNat r508) * 1, none⟩))]) (H70_1 p1 p0 m504 o484) (TI.o { val := iv o511 } (q_n1 Try.prog (H70_1 p1 p0 m504 o484) 3 2 (0 + (Int.toNat r508) * 1) m504 e3 1 3 (Int.toNat r508) 0 0 h512) [2, 5, 6, 7, 8, 66] [0, 1, 2, 3] (st 86 [(2, pt 1 0), (5, mkV 2 m504.length), (6, iv v182), (7, iv v420), (8, pt 3 0), (66, iv o511)]) (H70_1 p1 p0 m504 o484) (TI.ra 1 [2, 5, 6, 7, 8, 66, 67] (st 86 [(2, pt 1 0), (5, mkV 2 m504.length), (6, iv v182), (7, iv v420), (8, pt 3 0), (66, iv o511), (67, iv v182)]) (TI.o { val := .bool true } (q_conv (e := o511 == v182) (b := true) (by kernel_rfl) hc513) [2, 5, 6, 7, 8, 68] [0, 1, 2, 3] (st 86 [(2, pt 1 0), (5, mkV 2 m504.length), (6, iv v182), (7, iv v420), (8, pt 3 0), (68, .bool true)]) (H70_1 p1 p0 m504 o484) (TI.ra 4 [2, 5, 6, 7, 8, 69, 70, 72] (st 86 [(2, pt 1 0), (5, mkV 2 m504.length), (6, iv v182), (7, iv v420), (8, pt 3 0), (69, .bool true), (70, mkV 2 m504.length), (72, ag [iv o484.1.1, .bool o484.1.2])]) ?_))))))))
       exact TI.cm (PureSim.ak (C71 _ _ _ h515)) [2, 5, 6, 7, 8, 69, 70, 73] [0, 1, 2, 3] (st 86 [(2, pt 1 0), (5, mkV 2 m504.length), (6, iv v182), (7, iv v420), (8, pt 3 0), (69, .bool true), (70, mkV 2 m504.length), (73, iv r514)]) (H70_1 p1 p0 m504 o484) (TI.o { val := .pointer (some ⟨2, 0 + (Int.toNat r514) * 1, none⟩) } (q_ixS 2 0 ((Int.toNat r514) * 1) (by kernel_rfl) hg516) [2, 5, 6, 7, 8, 69, 74] [0, 1, 2, 3] (st 86 [(2, pt 1 0), (5, mkV 2 m504.length), (6, iv v182), (7, iv v420), (8, pt 3 0), (69, .bool true), (74, .pointer (some ⟨2, 0 + (Int.toNat r514) * 1, none⟩))]) (H70_1 p1 p0 m504 o484) (TI.o { val := iv o517 } (q_n1 Try.prog (H70_1 p1 p0 m504 o484) 3 2 (0 + (Int.toNat r514) * 1) m504 e3 1 3 (Int.toNat r514) 0 0 h518) [2, 5, 6, 7, 8, 69, 75] [0, 1, 2, 3] (st 86 [(2, pt 1 0), (5, mkV 2 m504.length), (6, iv v182), (7, iv v420), (8, pt 3 0), (69, .bool true), (75, iv o517)]) (H70_1 p1 p0 m504 o484) (TI.ra 2 [2, 5, 6, 7, 8, 77] (st 86 [(2, pt 1 0), (5, mkV 2 m504.length), (6, iv v182), (7, iv v420), (8, pt 3 0), (77, .bool (o517 == 0))]) (TI.dn hK))))
     replace hm529 := of_neg hm529 hc513
     have hm529 := Option.some.inj hm529
     subst hm529
     refine TS.rg (TI.ra 3 [2, 5, 6, 7, 8, 60, 62] (st 86 [(2, pt 1 0), (5, mkV 2 m504.length), (6, iv v182), (7, iv v420), (8, pt 3 0), (60, mkV 2 m504.length), (62, ag [iv o484.2.1, .bool o484.2.2])]) (TI.cm (PureSim.ak (C76 _ _ _ h507)) [2, 5, 6, 7, 8, 60, 63] [0, 1, 2, 3] (st 86 [(2, pt 1 0), (5, mkV 2 m504.length), (6, iv v182), (7, iv v420), (8, pt 3 0), (60, mkV 2 m504.length), (63, ag [iv r506.1, .bool r506.2])]) (H70_1 p1 p0 m504 o484) (TI.cm (PureSim.ak (C71 _ _ _ h509)) [2, 5, 6, 7, 8, 60, 64] [0, 1, 2, 3] (st 86 [(2, pt 1 0), (5, mkV 2 m504.length), (6, iv v182), (7, iv v420), (8, pt 3 0), (60, mkV 2 m504.length), (64, iv r508)]) (H70_1 p1 p0 m504 o484) (TI.o { val := .pointer (some ⟨2, 0 + (Int.toNat r508) * 1, none⟩) } (q_ixS 2 0 ((Int.toNat r508) * 1) (by kernel_rfl) hg510) [2, 5, 6, 7, 8, 65] [0, 1, 2, 3] (st 86 [(2, pt 1 0), (5, mkV 2 m504.length), (6, iv v182), (7, iv v420), (8, pt 3 0), (65, .pointer (some ⟨2, 0 + (Int.toNat r508) * 1, none⟩))]) (H70_1 p1 p0 m504 o484) (TI.o { val := iv o511 } (q_n1 Try.prog (H70_1 p1 p0 m504 o484) 3 2 (0 + (Int.toNat r508) * 1) m504 e3 1 3 (Int.toNat r508) 0 0 h512) [2, 5, 6, 7, 8, 66] [0, 1, 2, 3] (st 86 [(2, pt 1 0), (5, mkV 2 m504.length), (6, iv v182), (7, iv v420), (8, pt 3 0), (66, iv o511)]) (H70_1 p1 p0 m504 o484) (TI.ra 1 [2, 5, 6, 7, 8, 66, 67] (st 86 [(2, pt 1 0), (5, mkV 2 m504.length), (6, iv v182), (7, iv v420), (8, pt 3 0), (66, iv o511), (67, iv v182)]) (TI.o { val := .bool false } (q_conv (e := o511 == v182) (b := false) (by kernel_rfl) hc513) [2, 5, 6, 7, 8, 68] [0, 1, 2, 3] (st 86 [(2, pt 1 0), (5, mkV 2 m504.length), (6, iv v182), (7, iv v420), (8, pt 3 0), (68, .bool false)]) (H70_1 p1 p0 m504 o484) (TI.ra 9 [2, 5, 6, 7, 8, 77] (st 86 [(2, pt 1 0), (5, mkV 2 m504.length), (6, iv v182), (7, iv v420), (8, pt 3 0), (77, .bool false)]) ?_))))))))
     exact TI.dn hK
    clear hF
    have hF := hm505
    clear hm505
    refine TS.start ?_
    cases m499 with
    | true =>
     replace hF := of_pos hF rfl
     refine TS.cdT (.tmp 52) ?_
     have hX := of_do hF
     clear hF
     obtain ⟨r530, h531, hF⟩ := hX
     have hX := of_guard hF
     clear hF
     obtain ⟨hg532, hF⟩ := hX
     refine TS.rg (TI.ra 3 [2, 5, 6, 7, 8, 53, 55] (st 86 [(2, pt 1 0), (5, mkV 2 v421.length), (6, iv v182), (7, iv v420), (8, pt 3 0), (53, mkV 2 v421.length), (55, ag [iv o484.2.1, .bool o484.2.2])]) (TI.cf (C71 _ _ _ h531) (TI.ra 2 [2, 5, 6, 7, 8, 53, 56, 58] (st 86 [(2, pt 1 0), (5, mkV 2 v421.length), (6, iv v182), (7, iv v420), (8, pt 3 0), (53, mkV 2 v421.length), (56, iv r530), (58, iv (w64 (v182 + 1)))]) (TI.o { val := .pointer (some ⟨2, 0 + (Int.toNat r530) * 1, none⟩) } (q_ixS 2 0 ((Int.toNat r530) * 1) (by kernel_rfl) hg532) [2, 5, 6, 7, 8, 58, 59] [0, 1, 2, 3] (st 86 [(2, pt 1 0), (5, mkV 2 v421.length), (6, iv v182), (7, iv v420), (8, pt 3 0), (58, iv (w64 (v182 + 1))), (59, .pointer (some ⟨2, 0 + (Int.toNat r530) * 1, none⟩))]) (H70_0 p1 p0 v421 o484) ?_))))
     refine TI.o { val := undef, upd := some (2, .cells 3 (List.flatMap e3 (List.set v421 (Int.toNat r530) (w64 (v182 + 1))))) } (q_stP Try.prog 1 (H70_0 p1 p0 v421 o484) 3 2 (0 + (Int.toNat r530) * 1) v421 e3 1 3 (Int.toNat r530) 0 1 (iv (w64 (v182 + 1))) [iv (w64 (v182 + 1))] 0 (w64 (v182 + 1)) (by first | omega | (simp <;> omega))) [2, 5, 6, 7, 8] [0, 1, 2, 3] (st 86 [(2, pt 1 0), (5, mkV 2 v421.length), (6, iv v182), (7, iv v420), (8, pt 3 0)]) [ab 93 e93 p1, cl 30 [iv p0, sv 0 p1.length ANY], .cells 3 (List.flatMap e3 (List.set v421 (Int.toNat r530) (w64 (v182 + 1)))), cl 93 [iv o484.1.1, .bool o484.1.2, iv o484.2.1, .bool o484.2.2]] (TI.dn ?_)
     have hF := Option.some.inj hF
     subst hF
     exact TS.weak (by exact (Wk.an [1, 2, 3] (.ac (.lt (.fl (.sl .nil)) (.cons (At.blk (by kernel_rfl) (RnB.list (fun _ => rfl))) (.lt (.fl (.fl (.fl (.fl .nil)))) (.nil _))))) [pt 1 0, mkV 2 v421.length, iv v182, iv v420, pt 3 0] (.pp (.cons (Rn.mk (Nat.le_of_ble_eq_true rfl) rfl (by simp only [List.length_set])) (.fl (.fl (.pp .nil))))))) hK
    | false =>
     replace hF := of_neg hF rfl
     refine TS.cdF (.tmp 52) (TS.sk ?_)
     have hF := Option.some.inj hF
     subst hF
     exact TS.weak (by exact (Wk.an [1, 2, 3] (.ac (.lt (.fl (.sl .nil)) (.cons (At.blk (by kernel_rfl) (RnB.list (fun _ => rfl))) (.lt (.fl (.fl (.fl (.fl .nil)))) (.nil _))))) [pt 1 0, mkV 2 v421.length, iv v182, iv v420, pt 3 0] (.pp (.cons (Rn.mk (Nat.le_of_ble_eq_true rfl) rfl (by simp only [List.length_set])) (.fl (.fl (.pp .nil))))))) hK
   rcases Bool.eq_false_or_eq_true (o491 == v182) with hc493 | hc493
   · replace hm533 := of_pos hm533 hc493
     have hX := of_do hm533
     clear hm533
     obtain ⟨r494, h495, hm533⟩ := hX
     have hX := of_guard hm533
     clear hm533
     obtain ⟨hg496, hm533⟩ := hX
     have hX := of_do hm533
     clear hm533
     obtain ⟨o497, h498, hm533⟩ := hX
     replace h498 := Option.some.inj h498
     have hm533 := Option.some.inj hm533
     subst hm533
     refine TS.rg (TI.ra 3 [2, 5, 6, 7, 8, 35, 37] (st 86 [(2, pt 1 0), (5, mkV 2 v421.length), (6, iv v182), (7, iv v420), (8, pt 3 0), (35, mkV 2 v421.length), (37, ag [iv o484.1.1, .bool o484.1.2])]) (TI.cm (PureSim.ak (C76 _ _ _ h487)) [2, 5, 6, 7, 8, 35, 38] [0, 1, 2, 3] (st 86 [(2, pt 1 0), (5, mkV 2 v421.length), (6, iv v182), (7, iv v420), (8, pt 3 0), (35, mkV 2 v421.length), (38, ag [iv r486.1, .bool r486.2])]) (H70_0 p1 p0 v421 o484) (TI.cm (PureSim.ak (C71 _ _ _ h489)) [2, 5, 6, 7, 8, 35, 39] [0, 1, 2, 3] (st 86 [(2, pt 1 0), (5, mkV 2 v421.length), (6, iv v182), (7, iv v420), (8, pt 3 0), (35, mkV 2 v421.length), (39, iv r488)]) (H70_0 p1 p0 v421 o484) (TI.o { val := .pointer (some ⟨2, 0 + (Int.toNat r488) * 1, none⟩) } (q_ixS 2 0 ((Int.toNat r488) * 1) (by kernel_rfl) hg490) [2, 5, 6, 7, 8, 40] [0, 1, 2, 3] (st 86 [(2, pt 1 0), (5, mkV 2 v421.length), (6, iv v182), (7, iv v420), (8, pt 3 0), (40, .pointer (some ⟨2, 0 + (Int.toNat r488) * 1, none⟩))]) (H70_0 p1 p0 v421 o484) (TI.o { val := iv o491 } (q_n1 Try.prog (H70_0 p1 p0 v421 o484) 3 2 (0 + (Int.toNat r488) * 1) v421 e3 1 3 (Int.toNat r488) 0 0 h492) [2, 5, 6, 7, 8, 41] [0, 1, 2, 3] (st 86 [(2, pt 1 0), (5, mkV 2 v421.length), (6, iv v182), (7, iv v420), (8, pt 3 0), (41, iv o491)]) (H70_0 p1 p0 v421 o484) (TI.ra 1 [2, 5, 6, 7, 8, 41, 42] (st 86 [(2, pt 1 0), (5, mkV 2 v421.length), (6, iv v182), (7, iv v420), (8, pt 3 0), (41, iv o491), (42, iv v182)]) (TI.o { val := .bool true } (q_conv (e := o491 == v182) (b := true) (by kernel_rfl) hc493) [2, 5, 6, 7, 8, 43] [0, 1, 2, 3] (st 86 [(2, pt 1 0), (5, mkV 2 v421.length), (6, iv v182), (7, iv v420), (8, pt 3 0), (43, .bool true)]) (H70_0 p1 p0 v421 o484) (TI.ra 4 [2, 5, 6, 7, 8, 44, 45, 47] (st 86 [(2, pt 1 0), (5, mkV 2 v421.length), (6, iv v182), (7, iv v420), (8, pt 3 0), (44, .bool true), (45, mkV 2 v421.length), (47, ag [iv o484.2.1, .bool o484.2.2])]) ?_))))))))
     exact TI.cm (PureSim.ak (C71 _ _ _ h495)) [2, 5, 6, 7, 8, 44, 45, 48] [0, 1, 2, 3] (st 86 [(2, pt 1 0), (5, mkV 2 v421.length), (6, iv v182), (7, iv v420), (8, pt 3 0), (44, .bool true), (45, mkV 2 v421.length), (48, iv r494)]) (H70_0 p1 p0 v421 o484) (TI.o { val := .pointer (some ⟨2, 0 + (Int.toNat r494) * 1, none⟩) } (q_ixS 2 0 ((Int.toNat r494) * 1) (by kernel_rfl) hg496) [2, 5, 6, 7, 8, 44, 49] [0, 1, 2, 3] (st 86 [(2, pt 1 0), (5, mkV 2 v421.length), (6, iv v182), (7, iv v420), (8, pt 3 0), (44, .bool true), (49, .pointer (some ⟨2, 0 + (Int.toNat r494) * 1, none⟩))]) (H70_0 p1 p0 v421 o484) (TI.o { val := iv o497 } (q_n1 Try.prog (H70_0 p1 p0 v421 o484) 3 2 (0 + (Int.toNat r494) * 1) v421 e3 1 3 (Int.toNat r494) 0 0 h498) [2, 5, 6, 7, 8, 44, 50] [0, 1, 2, 3] (st 86 [(2, pt 1 0), (5, mkV 2 v421.length), (6, iv v182), (7, iv v420), (8, pt 3 0), (44, .bool true), (50, iv o497)]) (H70_0 p1 p0 v421 o484) (TI.ra 2 [2, 5, 6, 7, 8, 52] (st 86 [(2, pt 1 0), (5, mkV 2 v421.length), (6, iv v182), (7, iv v420), (8, pt 3 0), (52, .bool (o497 == 0))]) (TI.dn hK))))
   replace hm533 := of_neg hm533 hc493
   have hm533 := Option.some.inj hm533
   subst hm533
   refine TS.rg (TI.ra 3 [2, 5, 6, 7, 8, 35, 37] (st 86 [(2, pt 1 0), (5, mkV 2 v421.length), (6, iv v182), (7, iv v420), (8, pt 3 0), (35, mkV 2 v421.length), (37, ag [iv o484.1.1, .bool o484.1.2])]) (TI.cm (PureSim.ak (C76 _ _ _ h487)) [2, 5, 6, 7, 8, 35, 38] [0, 1, 2, 3] (st 86 [(2, pt 1 0), (5, mkV 2 v421.length), (6, iv v182), (7, iv v420), (8, pt 3 0), (35, mkV 2 v421.length), (38, ag [iv r486.1, .bool r486.2])]) (H70_0 p1 p0 v421 o484) (TI.cm (PureSim.ak (C71 _ _ _ h489)) [2, 5, 6, 7, 8, 35, 39] [0, 1, 2, 3] (st 86 [(2, pt 1 0), (5, mkV 2 v421.length), (6, iv v182), (7, iv v420), (8, pt 3 0), (35, mkV 2 v421.length), (39, iv r488)]) (H70_0 p1 p0 v421 o484) (TI.o { val := .pointer (some ⟨2, 0 + (Int.toNat r488) * 1, none⟩) } (q_ixS 2 0 ((Int.toNat r488) * 1) (by kernel_rfl) hg490) [2, 5, 6, 7, 8, 40] [0, 1, 2, 3] (st 86 [(2, pt 1 0), (5, mkV 2 v421.length), (6, iv v182), (7, iv v420), (8, pt 3 0), (40, .pointer (some ⟨2, 0 + (Int.toNat r488) * 1, none⟩))]) (H70_0 p1 p0 v421 o484) (TI.o { val := iv o491 } (q_n1 Try.prog (H70_0 p1 p0 v421 o484) 3 2 (0 + (Int.toNat r488) * 1) v421 e3 1 3 (Int.toNat r488) 0 0 h492) [2, 5, 6, 7, 8, 41] [0, 1, 2, 3] (st 86 [(2, pt 1 0), (5, mkV 2 v421.length), (6, iv v182), (7, iv v420), (8, pt 3 0), (41, iv o491)]) (H70_0 p1 p0 v421 o484) (TI.ra 1 [2, 5, 6, 7, 8, 41, 42] (st 86 [(2, pt 1 0), (5, mkV 2 v421.length), (6, iv v182), (7, iv v420), (8, pt 3 0), (41, iv o491), (42, iv v182)]) (TI.o { val := .bool false } (q_conv (e := o491 == v182) (b := false) (by kernel_rfl) hc493) [2, 5, 6, 7, 8, 43] [0, 1, 2, 3] (st 86 [(2, pt 1 0), (5, mkV 2 v421.length), (6, iv v182), (7, iv v420), (8, pt 3 0), (43, .bool false)]) (H70_0 p1 p0 v421 o484) (TI.ra 9 [2, 5, 6, 7, 8, 52] (st 86 [(2, pt 1 0), (5, mkV 2 v421.length), (6, iv v182), (7, iv v420), (8, pt 3 0), (52, .bool false)]) ?_))))))))
   exact TI.dn hK
 replace hF := of_neg hF hc482
 refine TS.ex 2 (NX.sqX ?_)
 have hF := Option.some.inj hF
 subst hF
 exact Rd.out (e := .exit 2) (by intro h; cases h) (And.intro rfl (Wk.an [1, 2] (.ac (.lt (.fl (.sl .nil)) (.cons (At.blk (by kernel_rfl) (RnB.list (fun _ => rfl))) (.nil _)))) [pt 1 0, mkV 2 v421.length, iv v182] (.pp (.cons (Rn.mk (Nat.le_of_ble_eq_true rfl) rfl (by simp only [List.length_set])) (.fl .nil)))))
def P70l0 (p0 : Int) (p1 : (List ((Int × Bool) × (Int × Bool)))) (r : (List Int)) : Post := fun e a h => e = .exit 0 ∧ Wk Try.prog 1 1 a h (st 86 [(5, mkV 1 r.length)]) [ab 93 e93 p1, .cells 3 (List.flatMap e3 r)]
theorem L70l0 (p0 : Int) (p1 : (List ((Int × Bool) × (Int × Bool)))) (v182 : Int) (v183 : (List Int)) (r : (List Int)) (hF : F70l0 p0 p1 v182 v183 = some r) : TL Try.prog 1 1 c70.s2.s2.s2.s1.s2.bd.bd (st 86 [(2, pt 1 0), (5, mkV 2 v183.length), (6, iv v182)]) (H70_5 p1 p0 v183) (P70l0 p0 p1 r) := by
 refine F70l0.partial_correctness p0 p1 (motive := fun v182 v183 r => TL Try.prog 1 1 c70.s2.s2.s2.s1.s2.bd.bd (st 86 [(2, pt 1 0), (5, mkV 2 v183.length), (6, iv v182)]) (H70_5 p1 p0 v183) (P70l0 p0 p1 r)) ?_ v182 v183 r hF
 clear hF r v182 v183
 intro again ih v182 v183 r hF
 refine TL.round (TS.sq (TS.sq (TS.rg (TI.ra 4 [2, 5, 6, 20] (st 86 [(2, pt 1 0), (5, mkV 2 v183.length), (6, iv v182), (20, .bool (decide (v182 ≤ (v183.length : Int))))]) (TI.dn (NX.sq ?_))))))
 refine TS.cd (.tmp 20) (decide (v182 ≤ (v183.length : Int))) (fun hc361 => ?_) (fun hc361 => ?_)
 · replace hF := of_pos hF hc361
   refine TS.sk (NX.sq (TS.sq (TS.bk 1 (TS.sq (TS.rg (TI.ra 1 [2, 5, 6, 7] (st 86 [(2, pt 1 0), (5, mkV 2 v183.length), (6, iv v182), (7, iv 0)]) (TI.dn (NX.sq ?_))))))))
   refine TS.bk 2 ?_
   have hX := of_do hF
   clear hF
   obtain ⟨r534, h535, hF⟩ := hX
   refine TS.lp (TL.weak (a2 := (st 86 [(2, pt 1 0), (5, mkV 2 v183.length), (6, iv v182), (7, iv 0)])) (h2 := (H70_5 p1 p0 v183)) (Wk.an [1, 2] (.ac (.lt (.fl (.sl .nil)) (.cons (At.blk (by kernel_rfl) (RnB.list (fun _ => rfl))) (.nil _)))) [pt 1 0, mkV 2 v183.length, iv v182, iv 0] (.pp (.cons (Rn.mk (Nat.le_of_ble_eq_true rfl) rfl (by simp only [List.length_set])) (.fl (.fl .nil))))) (TL.post (L70l1 p0 p1 v182 0 v183 r534 h535) ?_))
   rintro e a1 h1 hp
   obtain ⟨rfl, hw⟩ := hp
   refine ⟨(st 86 [(2, pt 1 0), (5, mkV 2 r534.length), (6, iv v182)]), [ab 93 e93 p1, cl 30 [iv p0, sv 0 p1.length ANY], .cells 3 (List.flatMap e3 r534)], (NX.bkX (NX.bk (NX.sq (TS.rg (TI.ra 3 [2, 5, 6] (st 86 [(2, pt 1 0), (5, mkV 2 r534.length), (6, iv (w64 (v182 + 1)))]) (TI.dn ?_)))))), hw⟩
   exact Rd.again (a2 := (st 86 [(2, pt 1 0), (5, mkV 2 r534.length), (6, iv (w64 (v182 + 1)))])) (h2 := [ab 93 e93 p1, cl 30 [iv p0, sv 0 p1.length ANY], .cells 3 (List.flatMap e3 r534)]) (Wk.an [1, 2] (.ac (.lt (.fl (.sl .nil)) (.cons (At.blk (by kernel_rfl) (RnB.list (fun _ => rfl))) (.nil _)))) [pt 1 0, mkV 2 r534.length, iv (w64 (v182 + 1))] (.pp (.cons (Rn.mk (Nat.le_of_ble_eq_true rfl) rfl (by simp only [List.length_set])) (.fl .nil)))) (ih (w64 (v182 + 1)) r534 _ hF)
 replace hF := of_neg hF hc361
 refine TS.ex 0 (NX.sqX ?_)
 have hF := Option.some.inj hF
 subst hF
 exact Rd.out (e := .exit 0) (by intro h; cases h) (And.intro rfl (Wk.an [2] (.ac (.cons (At.blk (by kernel_rfl) (RnB.list (fun _ => rfl))) (.nil _))) [mkV 2 v183.length] (.cons (Rn.mk (Nat.le_of_ble_eq_true rfl) rfl (by simp only [List.length_set])) .nil)))
theorem B70 (p0 : Int) (p1 : (List ((Int × Bool) × (Int × Bool)))) (p2 : Int) (p3 : Bool) (r : (List Int)) (hF : F70 p0 p1 p2 p3 = some r) : TS Try.prog 1 1 c70 (st 86 [(0, ag [iv p0, sv 0 p1.length ANY]), (1, ag [iv p2, .bool p3])]) [ab 93 e93 p1] (NX Try.prog 1 1 [] (FinP Try.prog Try.f70 1 (V70 1 r) (N70 1 r))) := by
 unfold F70 at hF
 refine TS.sq (TS.rg (TI.rn 3 [2, 3] [0, 1, 2] (st 86 [(2, pt 1 0), (3, pt 2 0)]) [ab 93 e93 p1, cl 30 [iv p0, sv 0 p1.length ANY], cl 55 [iv p2, .bool p3]] (TI.dn (NX.sq (TS.sq ?_)))))
 have hX := of_guard hF
 clear hF
 obtain ⟨hg1, hF⟩ := hX
 refine TS.rg (TI.ra 3 [2, 3, 11] (st 86 [(2, pt 1 0), (3, pt 2 0), (11, iv (w64 (2 * p0)))]) (TI.o { val := mkV 3 (List.length (List.replicate (Int.toNat (w64 (2 * p0))) (0 : Int))), new := [.cells 3 (List.flatMap e3 (List.replicate (Int.toNat (w64 (2 * p0))) (0 : Int)))] } (q_make (P := Try.prog) (n := 3) (t := 38) (enc := e3) (s := 1) (e := 3) (y := w64 (2 * p0)) (z := iv 0) (bytes := 8) (0 : Int) (by kernel_rfl) (by kernel_rfl) (by kernel_rfl) (by kernel_rfl) (by kernel_rfl) (by kernel_rfl) rfl hg1 (by decide)) [2, 3, 12] [0, 1, 2, 3] (st 86 [(2, pt 1 0), (3, pt 2 0), (12, mkV 3 (List.length (List.replicate (Int.toNat (w64 (2 * p0))) (0 : Int))))]) [ab 93 e93 p1, cl 30 [iv p0, sv 0 p1.length ANY], cl 55 [iv p2, .bool p3], .cells 3 (List.flatMap e3 (List.replicate (Int.toNat (w64 (2 * p0))) (0 : Int)))] (TI.ra 1 [2, 3, 5] (st 86 [(2, pt 1 0), (3, pt 2 0), (5, mkV 3 (List.length (List.replicate (Int.toNat (w64 (2 * p0))) (0 : Int))))]) (TI.dn (NX.sq (TS.sq ?_))))))
 have hX := of_do hF
 clear hF
 obtain ⟨r2, h3, hF⟩ := hX
 have hX := of_guard hF
 clear hF
 obtain ⟨hg4, hF⟩ := hX
 refine TS.rg (TI.rn 2 [2, 5, 13, 14] [0, 1, 3] (st 86 [(2, pt 1 0), (5, mkV 3 (List.length (List.replicate (Int.toNat (w64 (2 * p0))) (0 : Int)))), (13, mkV 3 (List.length (List.replicate (Int.toNat (w64 (2 * p0))) (0 : Int)))), (14, ag [iv p2, .bool p3])]) (H70_2 p1 p0) (TI.cm (PureSim.ak (C71 _ _ _ h3)) [2, 5, 13, 15] [0, 1, 3] (st 86 [(2, pt 1 0), (5, mkV 3 (List.length (List.replicate (Int.toNat (w64 (2 * p0))) (0 : Int)))), (13, mkV 3 (List.length (List.replicate (Int.toNat (w64 (2 * p0))) (0 : Int)))), (15, iv r2)]) (H70_2 p1 p0) (TI.o { val := .pointer (some ⟨3, 0 + (Int.toNat r2) * 1, none⟩) } (q_ixS 3 0 ((Int.toNat r2) * 1) (by kernel_rfl) hg4) [2, 5, 16] [0, 1, 3] (st 86 [(2, pt 1 0), (5, mkV 3 (List.length (List.replicate (Int.toNat (w64 (2 * p0))) (0 : Int)))), (16, .pointer (some ⟨3, 0 + (Int.toNat r2) * 1, none⟩))]) (H70_2 p1 p0) ?_)))
 refine TI.o { val := undef, upd := some (3, .cells 3 (List.flatMap e3 (List.set (List.replicate (Int.toNat (w64 (2 * p0))) (0 : Int)) (Int.toNat r2) 1))) } (q_stP Try.prog 1 (H70_2 p1 p0) 3 3 (0 + (Int.toNat r2) * 1) (List.replicate (Int.toNat (w64 (2 * p0))) (0 : Int)) e3 1 3 (Int.toNat r2) 0 1 (iv 1) [iv 1] 0 1 (by first | omega | (simp <;> omega))) [2, 5] [0, 1, 3] (st 86 [(2, pt 1 0), (5, mkV 3 (List.length (List.replicate (Int.toNat (w64 (2 * p0))) (0 : Int))))]) [ab 93 e93 p1, cl 30 [iv p0, sv 0 p1.length ANY], .dead, .cells 3 (List.flatMap e3 (List.set (List.replicate (Int.toNat (w64 (2 * p0))) (0 : Int)) (Int.toNat r2) 1))] (TI.dn (NX.sq (TS.sq (TS.sq (TS.rg (TI.ra 1 [2, 5, 6] (st 86 [(2, pt 1 0), (5, mkV 3 (List.length (List.replicate (Int.toNat (w64 (2 * p0))) (0 : Int)))), (6, iv 1)]) (TI.dn (NX.sq ?_))))))))
 refine TS.bk 0 ?_
 have hX := of_do hF
 clear hF
 obtain ⟨r536, h537, hF⟩ := hX
 refine TS.lp (TL.weak (a2 := (st 86 [(2, pt 1 0), (5, mkV 2 (List.length (List.set (List.replicate (Int.toNat (w64 (2 * p0))) (0 : Int)) (Int.toNat r2) 1))), (6, iv 1)])) (h2 := [ab 93 e93 p1, cl 30 [iv p0, sv 0 p1.length ANY], .cells 3 (List.flatMap e3 (List.set (List.replicate (Int.toNat (w64 (2 * p0))) (0 : Int)) (Int.toNat r2) 1))]) (Wk.an [1, 3] (.ac (.lt (.fl (.sl .nil)) (.cons (At.blk (by kernel_rfl) (RnB.list (fun _ => rfl))) (.nil _)))) [pt 1 0, mkV 3 (List.length (List.replicate (Int.toNat (w64 (2 * p0))) (0 : Int))), iv 1] (.pp (.cons (Rn.mk (Nat.le_of_ble_eq_true rfl) rfl (by simp only [List.length_set])) (.fl .nil)))) (TL.post (L70l0 p0 p1 1 (List.set (List.replicate (Int.toNat (w64 (2 * p0))) (0 : Int)) (Int.toNat r2) 1) r536 h537) ?_))
 rintro e a1 h1 hp
 obtain ⟨rfl, hw⟩ := hp
 refine ⟨(st 86 [(5, mkV 1 r536.length)]), [ab 93 e93 p1, .cells 3 (List.flatMap e3 r536)], (NX.bkX (NX.sq (TS.sq (TS.rg (TI.ra 2 [4] (st 86 [(4, mkV 1 r536.length)]) (TI.dn (NX.sq (TS.rt ?_)))))))), hw⟩
 have hF := Option.some.inj hF
 subst hF
 exact ⟨.inr rfl, rfl, mkV 1 r536.length, by kernel_rfl, WkV.made (L := 1) (f := [1]) (by decide) (by decide) rfl (.cons (At.blk (by kernel_rfl) (RnB.list (fun _ => rfl))) (.nil _)) (Rn.mk (Nat.le_of_ble_eq_true rfl) rfl (by simp only [List.length_set]))⟩
theorem C70 (p0 : Int) (p1 : (List ((Int × Bool) × (Int × Bool)))) (p2 : Int) (p3 : Bool) (r : (List Int)) (hF : F70 p0 p1 p2 p3 = some r) : PureSim Try.prog 70 [ag [iv p0, sv 0 p1.length ANY], ag [iv p2, .bool p3]] [ab 93 e93 p1] (V70 1 r) (N70 1 r) :=
 PureSim.of_Fin Try.func70 (c := c70) (by kernel_rfl) (by kernel_rfl) 1 rfl [0, 1] [0] (by kernel_rfl) (B70 p0 p1 p2 p3 r hF)
noncomputable def c60 : Code := Try.f60.code
def S60_0 (p2 : (List (Int × Bool))) (v23 : Int) (p0 : Int) (p1 : (List ((Int × Bool) × (Int × Bool)))) (r48 : (List Int)) : CAct := (st 66 [(1, sv 1 p2.length ANY), (2, pt 2 0), (5, iv v23), (6, pt 3 0), (18, ag [iv p0, sv 0 p1.length ANY]), (19, ag [iv v23, .bool false]), (20, mkV 4 r48.length), (21, ag [iv v23, .bool false])])
def H60_1 (p1 : (List ((Int × Bool) × (Int × Bool)))) (p2 : (List (Int × Bool))) (p0 : Int) (v23 : Int) (r48 : (List Int)) (r60 : (List Int)) : List Blk := [ab 93 e93 p1, ab 55 e55 p2, cl 30 [iv p0, sv 0 p1.length ANY], cl 55 [iv v23, .bool false], .cells 3 (List.flatMap e3 r48), .cells 3 (List.flatMap e3 r60)]
def H60_2 (p1 : (List ((Int × Bool) × (Int × Bool)))) (p2 : (List (Int × Bool))) (p0 : Int) (v23 : Int) (r48 : (List Int)) : List Blk := [ab 93 e93 p1, ab 55 e55 p2, cl 30 [iv p0, sv 0 p1.length ANY], cl 55 [iv v23, .bool false], .cells 3 (List.flatMap e3 r48)]
def S60_3 (p2 : (List (Int × Bool))) (v23 : Int) (p0 : Int) (p1 : (List ((Int × Bool) × (Int × Bool)))) : CAct := (st 66 [(1, sv 1 p2.length ANY), (2, pt 2 0), (5, iv v23), (6, pt 3 0), (18, ag [iv p0, sv 0 p1.length ANY]), (19, ag [iv v23, .bool false])])
def H60_4 (p1 : (List ((Int × Bool) × (Int × Bool)))) (p2 : (List (Int × Bool))) (p0 : Int) (r175 : (List Int)) : List Blk := [ab 93 e93 p1, ab 55 e55 p2, cl 30 [iv p0, sv 0 p1.length ANY], .cells 3 (List.flatMap e3 r175)]
def H60_5 (p1 : (List ((Int × Bool) × (Int × Bool)))) (p2 : (List (Int × Bool))) (p0 : Int) (v23 : Int) : List Blk := [ab 93 e93 p1, ab 55 e55 p2, cl 30 [iv p0, sv 0 p1.length ANY], cl 55 [iv v23, .bool false]]
def H60_6 (p1 : (List ((Int × Bool) × (Int × Bool)))) (p2 : (List (Int × Bool))) (p0 : Int) : List Blk := [ab 93 e93 p1, ab 55 e55 p2, cl 30 [iv p0, sv 0 p1.length ANY], .dead, .dead, .dead]
def H60_7 (p1 : (List ((Int × Bool) × (Int × Bool)))) (p2 : (List (Int × Bool))) (p0 : Int) : List Blk := [ab 93 e93 p1, ab 55 e55 p2, cl 30 [iv p0, sv 0 p1.length ANY]]
def H60_8 (p1 : (List ((Int × Bool) × (Int × Bool)))) (p2 : (List (Int × Bool))) : List Blk := [ab 93 e93 p1, ab 55 e55 p2]
def S60_9 (p2 : (List (Int × Bool))) (v121 : Int) : CAct := (st 66 [(1, sv 1 p2.length ANY), (2, pt 2 0), (7, iv v121)])
def S60_10 (p2 : (List (Int × Bool))) : CAct := (st 66 [(1, sv 1 p2.length ANY), (2, pt 2 0)])
def F60l0 (p0 : Int) (p1 : (List ((Int × Bool) × (Int × Bool)))) (p2 : (List (Int × Bool))) (v23 : Int) : Option (Unit ⊕ Unit) :=
 if decide (v23 < p0) then
  F70 p0 p1 v23 false >>= fun r48 =>
  F76 v23 false >>= fun r50 =>
  F71 r50.1 r50.2 >>= fun r52 =>
  if (0 : Int) ≤ r52 ∧ r52 < (r48.length : Int) then
   some (List.getD r48 (Int.toNat r52) 0) >>= fun o55 =>
   (
    if decide (o55 > 0) then
     F76 v23 false >>= fun r58 =>
     F70 p0 p1 r58.1 r58.2 >>= fun r60 =>
     F71 v23 false >>= fun r62 =>
     if (0 : Int) ≤ r62 ∧ r62 < (r60.length : Int) then
      some (List.getD r60 (Int.toNat r62) 0) >>= fun o65 =>
      some (decide (o65 > 0))
     else none
    else
     some (false)
   : Option Bool) >>= fun m67 =>
   if m67 then
    some (.inl ())
   else
    F60l0 p0 p1 p2 (w64 (v23 + 1))
  else none
 else
  some (.inr ())
 partial_fixpoint
def F60l2 (p0 : Int) (p1 : (List ((Int × Bool) × (Int × Bool)))) (p2 : (List (Int × Bool))) (r175 : (List Int)) (v121 : Int) (v189 : Int) : Option (Unit ⊕ Unit) :=
 if decide (v189 < (p2.length : Int)) then
  if (0 : Int) ≤ v189 ∧ v189 < (p2.length : Int) then
   some (List.getD p2 (Int.toNat v189) (0, false)) >>= fun o205 =>
   F76 o205.1 o205.2 >>= fun r207 =>
   F71 r207.1 r207.2 >>= fun r209 =>
   if (0 : Int) ≤ r209 ∧ r209 < (r175.length : Int) then
    some (List.getD r175 (Int.toNat r209) 0) >>= fun o212 =>
    if decide (o212 > 0) then
     some (.inl ())
    else
     F60l2 p0 p1 p2 r175 v121 (w64 (v189 + 1))
   else none
  else none
 else
  some (.inr ())
 partial_fixpoint
def F60l1 (p0 : Int) (p1 : (List ((Int × Bool) × (Int × Bool)))) (p2 : (List (Int × Bool))) (v121 : Int) : Option (Unit ⊕ Unit) :=
 if decide (v121 < (p2.length : Int)) then
  if (0 : Int) ≤ v121 ∧ v121 < (p2.length : Int) then
   some (List.getD p2 (Int.toNat v121) (0, false)) >>= fun o173 =>
   F70 p0 p1 o173.1 o173.2 >>= fun r175 =>
   F60l2 p0 p1 p2 r175 v121 0 >>= fun r215 =>
   match r215 with
   | .inl o217 =>
    some (.inl ())
   | .inr o218 =>
    F60l1 p0 p1 p2 (w64 (v121 + 1))
  else none
 else
  some (.inr ())
 partial_fixpoint
def F60 (p0 : Int) (p1 : (List ((Int × Bool) × (Int × Bool)))) (p2 : (List (Int × Bool))) : Option Bool :=
 F60l0 p0 p1 p2 0 >>= fun r69 =>
 match r69 with
 | .inl o71 =>
  some false
 | .inr o72 =>
  F60l1 p0 p1 p2 0 >>= fun r219 =>
  match r219 with
  | .inl o221 =>
   some false
  | .inr o222 =>
   some true
def V60 (b : Nat) (r : Bool) : Value := .bool r
def N60 (b : Nat) (r : Bool) : List Blk := []
def P60l0 (p0 : Int) (p1 : (List ((Int × Bool) × (Int × Bool)))) (p2 : (List (Int × Bool))) (r : (Unit ⊕ Unit)) : Post := fun e a h => (match r with | .inl q0 => e = .ret ∧ Wk Try.prog 2 2 a h (st 66 [(4, .bool false)]) (H60_8 p1 p2) | .inr q0 => e = .exit 0 ∧ Wk Try.prog 2 2 a h (S60_10 p2) (H60_7 p1 p2 p0))
theorem L60l0 (p0 : Int) (p1 : (List ((Int × Bool) × (Int × Bool)))) (p2 : (List (Int × Bool))) (v23 : Int) (r : (Unit ⊕ Unit)) (hF : F60l0 p0 p1 p2 v23 = some r) : TL Try.prog 2 2 c60.s2.s1.s2.bd.bd (st 66 [(1, sv 1 p2.length ANY), (2, pt 2 0), (5, iv v23)]) (H60_7 p1 p2 p0) (P60l0 p0 p1 p2 r) := by
 refine F60l0.partial_correctness p0 p1 p2 (motive := fun v23 r => TL Try.prog 2 2 c60.s2.s1.s2.bd.bd (st 66 [(1, sv 1 p2.length ANY), (2, pt 2 0), (5, iv v23)]) (H60_7 p1 p2 p0) (P60l0 p0 p1 p2 r)) ?_ v23 r hF
 clear hF r v23
 intro again ih v23 r hF
 refine TL.round (TS.sq (TS.sq (TS.rg (TI.ra 4 [1, 2, 5, 13] (st 66 [(1, sv 1 p2.length ANY), (2, pt 2 0), (5, iv v23), (13, .bool (decide (v23 < p0)))]) (TI.dn (NX.sq ?_))))))
 refine TS.cd (.tmp 13) (decide (v23 < p0)) (fun hc47 => ?_) (fun hc47 => ?_)
 · replace hF := of_pos hF hc47
   refine TS.sk (NX.sq (TS.sq (TS.bk 1 (TS.sq (TS.rg (TI.rn 4 [1, 2, 5, 6] [0, 1, 2, 3] (st 66 [(1, sv 1 p2.length ANY), (2, pt 2 0), (5, iv v23), (6, pt 3 0)]) (H60_5 p1 p2 p0 v23) (TI.dn (NX.sq ?_))))))))
   refine TS.sq ?_
   have hX := of_do hF
   clear hF
   obtain ⟨r48, h49, hF⟩ := hX
   have hX := of_do hF
   clear hF
   obtain ⟨r50, h51, hF⟩ := hX
   have hX := of_do hF
   clear hF
   obtain ⟨r52, h53, hF⟩ := hX
   have hX := of_guard hF
   clear hF
   obtain ⟨hg54, hF⟩ := hX
   have hX := of_do hF
   clear hF
   obtain ⟨o55, h56, hF⟩ := hX
   replace h56 := Option.some.inj h56
   have hX := of_do hF
   clear hF
   obtain ⟨m67, hm68, hF⟩ := hX
   have hK : NX Try.prog 2 2 [.sq c60.s2.s1.s2.bd.bd.s2.s1.bd.s2.s2, .bk 1, .sq c60.s2.s1.s2.bd.bd.s2.s2] (Rd Try.prog 2 2 c60.s2.s1.s2.bd.bd (P60l0 p0 p1 p2 r)) .normal (st 66 [(1, sv 1 p2.length ANY), (2, pt 2 0), (5, iv v23), (37, .bool m67)]) (H60_6 p1 p2 p0) := by
    refine NX.sq ?_
    cases m67 with
    | true =>
     replace hF := of_pos hF rfl
     refine TS.cdT (.tmp 37) (TS.sq (TS.rg (TI.rn 1 [4] [0, 1] (st 66 [(4, .bool false)]) [ab 93 e93 p1, ab 55 e55 p2, .dead, .dead, .dead, .dead] (TI.dn (NX.sq (TS.rt (NX.bkR (NX.sqR ?_))))))))
     have hF := Option.some.inj hF
     subst hF
     exact Rd.out (e := .ret) (by intro h; cases h) (And.intro rfl (Wk.an [] (.ac (.ac (.nil _))) [.bool false] (.fl .nil)))
    | false =>
     replace hF := of_neg hF rfl
     refine TS.cdF (.tmp 37) (TS.sk (NX.bk (NX.sq (TS.rg (TI.ra 3 [1, 2, 5] (st 66 [(1, sv 1 p2.length ANY), (2, pt 2 0), (5, iv (w64 (v23 + 1)))]) (TI.dn ?_))))))
     exact Rd.again (a2 := (st 66 [(1, sv 1 p2.length ANY), (2, pt 2 0), (5, iv (w64 (v23 + 1)))])) (h2 := (H60_7 p1 p2 p0)) (Wk.an [2] (.ac (.ac (.lt (.fl (.sl .nil)) (.nil _)))) [sv 1 p2.length ANY, pt 2 0, iv (w64 (v23 + 1))] (.sl (.pp (.fl .nil)))) (ih (w64 (v23 + 1)) _ hF)
   rcases Bool.eq_false_or_eq_true (decide (o55 > 0)) with hc57 | hc57
   · replace hm68 := of_pos hm68 hc57
     have hX := of_do hm68
     clear hm68
     obtain ⟨r58, h59, hm68⟩ := hX
     have hX := of_do hm68
     clear hm68
     obtain ⟨r60, h61, hm68⟩ := hX
     have hX := of_do hm68
     clear hm68
     obtain ⟨r62, h63, hm68⟩ := hX
     have hX := of_guard hm68
     clear hm68
     obtain ⟨hg64, hm68⟩ := hX
     have hX := of_do hm68
     clear hm68
     obtain ⟨o65, h66, hm68⟩ := hX
     replace h66 := Option.some.inj h66
     have hm68 := Option.some.inj hm68
     subst hm68
     have hT : ∀ e ∈ ([⟨70, [ag [iv p0, sv 0 p1.length ANY], ag [iv v23, .bool false]], (H60_5 p1 p2 p0 v23), mkV 4 r48.length, [.cells 3 (List.flatMap e3 r48)]⟩, ⟨76, [ag [iv v23, .bool false]], (H60_2 p1 p2 p0 v23 r48), ag [iv r50.1, .bool r50.2], []⟩, ⟨71, [ag [iv r50.1, .bool r50.2]], (H60_2 p1 p2 p0 v23 r48), iv r52, []⟩, ⟨76, [ag [iv v23, .bool false]], (H60_2 p1 p2 p0 v23 r48), ag [iv r58.1, .bool r58.2], []⟩, ⟨70, [ag [iv p0, sv 0 p1.length ANY], ag [iv r58.1, .bool r58.2]], (H60_2 p1 p2 p0 v23 r48), mkV 5 r60.length, [.cells 3 (List.flatMap e3 r60)]⟩, ⟨71, [ag [iv v23, .bool false]], (H60_1 p1 p2 p0 v23 r48 r60), iv r62, []⟩] : List Entry), PureSim Try.prog e.g e.args e.h e.v e.new := by
      intro e he
      simp only [List.mem_cons, List.not_mem_nil, or_false] at he
      rcases he with rfl | rfl | rfl | rfl | rfl | rfl
      · exact (PureSim.ren (hc := [ab 93 e93 p1]) (fun i => List.getD [(0, 0)] i (0, 0)) (C70 _ _ _ _ _ h49) (.ac (.nil _)) (.cons (Rn.agg' (.fl (.cons (Rn.any _ _ _ _ _ _ (Nat.le_of_ble_eq_true rfl) rfl rfl (by decide)) .nil))) (.fl .nil)) (Rn.mk (i' := 4) (Nat.le_of_ble_eq_true rfl) rfl rfl) (newflat_cons (cellsL_flat (fun _ => rfl)) newflat_nil))
      · exact PureSim.ak (C76 _ _ _ h51)
      · exact PureSim.ak (C71 _ _ _ h53)
      · exact PureSim.ak (C76 _ _ _ h59)
      · exact (PureSim.ren (hc := [ab 93 e93 p1]) (fun i => List.getD [(0, 0)] i (0, 0)) (C70 _ _ _ _ _ h61) (.ac (.nil _)) (.cons (Rn.agg' (.fl (.cons (Rn.any _ _ _ _ _ _ (Nat.le_of_ble_eq_true rfl) rfl rfl (by decide)) .nil))) (.fl .nil)) (Rn.mk (i' := 5) (Nat.le_of_ble_eq_true rfl) rfl rfl) (newflat_cons (cellsL_flat (fun _ => rfl)) newflat_nil))
      exact PureSim.ak (C71 _ _ _ h63)
     refine TS.dp [⟨70, [ag [iv p0, sv 0 p1.length ANY], ag [iv v23, .bool false]], (H60_5 p1 p2 p0 v23), mkV 4 r48.length, [.cells 3 (List.flatMap e3 r48)]⟩, ⟨76, [ag [iv v23, .bool false]], (H60_2 p1 p2 p0 v23 r48), ag [iv r50.1, .bool r50.2], []⟩, ⟨71, [ag [iv r50.1, .bool r50.2]], (H60_2 p1 p2 p0 v23 r48), iv r52, []⟩, ⟨76, [ag [iv v23, .bool false]], (H60_2 p1 p2 p0 v23 r48), ag [iv r58.1, .bool r58.2], []⟩, ⟨70, [ag [iv p0, sv 0 p1.length ANY], ag [iv r58.1, .bool r58.2]], (H60_2 p1 p2 p0 v23 r48), mkV 5 r60.length, [.cells 3 (List.flatMap e3 r60)]⟩, ⟨71, [ag [iv v23, .bool false]], (H60_1 p1 p2 p0 v23 r48 r60), iv r62, []⟩] hT mixed 15 [1, 2, 5, 37] [0, 1, 2] (st 66 [(1, sv 1 p2.length ANY), (2, pt 2 0), (5, iv v23), (37, .bool (decide (o65 > 0)))]) (H60_6 p1 p2 p0) ?_ ?_
     · refine QJ.rn (qs (S60_3 p2 v23 p0 p1) (H60_5 p1 p2 p0 v23) [] []) 2 (QJ.o { val := mkV 4 r48.length, new := [.cells 3 (List.flatMap e3 r48)] } (qOf_call (g := 70) (args := [ag [iv p0, sv 0 p1.length ANY], ag [iv v23, .bool false]]) (by kernel_rfl) lookC_hit) (QJ.rn (qs (S60_0 p2 v23 p0 p1 r48) (H60_2 p1 p2 p0 v23 r48) [(2, 4, 5)] []) 1 (QJ.o { val := ag [iv r50.1, .bool r50.2], new := [] } (qOf_call (g := 76) (args := [ag [iv v23, .bool false]]) (by kernel_rfl) (lookC_skip (fun hg => absurd (show (70 : Nat) = 76 from hg) (by decide)) lookC_hit)) (QJ.o { val := iv r52, new := [] } (qOf_call (g := 71) (args := [ag [iv r50.1, .bool r50.2]]) (by kernel_rfl) (lookC_skip (fun hg => absurd (show (70 : Nat) = 71 from hg) (by decide)) (lookC_skip (fun hg => absurd (show (76 : Nat) = 71 from hg) (by decide)) lookC_hit))) (QJ.o { val := .pointer (some ⟨4, 0 + (Int.toNat r52) * 1, none⟩) } (q_ixS 4 0 ((Int.toNat r52) * 1) (by kernel_rfl) hg54) (QJ.o { val := iv o55 } (q_n1 Try.prog (H60_2 p1 p2 p0 v23 r48) 3 4 (0 + (Int.toNat r52) * 1) r48 e3 1 3 (Int.toNat r52) 0 0 h56) (QJ.o { val := .bool true } (q_conv (e := decide (o55 > 0)) (b := true) (by kernel_rfl) hc57) (QJ.rn (qs (st 66 [(1, sv 1 p2.length ANY), (2, pt 2 0), (5, iv v23), (6, pt 3 0), (18, ag [iv p0, sv 0 p1.length ANY]), (19, ag [iv v23, .bool false]), (20, mkV 4 r48.length), (21, ag [iv v23, .bool false]), (22, ag [iv r50.1, .bool r50.2]), (23, iv r52), (24, .pointer (some ⟨4, 0 + (Int.toNat r52) * 1, none⟩)), (25, iv o55), (26, .bool true), (27, .bool true), (28, ag [iv p0, sv 0 p1.length ANY]), (29, ag [iv v23, .bool false])]) (H60_2 p1 p2 p0 v23 r48) [(2, 4, 5)] []) 3 ?_))))))))
       refine QJ.o { val := ag [iv r58.1, .bool r58.2], new := [] } (qOf_call (g := 76) (args := [ag [iv v23, .bool false]]) (by kernel_rfl) (lookC_skip (fun hg => absurd (show (70 : Nat) = 76 from hg) (by decide)) (lookC_skip (by intro _ ha hh; first | (exact absurd (congrArg List.length hh) (Nat.ne_of_beq_eq_false rfl)) | (have hr := Option.some.inj (h51.symm.trans (Eq.trans (congr (congrArg F76 (Eq.refl v23)) (Eq.refl false)) h59)); first | (subst hr; rfl) | (cases hr; done) | (cases hr; rfl))) (lookC_skip (fun hg => absurd (show (71 : Nat) = 76 from hg) (by decide)) lookC_hit)))) ?_
       refine QJ.o { val := mkV 5 r60.length, new := [.cells 3 (List.flatMap e3 r60)] } (qOf_call (g := 70) (args := [ag [iv p0, sv 0 p1.length ANY], ag [iv r58.1, .bool r58.2]]) (by kernel_rfl) (lookC_skip (by intro _ ha hh; first | (exact absurd (congrArg List.length hh) (Nat.ne_of_beq_eq_false rfl)) | (have hq := h49; have hi := h61; clear hF; first | (exfalso; simp at ha; done) | ((try simp at ha); have hr := Option.some.inj (hq.symm.trans (Eq.trans (by first | rfl | (congr 1 <;> first | rfl | omega | simp_all)) hi)); subst hr; rfl))) (lookC_skip (fun hg => absurd (show (76 : Nat) = 70 from hg) (by decide)) (lookC_skip (fun hg => absurd (show (71 : Nat) = 70 from hg) (by decide)) (lookC_skip (fun hg => absurd (show (76 : Nat) = 70 from hg) (by decide)) lookC_hit))))) (QJ.rn (qs (st 66 [(1, sv 1 p2.length ANY), (2, pt 2 0), (5, iv v23), (6, pt 3 0), (18, ag [iv p0, sv 0 p1.length ANY]), (19, ag [iv v23, .bool false]), (20, mkV 4 r48.length), (21, ag [iv v23, .bool false]), (22, ag [iv r50.1, .bool r50.2]), (23, iv r52), (24, .pointer (some ⟨4, 0 + (Int.toNat r52) * 1, none⟩)), (25, iv o55), (26, .bool true), (27, .bool true), (28, ag [iv p0, sv 0 p1.length ANY]), (29, ag [iv v23, .bool false]), (30, ag [iv r58.1, .bool r58.2]), (31, mkV 5 r60.length), (32, ag [iv v23, .bool false])]) (H60_1 p1 p2 p0 v23 r48 r60) [(13, 5, 6), (2, 4, 5)] []) 1 (QJ.dn ⟨rfl, ?_⟩))
       exact SJ.o { val := iv r62, new := [] } (qOf_call (g := 71) (args := [ag [iv v23, .bool false]]) (by kernel_rfl) (lookC_skip (fun hg => absurd (show (70 : Nat) = 71 from hg) (by decide)) (lookC_skip (fun hg => absurd (show (76 : Nat) = 71 from hg) (by decide)) (lookC_skip (by intro _ ha hh; first | (exact absurd (congrArg List.length hh) (Nat.ne_of_beq_eq_false rfl)) | (have hr := Option.some.inj (h53.symm.trans (Eq.trans (congr (congrArg F71 (show r50.1 = v23 from congrArg (leafI 0) ha)) (show r50.2 = false from congrArg (leafB 1) ha)) h63)); first | (subst hr; rfl) | (cases hr; done) | (cases hr; rfl))) (lookC_skip (fun hg => absurd (show (76 : Nat) = 71 from hg) (by decide)) (lookC_skip (fun hg => absurd (show (70 : Nat) = 71 from hg) (by decide)) lookC_hit)))))) (SJ.o { val := .pointer (some ⟨5, 0 + (Int.toNat r62) * 1, none⟩) } (q_ixS 5 0 ((Int.toNat r62) * 1) (by kernel_rfl) hg64) (SJ.o { val := iv o65 } (q_n1 Try.prog (H60_1 p1 p2 p0 v23 r48 r60) 3 5 (0 + (Int.toNat r62) * 1) r60 e3 1 3 (Int.toNat r62) 0 0 h66) SJ.la))
     exact hK
   replace hm68 := of_neg hm68 hc57
   have hm68 := Option.some.inj hm68
   subst hm68
   have hT : ∀ e ∈ ([⟨70, [ag [iv p0, sv 0 p1.length ANY], ag [iv v23, .bool false]], (H60_5 p1 p2 p0 v23), mkV 4 r48.length, [.cells 3 (List.flatMap e3 r48)]⟩, ⟨76, [ag [iv v23, .bool false]], (H60_2 p1 p2 p0 v23 r48), ag [iv r50.1, .bool r50.2], []⟩, ⟨71, [ag [iv r50.1, .bool r50.2]], (H60_2 p1 p2 p0 v23 r48), iv r52, []⟩] : List Entry), PureSim Try.prog e.g e.args e.h e.v e.new := by
    intro e he
    simp only [List.mem_cons, List.not_mem_nil, or_false] at he
    rcases he with rfl | rfl | rfl
    · exact (PureSim.ren (hc := [ab 93 e93 p1]) (fun i => List.getD [(0, 0)] i (0, 0)) (C70 _ _ _ _ _ h49) (.ac (.nil _)) (.cons (Rn.agg' (.fl (.cons (Rn.any _ _ _ _ _ _ (Nat.le_of_ble_eq_true rfl) rfl rfl (by decide)) .nil))) (.fl .nil)) (Rn.mk (i' := 4) (Nat.le_of_ble_eq_true rfl) rfl rfl) (newflat_cons (cellsL_flat (fun _ => rfl)) newflat_nil))
    · exact PureSim.ak (C76 _ _ _ h51)
    exact PureSim.ak (C71 _ _ _ h53)
   refine TS.dp [⟨70, [ag [iv p0, sv 0 p1.length ANY], ag [iv v23, .bool false]], (H60_5 p1 p2 p0 v23), mkV 4 r48.length, [.cells 3 (List.flatMap e3 r48)]⟩, ⟨76, [ag [iv v23, .bool false]], (H60_2 p1 p2 p0 v23 r48), ag [iv r50.1, .bool r50.2], []⟩, ⟨71, [ag [iv r50.1, .bool r50.2]], (H60_2 p1 p2 p0 v23 r48), iv r52, []⟩] hT mixed 15 [1, 2, 5, 37] [0, 1, 2] (st 66 [(1, sv 1 p2.length ANY), (2, pt 2 0), (5, iv v23), (37, .bool false)]) [ab 93 e93 p1, ab 55 e55 p2, cl 30 [iv p0, sv 0 p1.length ANY], .dead, .dead] ?_ ?_
   · refine QJ.rn (qs (S60_3 p2 v23 p0 p1) (H60_5 p1 p2 p0 v23) [] []) 2 (QJ.o { val := mkV 4 r48.length, new := [.cells 3 (List.flatMap e3 r48)] } (qOf_call (g := 70) (args := [ag [iv p0, sv 0 p1.length ANY], ag [iv v23, .bool false]]) (by kernel_rfl) lookC_hit) (QJ.rn (qs (S60_0 p2 v23 p0 p1 r48) (H60_2 p1 p2 p0 v23 r48) [(2, 4, 5)] []) 1 (QJ.o { val := ag [iv r50.1, .bool r50.2], new := [] } (qOf_call (g := 76) (args := [ag [iv v23, .bool false]]) (by kernel_rfl) (lookC_skip (fun hg => absurd (show (70 : Nat) = 76 from hg) (by decide)) lookC_hit)) (QJ.o { val := iv r52, new := [] } (qOf_call (g := 71) (args := [ag [iv r50.1, .bool r50.2]]) (by kernel_rfl) (lookC_skip (fun hg => absurd (show (70 : Nat) = 71 from hg) (by decide)) (lookC_skip (fun hg => absurd (show (76 : Nat) = 71 from hg) (by decide)) lookC_hit))) (QJ.o { val := .pointer (some ⟨4, 0 + (Int.toNat r52) * 1, none⟩) } (q_ixS 4 0 ((Int.toNat r52) * 1) (by kernel_rfl) hg54) (QJ.o { val := iv o55 } (q_n1 Try.prog (H60_2 p1 p2 p0 v23 r48) 3 4 (0 + (Int.toNat r52) * 1) r48 e3 1 3 (Int.toNat r52) 0 0 h56) (QJ.o { val := .bool false } (q_conv (e := decide (o55 > 0)) (b := false) (by kernel_rfl) hc57) (QJ.rn (qs (st 66 [(1, sv 1 p2.length ANY), (2, pt 2 0), (5, iv v23), (6, pt 3 0), (18, ag [iv p0, sv 0 p1.length ANY]), (19, ag [iv v23, .bool false]), (20, mkV 4 r48.length), (21, ag [iv v23, .bool false]), (22, ag [iv r50.1, .bool r50.2]), (23, iv r52), (24, .pointer (some ⟨4, 0 + (Int.toNat r52) * 1, none⟩)), (25, iv o55), (26, .bool false), (27, .bool false), (28, undef), (29, undef), (30, undef), (31, undef), (32, undef)]) (H60_2 p1 p2 p0 v23 r48) [(2, 4, 5)] []) 6 ?_))))))))
     exact QJ.dn ⟨rfl, SJ.la⟩
   exact TS.weak (Wk.pad 1) hK
 replace hF := of_neg hF hc47
 refine TS.ex 0 (NX.sqX ?_)
 have hF := Option.some.inj hF
 subst hF
 exact Rd.out (e := .exit 0) (by intro h; cases h) (And.intro rfl (Wk.an [2] (.ac (.ac (.lt (.fl (.sl .nil)) (.nil _)))) [sv 1 p2.length ANY, pt 2 0] (.sl (.pp .nil))))
def P60l2 (p0 : Int) (p1 : (List ((Int × Bool) × (Int × Bool)))) (p2 : (List (Int × Bool))) (r175 : (List Int)) (v121 : Int) (r : (Unit ⊕ Unit)) : Post := fun e a h => (match r with | .inl q0 => e = .ret ∧ Wk Try.prog 2 2 a h (st 66 [(4, .bool false)]) (H60_8 p1 p2) | .inr q0 => e = .exit 4 ∧ Wk Try.prog 2 2 a h (S60_9 p2 v121) (H60_7 p1 p2 p0))
theorem L60l2 (p0 : Int) (p1 : (List ((Int × Bool) × (Int × Bool)))) (p2 : (List (Int × Bool))) (r175 : (List Int)) (v121 : Int) (v189 : Int) (r : (Unit ⊕ Unit)) (hF : F60l2 p0 p1 p2 r175 v121 v189 = some r) : TL Try.prog 2 2 c60.s2.s2.s1.s2.bd.bd.s2.s1.bd.s2.s2.bd.bd (st 66 [(1, sv 1 p2.length ANY), (2, pt 2 0), (7, iv v121), (8, mkV 3 r175.length), (9, iv v189)]) (H60_4 p1 p2 p0 r175) (P60l2 p0 p1 p2 r175 v121 r) := by
 refine F60l2.partial_correctness p0 p1 p2 r175 v121 (motive := fun v189 r => TL Try.prog 2 2 c60.s2.s2.s1.s2.bd.bd.s2.s1.bd.s2.s2.bd.bd (st 66 [(1, sv 1 p2.length ANY), (2, pt 2 0), (7, iv v121), (8, mkV 3 r175.length), (9, iv v189)]) (H60_4 p1 p2 p0 r175) (P60l2 p0 p1 p2 r175 v121 r)) ?_ v189 r hF
 clear hF r v189
 intro again ih v189 r hF
 refine TL.round (TS.sq (TS.sq (TS.rg (TI.ra 4 [1, 2, 7, 8, 9, 53] (st 66 [(1, sv 1 p2.length ANY), (2, pt 2 0), (7, iv v121), (8, mkV 3 r175.length), (9, iv v189), (53, .bool (decide (v189 < (p2.length : Int))))]) (TI.dn (NX.sq ?_))))))
 refine TS.cd (.tmp 53) (decide (v189 < (p2.length : Int))) (fun hc203 => ?_) (fun hc203 => ?_)
 · replace hF := of_pos hF hc203
   refine TS.sk (NX.sq (TS.sq (TS.bk 5 (TS.sq ?_))))
   have hX := of_guard hF
   clear hF
   obtain ⟨hg204, hF⟩ := hX
   have hX := of_do hF
   clear hF
   obtain ⟨o205, h206, hF⟩ := hX
   replace h206 := Option.some.inj h206
   have hX := of_do hF
   clear hF
   obtain ⟨r207, h208, hF⟩ := hX
   have hX := of_do hF
   clear hF
   obtain ⟨r209, h210, hF⟩ := hX
   have hX := of_guard hF
   clear hF
   obtain ⟨hg211, hF⟩ := hX
   have hX := of_do hF
   clear hF
   obtain ⟨o212, h213, hF⟩ := hX
   replace h213 := Option.some.inj h213
   refine TS.rg (TI.ra 3 [1, 2, 7, 8, 9, 56, 57, 58] (st 66 [(1, sv 1 p2.length ANY), (2, pt 2 0), (7, iv v121), (8, mkV 3 r175.length), (9, iv v189), (56, mkV 3 r175.length), (57, sv 1 p2.length ANY), (58, iv v189)]) (TI.o { val := .pointer (some ⟨1, 0 + (Int.toNat v189) * 2, none⟩) } (q_ixS 1 0 ((Int.toNat v189) * 2) (by kernel_rfl) hg204) [1, 2, 7, 8, 9, 56, 59] [0, 1, 2, 3] (st 66 [(1, sv 1 p2.length ANY), (2, pt 2 0), (7, iv v121), (8, mkV 3 r175.length), (9, iv v189), (56, mkV 3 r175.length), (59, .pointer (some ⟨1, 0 + (Int.toNat v189) * 2, none⟩))]) (H60_4 p1 p2 p0 r175) (TI.o { val := ag [iv o205.1, .bool o205.2] } (q_nAa Try.prog (H60_4 p1 p2 p0 r175) 55 1 (0 + (Int.toNat v189) * 2) p2 e55 2 55 (Int.toNat v189) (0, false) h206) [1, 2, 7, 8, 9, 56, 60] [0, 1, 2, 3] (st 66 [(1, sv 1 p2.length ANY), (2, pt 2 0), (7, iv v121), (8, mkV 3 r175.length), (9, iv v189), (56, mkV 3 r175.length), (60, ag [iv o205.1, .bool o205.2])]) (H60_4 p1 p2 p0 r175) (TI.cm (PureSim.ak (C76 _ _ _ h208)) [1, 2, 7, 8, 9, 56, 61] [0, 1, 2, 3] (st 66 [(1, sv 1 p2.length ANY), (2, pt 2 0), (7, iv v121), (8, mkV 3 r175.length), (9, iv v189), (56, mkV 3 r175.length), (61, ag [iv r207.1, .bool r207.2])]) (H60_4 p1 p2 p0 r175) (TI.cm (PureSim.ak (C71 _ _ _ h210)) [1, 2, 7, 8, 9, 56, 62] [0, 1, 2, 3] (st 66 [(1, sv 1 p2.length ANY), (2, pt 2 0), (7, iv v121), (8, mkV 3 r175.length), (9, iv v189), (56, mkV 3 r175.length), (62, iv r209)]) (H60_4 p1 p2 p0 r175) (TI.o { val := .pointer (some ⟨3, 0 + (Int.toNat r209) * 1, none⟩) } (q_ixS 3 0 ((Int.toNat r209) * 1) (by kernel_rfl) hg211) [1, 2, 7, 8, 9, 63] [0, 1, 2, 3] (st 66 [(1, sv 1 p2.length ANY), (2, pt 2 0), (7, iv v121), (8, mkV 3 r175.length), (9, iv v189), (63, .pointer (some ⟨3, 0 + (Int.toNat r209) * 1, none⟩))]) (H60_4 p1 p2 p0 r175) (TI.o { val := iv o212 } (q_n1 Try.prog (H60_4 p1 p2 p0 r175) 3 3 (0 + (Int.toNat r209) * 1) r175 e3 1 3 (Int.toNat r209) 0 0 h213) [1, 2, 7, 8, 9, 64] [0, 1, 2, 3] (st 66 [(1, sv 1 p2.length ANY), (2, pt 2 0), (7, iv v121), (8, mkV 3 r175.length), (9, iv v189), (64, iv o212)]) (H60_4 p1 p2 p0 r175) (TI.ra 1 [1, 2, 7, 8, 9, 65] (st 66 [(1, sv 1 p2.length ANY), (2, pt 2 0), (7, iv v121), (8, mkV 3 r175.length), (9, iv v189), (65, .bool (decide (o212 > 0)))]) ?_))))))))
   refine TI.dn (NX.sq ?_)
   refine TS.cd (.tmp 65) (decide (o212 > 0)) (fun hc214 => ?_) (fun hc214 => ?_)
   · replace hF := of_pos hF hc214
     refine TS.sq (TS.rg (TI.rn 1 [4] [0, 1] (st 66 [(4, .bool false)]) [ab 93 e93 p1, ab 55 e55 p2, .dead, .dead] (TI.dn (NX.sq (TS.rt (NX.bkR (NX.sqR ?_)))))))
     have hF := Option.some.inj hF
     subst hF
     exact Rd.out (e := .ret) (by intro h; cases h) (And.intro rfl (Wk.an [] (.ac (.ac (.nil _))) [.bool false] (.fl .nil)))
   replace hF := of_neg hF hc214
   refine TS.sk (NX.bk (NX.sq (TS.rg (TI.ra 3 [1, 2, 7, 8, 9] (st 66 [(1, sv 1 p2.length ANY), (2, pt 2 0), (7, iv v121), (8, mkV 3 r175.length), (9, iv (w64 (v189 + 1)))]) (TI.dn ?_)))))
   exact Rd.again (a2 := (st 66 [(1, sv 1 p2.length ANY), (2, pt 2 0), (7, iv v121), (8, mkV 3 r175.length), (9, iv (w64 (v189 + 1)))])) (h2 := (H60_4 p1 p2 p0 r175)) (Wk.an [2, 3] (.ac (.ac (.lt (.fl (.sl .nil)) (.cons (At.blk (by kernel_rfl) (RnB.list (fun _ => rfl))) (.nil _))))) [sv 1 p2.length ANY, pt 2 0, iv v121, mkV 3 r175.length, iv (w64 (v189 + 1))] (.sl (.pp (.fl (.cons (Rn.mk (Nat.le_of_ble_eq_true rfl) rfl (by simp only [List.length_set])) (.fl .nil)))))) (ih (w64 (v189 + 1)) _ hF)
 replace hF := of_neg hF hc203
 refine TS.ex 4 (NX.sqX ?_)
 have hF := Option.some.inj hF
 subst hF
 exact Rd.out (e := .exit 4) (by intro h; cases h) (And.intro rfl (Wk.an [2] (.ac (.ac (.lt (.fl (.sl .nil)) (.nil _)))) [sv 1 p2.length ANY, pt 2 0, iv v121] (.sl (.pp (.fl .nil)))))
def P60l1 (p0 : Int) (p1 : (List ((Int × Bool) × (Int × Bool)))) (p2 : (List (Int × Bool))) (r : (Unit ⊕ Unit)) : Post := fun e a h => (match r with | .inl q0 => e = .ret ∧ Wk Try.prog 2 2 a h (st 66 [(4, .bool false)]) (H60_8 p1 p2) | .inr q0 => e = .exit 2 ∧ Wk Try.prog 2 2 a h (st 66 []) (H60_8 p1 p2))
theorem L60l1 (p0 : Int) (p1 : (List ((Int × Bool) × (Int × Bool)))) (p2 : (List (Int × Bool))) (v121 : Int) (r : (Unit ⊕ Unit)) (hF : F60l1 p0 p1 p2 v121 = some r) : TL Try.prog 2 2 c60.s2.s2.s1.s2.bd.bd (S60_9 p2 v121) (H60_7 p1 p2 p0) (P60l1 p0 p1 p2 r) := by
 refine F60l1.partial_correctness p0 p1 p2 (motive := fun v121 r => TL Try.prog 2 2 c60.s2.s2.s1.s2.bd.bd (S60_9 p2 v121) (H60_7 p1 p2 p0) (P60l1 p0 p1 p2 r)) ?_ v121 r hF
 clear hF r v121
 intro again ih v121 r hF
 refine TL.round (TS.sq (TS.sq (TS.rg (TI.ra 4 [1, 2, 7, 41] (st 66 [(1, sv 1 p2.length ANY), (2, pt 2 0), (7, iv v121), (41, .bool (decide (v121 < (p2.length : Int))))]) (TI.dn (NX.sq ?_))))))
 refine TS.cd (.tmp 41) (decide (v121 < (p2.length : Int))) (fun hc171 => ?_) (fun hc171 => ?_)
 · replace hF := of_pos hF hc171
   refine TS.sk (NX.sq (TS.sq (TS.bk 3 (TS.sq ?_))))
   have hX := of_guard hF
   clear hF
   obtain ⟨hg172, hF⟩ := hX
   have hX := of_do hF
   clear hF
   obtain ⟨o173, h174, hF⟩ := hX
   replace h174 := Option.some.inj h174
   have hX := of_do hF
   clear hF
   obtain ⟨r175, h176, hF⟩ := hX
   have hT : ∀ e ∈ ([⟨70, [ag [iv p0, sv 0 p1.length ANY], ag [iv o173.1, .bool o173.2]], (H60_7 p1 p2 p0), mkV 3 r175.length, [.cells 3 (List.flatMap e3 r175)]⟩] : List Entry), PureSim Try.prog e.g e.args e.h e.v e.new := by
    intro e he
    simp only [List.mem_cons, List.not_mem_nil, or_false] at he
    rcases he with rfl
    exact (PureSim.ren (hc := [ab 93 e93 p1]) (fun i => List.getD [(0, 0)] i (0, 0)) (C70 _ _ _ _ _ h176) (.ac (.nil _)) (.cons (Rn.agg' (.fl (.cons (Rn.any _ _ _ _ _ _ (Nat.le_of_ble_eq_true rfl) rfl rfl (by decide)) .nil))) (.fl .nil)) (Rn.mk (i' := 3) (Nat.le_of_ble_eq_true rfl) rfl rfl) (newflat_cons (cellsL_flat (fun _ => rfl)) newflat_nil))
   refine TS.dp [⟨70, [ag [iv p0, sv 0 p1.length ANY], ag [iv o173.1, .bool o173.2]], (H60_7 p1 p2 p0), mkV 3 r175.length, [.cells 3 (List.flatMap e3 r175)]⟩] hT mixed 5 [1, 2, 7, 8] [0, 1, 2, 3] (st 66 [(1, sv 1 p2.length ANY), (2, pt 2 0), (7, iv v121), (8, mkV 3 r175.length)]) (H60_4 p1 p2 p0 r175) ?_ ?_
   · exact QJ.rn (qs (st 66 [(1, sv 1 p2.length ANY), (2, pt 2 0), (7, iv v121), (41, .bool (decide (v121 < (p2.length : Int)))), (44, ag [iv p0, sv 0 p1.length ANY]), (45, sv 1 p2.length ANY), (46, iv v121)]) (H60_7 p1 p2 p0) [] []) 3 (QJ.o { val := .pointer (some ⟨1, 0 + (Int.toNat v121) * 2, none⟩) } (q_ixS 1 0 ((Int.toNat v121) * 2) (by kernel_rfl) hg172) (QJ.o { val := ag [iv o173.1, .bool o173.2] } (q_nAa Try.prog (H60_7 p1 p2 p0) 55 1 (0 + (Int.toNat v121) * 2) p2 e55 2 55 (Int.toNat v121) (0, false) h174) (QJ.dn ⟨rfl, (SJ.o { val := mkV 3 r175.length, new := [.cells 3 (List.flatMap e3 r175)] } (qOf_call (g := 70) (args := [ag [iv p0, sv 0 p1.length ANY], ag [iv o173.1, .bool o173.2]]) (by kernel_rfl) lookC_hit) SJ.la)⟩)))
   refine TS.sq (TS.rg (TI.ra 1 [1, 2, 7, 8, 9] (st 66 [(1, sv 1 p2.length ANY), (2, pt 2 0), (7, iv v121), (8, mkV 3 r175.length), (9, iv 0)]) (TI.dn (NX.sq (TS.bk 4 ?_)))))
   have hX := of_do hF
   clear hF
   obtain ⟨r215, h216, hF⟩ := hX
   refine TS.lp (TL.weak (a2 := (st 66 [(1, sv 1 p2.length ANY), (2, pt 2 0), (7, iv v121), (8, mkV 3 r175.length), (9, iv 0)])) (h2 := (H60_4 p1 p2 p0 r175)) (Wk.an [2, 3] (.ac (.ac (.lt (.fl (.sl .nil)) (.cons (At.blk (by kernel_rfl) (RnB.list (fun _ => rfl))) (.nil _))))) [sv 1 p2.length ANY, pt 2 0, iv v121, mkV 3 r175.length, iv 0] (.sl (.pp (.fl (.cons (Rn.mk (Nat.le_of_ble_eq_true rfl) rfl (by simp only [List.length_set])) (.fl .nil)))))) (TL.post (L60l2 p0 p1 p2 r175 v121 0 r215 h216) ?_))
   rintro e a1 h1 hp
   rcases r215 with o217 | o218
   · skip
     obtain ⟨rfl, hw⟩ := hp
     refine ⟨(st 66 [(4, .bool false)]), (H60_8 p1 p2), (NX.bkR (NX.bkR (NX.sqR ?_))), hw⟩
     have hF := Option.some.inj hF
     subst hF
     exact Rd.out (e := .ret) (by intro h; cases h) (And.intro rfl (Wk.an [] (.ac (.ac (.nil _))) [.bool false] (.fl .nil)))
   skip
   obtain ⟨rfl, hw⟩ := hp
   refine ⟨(S60_9 p2 v121), (H60_7 p1 p2 p0), (NX.bkX (NX.bk (NX.sq (TS.rg (TI.ra 3 [1, 2, 7] (st 66 [(1, sv 1 p2.length ANY), (2, pt 2 0), (7, iv (w64 (v121 + 1)))]) (TI.dn ?_)))))), hw⟩
   exact Rd.again (a2 := (st 66 [(1, sv 1 p2.length ANY), (2, pt 2 0), (7, iv (w64 (v121 + 1)))])) (h2 := (H60_7 p1 p2 p0)) (Wk.an [2] (.ac (.ac (.lt (.fl (.sl .nil)) (.nil _)))) [sv 1 p2.length ANY, pt 2 0, iv (w64 (v121 + 1))] (.sl (.pp (.fl .nil)))) (ih (w64 (v121 + 1)) _ hF)
 replace hF := of_neg hF hc171
 refine TS.ex 2 (NX.sqX ?_)
 have hF := Option.some.inj hF
 subst hF
 exact Rd.out (e := .exit 2) (by intro h; cases h) (And.intro rfl (Wk.an [] (.ac (.ac (.nil _))) [] .nil))
theorem B60 (p0 : Int) (p1 : (List ((Int × Bool) × (Int × Bool)))) (p2 : (List (Int × Bool))) (r : Bool) (hF : F60 p0 p1 p2 = some r) : TS Try.prog 2 2 c60 (st 66 [(0, ag [iv p0, sv 0 p1.length ANY]), (1, sv 1 p2.length ANY)]) (H60_8 p1 p2) (NX Try.prog 2 2 [] (FinP Try.prog Try.f60 2 (V60 2 r) (N60 2 r))) := by
 unfold F60 at hF
 refine TS.sq (TS.rg (TI.rn 2 [1, 2] [0, 1, 2] (S60_10 p2) (H60_7 p1 p2 p0) (TI.dn (NX.sq (TS.sq (TS.sq (TS.rg (TI.ra 1 [1, 2, 5] (st 66 [(1, sv 1 p2.length ANY), (2, pt 2 0), (5, iv 0)]) ?_))))))))
 refine TI.dn (NX.sq (TS.bk 0 ?_))
 have hX := of_do hF
 clear hF
 obtain ⟨r69, h70, hF⟩ := hX
 refine TS.lp (TL.weak (a2 := (st 66 [(1, sv 1 p2.length ANY), (2, pt 2 0), (5, iv 0)])) (h2 := (H60_7 p1 p2 p0)) (Wk.an [2] (.ac (.ac (.lt (.fl (.sl .nil)) (.nil _)))) [sv 1 p2.length ANY, pt 2 0, iv 0] (.sl (.pp (.fl .nil)))) (TL.post (L60l0 p0 p1 p2 0 r69 h70) ?_))
 rintro e a1 h1 hp
 rcases r69 with o71 | o72
 · skip
   obtain ⟨rfl, hw⟩ := hp
   refine ⟨(st 66 [(4, .bool false)]), (H60_8 p1 p2), (NX.bkR (NX.sqR ?_)), hw⟩
   have hF := Option.some.inj hF
   subst hF
   exact ⟨.inr rfl, rfl, .bool false, by kernel_rfl, WkV.flat0 (by kernel_rfl) (Nat.le_of_ble_eq_true rfl)⟩
 skip
 obtain ⟨rfl, hw⟩ := hp
 refine ⟨(S60_10 p2), (H60_7 p1 p2 p0), (NX.bkX (NX.sq (TS.sq (TS.sq (TS.rg (TI.ra 1 [1, 2, 7] (st 66 [(1, sv 1 p2.length ANY), (2, pt 2 0), (7, iv 0)]) (TI.dn (NX.sq ?_)))))))), hw⟩
 refine TS.bk 2 ?_
 have hX := of_do hF
 clear hF
 obtain ⟨r219, h220, hF⟩ := hX
 refine TS.lp (TL.weak (a2 := (st 66 [(1, sv 1 p2.length ANY), (2, pt 2 0), (7, iv 0)])) (h2 := (H60_7 p1 p2 p0)) (Wk.an [2] (.ac (.ac (.lt (.fl (.sl .nil)) (.nil _)))) [sv 1 p2.length ANY, pt 2 0, iv 0] (.sl (.pp (.fl .nil)))) (TL.post (L60l1 p0 p1 p2 0 r219 h220) ?_))
 rintro e a1 h1 hp
 rcases r219 with o221 | o222
 · skip
   obtain ⟨rfl, hw⟩ := hp
   refine ⟨(st 66 [(4, .bool false)]), (H60_8 p1 p2), (NX.bkR (NX.sqR ?_)), hw⟩
   have hF := Option.some.inj hF
   subst hF
   exact ⟨.inr rfl, rfl, .bool false, by kernel_rfl, WkV.flat0 (by kernel_rfl) (Nat.le_of_ble_eq_true rfl)⟩
 skip
 obtain ⟨rfl, hw⟩ := hp
 refine ⟨(st 66 []), (H60_8 p1 p2), (NX.bkX (NX.sq (TS.sq (TS.rg (TI.ra 1 [4] (st 66 [(4, .bool true)]) (TI.dn (NX.sq (TS.rt ?_)))))))), hw⟩
 have hF := Option.some.inj hF
 subst hF
 exact ⟨.inr rfl, rfl, .bool true, by kernel_rfl, WkV.flat0 (by kernel_rfl) (Nat.le_of_ble_eq_true rfl)⟩
theorem C60 (p0 : Int) (p1 : (List ((Int × Bool) × (Int × Bool)))) (p2 : (List (Int × Bool))) (r : Bool) (hF : F60 p0 p1 p2 = some r) : PureSim Try.prog 60 [ag [iv p0, sv 0 p1.length ANY], sv 1 p2.length ANY] (H60_8 p1 p2) (V60 2 r) (N60 2 r) :=
 PureSim.of_Fin Try.func60 (c := c60) (by kernel_rfl) (by kernel_rfl) 2 rfl [0, 1] [0, 1] (by kernel_rfl) (B60 p0 p1 p2 r hF)
end
end Go.Proofs.Ytiaippkjgmccoaa
