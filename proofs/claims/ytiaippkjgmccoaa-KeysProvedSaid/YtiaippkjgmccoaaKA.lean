/- What functions of the program compute, and that they do. -/
import Derived.Test.YtiaippkjgmccoaaTsZ
import Derived.Test.YtiaippkjgmccoaaProg
import Derived.KernelRfl
import Derived.Test.YtiaippkjgmccoaaCL
set_option linter.unusedVariables false
set_option linter.unusedSimpArgs false
set_option maxRecDepth 100000
set_option maxHeartbeats 4000000
namespace Go.Proofs.Ytiaippkjgmccoaa
open Go Go.Cl
noncomputable section
def e86 (x : ((Int × Bool) × (Int × Bool))) : List Value := [.int .i64 x.1.1, .bool x.1.2, .int .i64 x.2.1, .bool x.2.2]
noncomputable def c72 : Code := Try.f72.code
def F72 (p0 : Int) (p1 : Bool) : Option (Int × Bool) :=
 some (p0, !p1)
def V72 (b : Nat) (r : (Int × Bool)) : Value := ag [iv r.1, .bool r.2]
def N72 (b : Nat) (r : (Int × Bool)) : List Blk := []
theorem B72 (p0 : Int) (p1 : Bool) (r : (Int × Bool)) (hF : F72 p0 p1 = some r) : TS Try.prog 0 0 c72 (st 9 [(0, ag [iv p0, .bool p1])]) [] (NX Try.prog 0 0 [] (FinP Try.prog Try.f72 0 (V72 0 r) (N72 0 r))) := by
 unfold F72 at hF
 refine TS.sq (TS.rg (TI.rn 2 [1, 2] [0, 1] (st 9 [(1, pt 0 0), (2, pt 1 0)]) [cl 50 [iv p0, .bool p1], cl 50 [iv 0, .bool false]] (TI.dn (NX.sq (TS.sq (TS.rg (TI.rn 7 [2] [1] (st 9 [(2, pt 1 0)]) [.dead, cl 50 [iv p0, .bool (!p1)]] (TI.dn ?_))))))))
 refine NX.sq (TS.rt ?_)
 have hF := Option.some.inj hF
 subst hF
 exact ⟨.inr rfl, rfl, ag [iv p0, .bool (!p1)], by kernel_rfl, WkV.flat0 (by kernel_rfl) (Nat.le_of_ble_eq_true rfl)⟩
theorem C72 (p0 : Int) (p1 : Bool) (r : (Int × Bool)) (hF : F72 p0 p1 = some r) : PureSim Try.prog 72 [ag [iv p0, .bool p1]] [] (V72 0 r) (N72 0 r) :=
 PureSim.of_Fin Try.func72 (c := c72) (by kernel_rfl) (by kernel_rfl) 0 rfl [0] [] (by kernel_rfl) (B72 p0 p1 r hF)
noncomputable def c81 : Code := Try.f81.code
def H81_0 (p2 : Int) (p3 : (List ((Int × Bool) × (Int × Bool)))) (p0 : Int) (p1 : Bool) : List Blk := [cl 24 [iv p2, sv 1 p3.length ANY], ab 86 e86 p3, cl 50 [iv p0, .bool p1]]
def H81_1 (p2 : Int) (p3 : (List ((Int × Bool) × (Int × Bool)))) : List Blk := [cl 24 [iv p2, sv 1 p3.length ANY], ab 86 e86 p3, .dead]
def F81 (p0 : Int) (p1 : Bool) (p2 : Int) (p3 : (List ((Int × Bool) × (Int × Bool)))) : Option Bool :=
 (
  if decide (p0 < 0) then
   some (true)
  else
   some (decide (p0 ≥ p2))
 : Option Bool) >>= fun m2 =>
 some m2
def V81 (b : Nat) (r : Bool) : Value := .bool r
def N81 (b : Nat) (r : Bool) : List Blk := []
theorem B81 (p0 : Int) (p1 : Bool) (p2 : Int) (p3 : (List ((Int × Bool) × (Int × Bool)))) (r : Bool) (hF : F81 p0 p1 p2 p3 = some r) : TS Try.prog 2 2 c81 (st 14 [(0, ag [iv p0, .bool p1]), (1, pt 0 0)]) [cl 24 [iv p2, sv 1 p3.length ANY], ab 86 e86 p3] (NX Try.prog 2 2 [] (FinP Try.prog Try.f81 2 (V81 2 r) (N81 2 r))) := by
 unfold F81 at hF
 refine TS.sq (TS.rg (TI.rn 2 [1, 2] [0, 1, 2] (st 14 [(1, pt 0 0), (2, pt 2 0)]) (H81_0 p2 p3 p0 p1) (TI.dn (NX.sq (TS.sq ?_)))))
 have hX := of_do hF
 clear hF
 obtain ⟨m2, hm3, hF⟩ := hX
 have hK : NX Try.prog 2 2 [.sq c81.s2.s2] (FinP Try.prog Try.f81 2 (V81 2 r) (N81 2 r)) .normal (st 14 [(3, .bool m2)]) (H81_1 p2 p3) := by
  refine NX.sq (TS.rt ?_)
  have hF := Option.some.inj hF
  subst hF
  exact ⟨.inr rfl, rfl, .bool m2, by kernel_rfl, WkV.flat0 (by kernel_rfl) (Nat.le_of_ble_eq_true rfl)⟩
 rcases Bool.eq_false_or_eq_true (decide (p0 < 0)) with hc1 | hc1
 · replace hm3 := of_pos hm3 hc1
   have hm3 := Option.some.inj hm3
   subst hm3
   exact TS.rg (TI.ra 2 [1, 2, 5] (st 14 [(1, pt 0 0), (2, pt 2 0), (5, iv p0)]) (TI.o { val := .bool true } (q_conv (e := decide (p0 < 0)) (b := true) (by kernel_rfl) hc1) [1, 2, 6] [0, 1, 2] (st 14 [(1, pt 0 0), (2, pt 2 0), (6, .bool true)]) (H81_0 p2 p3 p0 p1) (TI.rn 8 [3] [0, 1] (st 14 [(3, .bool true)]) (H81_1 p2 p3) (TI.dn hK))))
 replace hm3 := of_neg hm3 hc1
 have hm3 := Option.some.inj hm3
 subst hm3
 exact TS.rg (TI.ra 2 [1, 2, 5] (st 14 [(1, pt 0 0), (2, pt 2 0), (5, iv p0)]) (TI.o { val := .bool false } (q_conv (e := decide (p0 < 0)) (b := false) (by kernel_rfl) hc1) [1, 2, 6] [0, 1, 2] (st 14 [(1, pt 0 0), (2, pt 2 0), (6, .bool false)]) (H81_0 p2 p3 p0 p1) (TI.rn 8 [3] [0, 1] (st 14 [(3, .bool (decide (p0 ≥ p2)))]) (H81_1 p2 p3) (TI.dn hK))))
theorem C81 (p0 : Int) (p1 : Bool) (p2 : Int) (p3 : (List ((Int × Bool) × (Int × Bool)))) (r : Bool) (hF : F81 p0 p1 p2 p3 = some r) : PureSim Try.prog 81 [ag [iv p0, .bool p1], pt 0 0] [cl 24 [iv p2, sv 1 p3.length ANY], ab 86 e86 p3] (V81 2 r) (N81 2 r) :=
 PureSim.of_Fin Try.func81 (c := c81) (by kernel_rfl) (by kernel_rfl) 2 rfl [0, 1] [0, 1] (by kernel_rfl) (B81 p0 p1 p2 p3 r hF)
noncomputable def c87 : Code := Try.f87.code
def H87_0 (p0 : (List (Int × Bool))) (p1 : Int) (p2 : (List ((Int × Bool) × (Int × Bool)))) : List Blk := [ab 50 e50 p0, cl 24 [iv p1, sv 2 p2.length ANY], ab 86 e86 p2]
def S87_1 (p0 : (List (Int × Bool))) (v7 : Int) : CAct := (st 19 [(0, sv 0 p0.length ANY), (1, .func (.func 81) ⟨[]⟩ ⟨[pt 1 0]⟩), (7, iv (p0.length : Int)), (8, iv (w64 (v7 + 1)))])
def S87_2 (p0 : (List (Int × Bool))) (v7 : Int) : CAct := (st 19 [(0, sv 0 p0.length ANY), (1, .func (.func 81) ⟨[]⟩ ⟨[pt 1 0]⟩), (7, iv (p0.length : Int)), (8, iv v7)])
def S87_3 (p0 : (List (Int × Bool))) : CAct := (st 19 [(0, sv 0 p0.length ANY), (1, .func (.func 81) ⟨[]⟩ ⟨[pt 1 0]⟩), (7, iv (p0.length : Int)), (8, iv 0)])
def F87l0 (p0 : (List (Int × Bool))) (p1 : Int) (p2 : (List ((Int × Bool) × (Int × Bool)))) (v7 : Int) : Option (Int ⊕ Unit) :=
 if decide (v7 < (p0.length : Int)) then
  if (0 : Int) ≤ v7 ∧ v7 < (p0.length : Int) then
   some (List.getD p0 (Int.toNat v7) (0, false)) >>= fun o18 =>
   F81 o18.1 o18.2 p1 p2 >>= fun r20 =>
   if r20 then
    some (.inl v7)
   else
    F87l0 p0 p1 p2 (w64 (v7 + 1))
  else none
 else
  some (.inr ())
 partial_fixpoint
def F87 (p0 : (List (Int × Bool))) (p1 : Int) (p2 : (List ((Int × Bool) × (Int × Bool)))) : Option Int :=
 F87l0 p0 p1 p2 0 >>= fun r22 =>
 match r22 with
 | .inl o24 =>
  some o24
 | .inr o25 =>
  some (-1)
def V87 (b : Nat) (r : Int) : Value := iv r
def N87 (b : Nat) (r : Int) : List Blk := []
def P87l0 (p0 : (List (Int × Bool))) (p1 : Int) (p2 : (List ((Int × Bool) × (Int × Bool)))) (r : (Int ⊕ Unit)) : Post := fun e a h => (match r with | .inl q0 => e = .ret ∧ Wk Try.prog 3 3 a h (st 19 [(4, iv q0)]) (H87_0 p0 p1 p2) | .inr q0 => e = .exit 0 ∧ Wk Try.prog 3 3 a h (st 19 []) (H87_0 p0 p1 p2))
theorem L87l0 (p0 : (List (Int × Bool))) (p1 : Int) (p2 : (List ((Int × Bool) × (Int × Bool)))) (v7 : Int) (r : (Int ⊕ Unit)) (hF : F87l0 p0 p1 p2 v7 = some r) : TL Try.prog 3 3 c87.s2.s1.s2.bd.bd (S87_2 p0 v7) (H87_0 p0 p1 p2) (P87l0 p0 p1 p2 r) := by
 refine F87l0.partial_correctness p0 p1 p2 (motive := fun v7 r => TL Try.prog 3 3 c87.s2.s1.s2.bd.bd (S87_2 p0 v7) (H87_0 p0 p1 p2) (P87l0 p0 p1 p2 r)) ?_ v7 r hF
 clear hF r v7
 intro again ih v7 r hF
 refine TL.round (TS.sq (TS.rg (TI.ra 1 [0, 1, 7, 8, 9] (st 19 [(0, sv 0 p0.length ANY), (1, .func (.func 81) ⟨[]⟩ ⟨[pt 1 0]⟩), (7, iv (p0.length : Int)), (8, iv v7), (9, .bool (decide (v7 < (p0.length : Int))))]) (TI.dn (NX.sq (TS.sq ?_))))))
 refine TS.cd (.tmp 9) (decide (v7 < (p0.length : Int))) (fun hc16 => ?_) (fun hc16 => ?_)
 · replace hF := of_pos hF hc16
   refine TS.sk (NX.sq (TS.sq (TS.bk 1 (TS.sq (TS.rg (TI.ra 2 [0, 1, 5, 7, 8] (st 19 [(0, sv 0 p0.length ANY), (1, .func (.func 81) ⟨[]⟩ ⟨[pt 1 0]⟩), (5, iv v7), (7, iv (p0.length : Int)), (8, iv v7)]) (TI.dn (NX.sq ?_))))))))
   refine TS.sq ?_
   have hX := of_guard hF
   clear hF
   obtain ⟨hg17, hF⟩ := hX
   have hX := of_do hF
   clear hF
   obtain ⟨o18, h19, hF⟩ := hX
   replace h19 := Option.some.inj h19
   have hX := of_do hF
   clear hF
   obtain ⟨r20, h21, hF⟩ := hX
   refine TS.rg (TI.ra 3 [0, 1, 5, 7, 8, 11, 12, 13] (st 19 [(0, sv 0 p0.length ANY), (1, .func (.func 81) ⟨[]⟩ ⟨[pt 1 0]⟩), (5, iv v7), (7, iv (p0.length : Int)), (8, iv v7), (11, .func (.func 81) ⟨[]⟩ ⟨[pt 1 0]⟩), (12, sv 0 p0.length ANY), (13, iv v7)]) (TI.o { val := .pointer (some ⟨0, 0 + (Int.toNat v7) * 2, none⟩) } (q_ixS 0 0 ((Int.toNat v7) * 2) (by kernel_rfl) hg17) [0, 1, 5, 7, 8, 11, 14] [0, 1, 2] (st 19 [(0, sv 0 p0.length ANY), (1, .func (.func 81) ⟨[]⟩ ⟨[pt 1 0]⟩), (5, iv v7), (7, iv (p0.length : Int)), (8, iv v7), (11, .func (.func 81) ⟨[]⟩ ⟨[pt 1 0]⟩), (14, .pointer (some ⟨0, 0 + (Int.toNat v7) * 2, none⟩))]) (H87_0 p0 p1 p2) (TI.o { val := ag [iv o18.1, .bool o18.2] } (q_nAa Try.prog (H87_0 p0 p1 p2) 50 0 (0 + (Int.toNat v7) * 2) p0 e50 2 50 (Int.toNat v7) (0, false) h19) [0, 1, 5, 7, 8, 11, 15] [0, 1, 2] (st 19 [(0, sv 0 p0.length ANY), (1, .func (.func 81) ⟨[]⟩ ⟨[pt 1 0]⟩), (5, iv v7), (7, iv (p0.length : Int)), (8, iv v7), (11, .func (.func 81) ⟨[]⟩ ⟨[pt 1 0]⟩), (15, ag [iv o18.1, .bool o18.2])]) (H87_0 p0 p1 p2) (TI.callM (g := 81) (args := [ag [iv o18.1, .bool o18.2], pt 1 0]) (v := .bool r20) (new := []) (by kernel_rfl) (PureSim.ren (hc := [cl 24 [iv p1, sv 1 p2.length ANY], ab 86 e86 p2]) (fun i => List.getD [(1, 0), (2, 0)] i (0, 0)) (C81 _ _ _ _ _ h21) (.cons (At.blk (b1 := cl 24 [iv p1, sv 2 p2.length ANY]) (by kernel_rfl) (RnB.lit (.fl (.cons (Rn.any _ _ _ _ _ _ (Nat.le_of_ble_eq_true rfl) rfl rfl (by decide)) .nil)))) (.ac (.nil _))) (.fl (.pp .nil)) (.flat (by kernel_rfl)) newflat_nil) [0, 1, 5, 7, 8, 16] [0, 1, 2] (a2 := (st 19 [(0, sv 0 p0.length ANY), (1, .func (.func 81) ⟨[]⟩ ⟨[pt 1 0]⟩), (5, iv v7), (7, iv (p0.length : Int)), (8, iv v7), (16, .bool r20)])) (h2 := (H87_0 p0 p1 p2)) (by kernel_rfl) (TI.dn (NX.sq ?_))))))
   cases r20 with
   | true =>
    replace hF := of_pos hF rfl
    refine TS.cdT (.tmp 16) (TS.sq (TS.rg (TI.ra 2 [4] (st 19 [(4, iv v7)]) (TI.dn (NX.sq (TS.rt (NX.bkR (NX.sqR ?_))))))))
    have hF := Option.some.inj hF
    subst hF
    exact Rd.out (e := .ret) (by intro h; cases h) (And.intro rfl (Wk.an [] (.ac (.lt (.fl (.sl .nil)) (.ac (.nil _)))) [iv v7] (.fl .nil)))
   | false =>
    replace hF := of_neg hF rfl
    refine TS.cdF (.tmp 16) (TS.sk (NX.bk (NX.sq (TS.rg (TI.ra 2 [0, 1, 7, 8] (S87_1 p0 v7) (TI.dn ?_))))))
    exact Rd.again (a2 := (S87_1 p0 v7)) (h2 := (H87_0 p0 p1 p2)) (Wk.an [] (.ac (.lt (.fl (.sl .nil)) (.ac (.nil _)))) [sv 0 p0.length ANY, .func (.func 81) ⟨[]⟩ ⟨[pt 1 0]⟩, iv (p0.length : Int), iv (w64 (v7 + 1))] (.sl (.cons (Rn.func' .nil (.pp .nil)) (.fl (.fl .nil))))) (ih (w64 (v7 + 1)) _ hF)
 replace hF := of_neg hF hc16
 refine TS.ex 0 (NX.sqX ?_)
 have hF := Option.some.inj hF
 subst hF
 exact Rd.out (e := .exit 0) (by intro h; cases h) (And.intro rfl (Wk.an [] (.ac (.lt (.fl (.sl .nil)) (.ac (.nil _)))) [] .nil))
theorem B87 (p0 : (List (Int × Bool))) (p1 : Int) (p2 : (List ((Int × Bool) × (Int × Bool)))) (r : Int) (hF : F87 p0 p1 p2 = some r) : TS Try.prog 3 3 c87 (st 19 [(0, sv 0 p0.length ANY), (1, .func (.func 81) ⟨[]⟩ ⟨[pt 1 0]⟩)]) (H87_0 p0 p1 p2) (NX Try.prog 3 3 [] (FinP Try.prog Try.f87 3 (V87 3 r) (N87 3 r))) := by
 unfold F87 at hF
 refine TS.sq (TS.rg (TI.ra 1 [0, 1] (st 19 [(0, sv 0 p0.length ANY), (1, .func (.func 81) ⟨[]⟩ ⟨[pt 1 0]⟩)]) (TI.dn (NX.sq (TS.sq (TS.sq (TS.rg (TI.ra 3 [0, 1, 7, 8] (S87_3 p0) ?_))))))))
 refine TI.dn (NX.sq (TS.bk 0 ?_))
 have hX := of_do hF
 clear hF
 obtain ⟨r22, h23, hF⟩ := hX
 refine TS.lp (TL.weak (a2 := (S87_3 p0)) (h2 := (H87_0 p0 p1 p2)) (Wk.an [] (.ac (.lt (.fl (.sl .nil)) (.ac (.nil _)))) [sv 0 p0.length ANY, .func (.func 81) ⟨[]⟩ ⟨[pt 1 0]⟩, iv (p0.length : Int), iv 0] (.sl (.cons (Rn.func' .nil (.pp .nil)) (.fl (.fl .nil))))) (TL.post (L87l0 p0 p1 p2 0 r22 h23) ?_))
 rintro e a1 h1 hp
 rcases r22 with o24 | o25
 · skip
   obtain ⟨rfl, hw⟩ := hp
   refine ⟨(st 19 [(4, iv o24)]), (H87_0 p0 p1 p2), (NX.bkR (NX.sqR ?_)), hw⟩
   have hF := Option.some.inj hF
   subst hF
   exact ⟨.inr rfl, rfl, iv o24, by kernel_rfl, WkV.flat0 (by kernel_rfl) (Nat.le_of_ble_eq_true rfl)⟩
 skip
 obtain ⟨rfl, hw⟩ := hp
 refine ⟨(st 19 []), (H87_0 p0 p1 p2), (NX.bkX (NX.sq (TS.sq (TS.rg (TI.ra 1 [4] (st 19 [(4, iv (-1))]) (TI.dn (NX.sq (TS.rt ?_)))))))), hw⟩
 have hF := Option.some.inj hF
 subst hF
 exact ⟨.inr rfl, rfl, iv (-1), by kernel_rfl, WkV.flat0 (by kernel_rfl) (Nat.le_of_ble_eq_true rfl)⟩
theorem C87 (p0 : (List (Int × Bool))) (p1 : Int) (p2 : (List ((Int × Bool) × (Int × Bool)))) (r : Int) (hF : F87 p0 p1 p2 = some r) : PureSim Try.prog 87 [sv 0 p0.length ANY, .func (.func 81) ⟨[]⟩ ⟨[pt 1 0]⟩] (H87_0 p0 p1 p2) (V87 3 r) (N87 3 r) :=
 PureSim.of_Fin Try.func87 (c := c87) (by kernel_rfl) (by kernel_rfl) 3 rfl [0, 1] [0, 1, 2] (by kernel_rfl) (B87 p0 p1 p2 r hF)
noncomputable def c80 : Code := Try.f80.code
def H80_0 (p0 : (List (Int × Bool))) (p1 : Int) (p2 : (List ((Int × Bool) × (Int × Bool)))) : List Blk := [ab 50 e50 p0, cl 24 [iv p1, sv 2 p2.length ANY], ab 86 e86 p2]
def F80 (p0 : (List (Int × Bool))) (p1 : Int) (p2 : (List ((Int × Bool) × (Int × Bool)))) : Option Bool :=
 F87 p0 p1 p2 >>= fun r1 =>
 some (decide (r1 ≥ 0))
def V80 (b : Nat) (r : Bool) : Value := .bool r
def N80 (b : Nat) (r : Bool) : List Blk := []
theorem B80 (p0 : (List (Int × Bool))) (p1 : Int) (p2 : (List ((Int × Bool) × (Int × Bool)))) (r : Bool) (hF : F80 p0 p1 p2 = some r) : TS Try.prog 3 3 c80 (st 9 [(0, sv 0 p0.length ANY), (1, .func (.func 81) ⟨[]⟩ ⟨[pt 1 0]⟩)]) (H80_0 p0 p1 p2) (NX Try.prog 3 3 [] (FinP Try.prog Try.f80 3 (V80 3 r) (N80 3 r))) := by
 unfold F80 at hF
 refine TS.sq (TS.rg (TI.ra 1 [0, 1] (st 9 [(0, sv 0 p0.length ANY), (1, .func (.func 81) ⟨[]⟩ ⟨[pt 1 0]⟩)]) (TI.dn (NX.sq (TS.sq ?_)))))
 have hX := of_do hF
 clear hF
 obtain ⟨r1, h2, hF⟩ := hX
 refine TS.rg (TI.ra 2 [5, 6] (st 9 [(5, sv 0 p0.length ANY), (6, .func (.func 81) ⟨[]⟩ ⟨[pt 1 0]⟩)]) (TI.cp 87 [sv 0 p0.length ANY, .func (.func 81) ⟨[]⟩ ⟨[pt 1 0]⟩] (iv r1) [] (PureSim.ren (hc := (H80_0 p0 p1 p2)) (fun i => List.getD [(0, 0), (1, 0), (2, 0)] i (0, 0)) (C87 _ _ _ _ h2) (.ac (.cons (At.blk (b1 := cl 24 [iv p1, sv 2 p2.length ANY]) (by kernel_rfl) (RnB.lit (.fl (.cons (Rn.any _ _ _ _ _ _ (Nat.le_of_ble_eq_true rfl) rfl rfl (by decide)) .nil)))) (.ac (.nil _)))) (.cons (Rn.any _ _ _ _ _ _ (Nat.le_of_ble_eq_true rfl) rfl rfl (by decide)) (.cons (Rn.func' .nil (.pp .nil)) .nil)) (.flat (by kernel_rfl)) newflat_nil) (TI.ra 2 [4] (st 9 [(4, .bool (decide (r1 ≥ 0)))]) (TI.dn (NX.sq (TS.rt ?_))))))
 have hF := Option.some.inj hF
 subst hF
 exact ⟨.inr rfl, rfl, .bool (decide (r1 ≥ 0)), by kernel_rfl, WkV.flat0 (by kernel_rfl) (Nat.le_of_ble_eq_true rfl)⟩
theorem C80 (p0 : (List (Int × Bool))) (p1 : Int) (p2 : (List ((Int × Bool) × (Int × Bool)))) (r : Bool) (hF : F80 p0 p1 p2 = some r) : PureSim Try.prog 80 [sv 0 p0.length ANY, .func (.func 81) ⟨[]⟩ ⟨[pt 1 0]⟩] (H80_0 p0 p1 p2) (V80 3 r) (N80 3 r) :=
 PureSim.of_Fin Try.func80 (c := c80) (by kernel_rfl) (by kernel_rfl) 3 rfl [0, 1] [0, 1, 2] (by kernel_rfl) (B80 p0 p1 p2 r hF)
noncomputable def c64 : Code := Try.f64.code
def F64 (p0 : Int) (p1 : (List ((Int × Bool) × (Int × Bool)))) (p2 : (List (Int × Bool))) : Option Bool :=
 F80 p2 p0 p1 >>= fun r1 =>
 some (!r1)
def V64 (b : Nat) (r : Bool) : Value := .bool r
def N64 (b : Nat) (r : Bool) : List Blk := []
theorem B64 (p0 : Int) (p1 : (List ((Int × Bool) × (Int × Bool)))) (p2 : (List (Int × Bool))) (r : Bool) (hF : F64 p0 p1 p2 = some r) : TS Try.prog 2 2 c64 (st 9 [(0, ag [iv p0, sv 0 p1.length ANY]), (1, sv 1 p2.length ANY)]) [ab 86 e86 p1, ab 50 e50 p2] (NX Try.prog 2 2 [] (FinP Try.prog Try.f64 2 (V64 2 r) (N64 2 r))) := by
 unfold F64 at hF
 refine TS.sq (TS.rg (TI.rn 2 [1, 2] [0, 1, 2] (st 9 [(1, sv 1 p2.length ANY), (2, pt 2 0)]) [ab 86 e86 p1, ab 50 e50 p2, cl 24 [iv p0, sv 0 p1.length ANY]] (TI.dn (NX.sq (TS.sq ?_)))))
 have hX := of_do hF
 clear hF
 obtain ⟨r1, h2, hF⟩ := hX
 refine TS.rg (TI.ra 2 [5, 6] (st 9 [(5, sv 1 p2.length ANY), (6, .func (.func 81) ⟨[]⟩ ⟨[pt 2 0]⟩)]) (TI.cp 80 [sv 1 p2.length ANY, .func (.func 81) ⟨[]⟩ ⟨[pt 2 0]⟩] (.bool r1) [] (PureSim.ren (hc := [ab 50 e50 p2, cl 24 [iv p0, sv 2 p1.length ANY], ab 86 e86 p1]) (fun i => List.getD [(1, 0), (2, 0), (0, 0)] i (0, 0)) (C80 _ _ _ _ h2) (.ac (.cons (At.blk (b1 := cl 24 [iv p0, sv 0 p1.length ANY]) (by kernel_rfl) (RnB.lit (.fl (.cons (Rn.any _ _ _ _ _ _ (Nat.le_of_ble_eq_true rfl) rfl rfl (by decide)) .nil)))) (.ac (.nil _)))) (.cons (Rn.any _ _ _ _ _ _ (Nat.le_of_ble_eq_true rfl) rfl rfl (by decide)) (.cons (Rn.func' .nil (.pp .nil)) .nil)) (.flat (by kernel_rfl)) newflat_nil) (TI.rn 2 [4] [0, 1] (st 9 [(4, .bool (!r1))]) [ab 86 e86 p1, ab 50 e50 p2, .dead] (TI.dn (NX.sq (TS.rt ?_))))))
 have hF := Option.some.inj hF
 subst hF
 exact ⟨.inr rfl, rfl, .bool (!r1), by kernel_rfl, WkV.flat0 (by kernel_rfl) (Nat.le_of_ble_eq_true rfl)⟩
theorem C64 (p0 : Int) (p1 : (List ((Int × Bool) × (Int × Bool)))) (p2 : (List (Int × Bool))) (r : Bool) (hF : F64 p0 p1 p2 = some r) : PureSim Try.prog 64 [ag [iv p0, sv 0 p1.length ANY], sv 1 p2.length ANY] [ab 86 e86 p1, ab 50 e50 p2] (V64 2 r) (N64 2 r) :=
 PureSim.of_Fin Try.func64 (c := c64) (by kernel_rfl) (by kernel_rfl) 2 rfl [0, 1] [0, 1] (by kernel_rfl) (B64 p0 p1 p2 r hF)
noncomputable def c26 : Code := Try.f26.code
def H26_0 (p1 : (List ((Int × Bool) × (Int × Bool)))) (p0 : Int) : List Blk := [ab 86 e86 p1, cl 24 [iv p0, sv 0 p1.length ANY]]
def F26l0 (p0 : Int) (p1 : (List ((Int × Bool) × (Int × Bool)))) (v11 : Int) : Option (Unit ⊕ Unit) :=
 if decide (v11 < (p1.length : Int)) then
  if (0 : Int) ≤ v11 ∧ v11 < (p1.length : Int) then
   some (List.getD p1 (Int.toNat v11) ((0, false), (0, false))) >>= fun o22 =>
   F64 p0 p1 ([(o22.1.1, o22.1.2), (o22.2.1, o22.2.2)]) >>= fun r24 =>
   if !r24 then
    some (.inl ())
   else
    F26l0 p0 p1 (w64 (v11 + 1))
  else none
 else
  some (.inr ())
 partial_fixpoint
def F26 (p0 : Int) (p1 : (List ((Int × Bool) × (Int × Bool)))) : Option Int :=
 (
  if decide (p0 < 1) then
   some (true)
  else
   some (decide (p0 > 24))
 : Option Bool) >>= fun m2 =>
 if m2 then
  some 1
 else
  if decide ((p1.length : Int) > 80) then
   some 3
  else
   F26l0 p0 p1 0 >>= fun r27 =>
   match r27 with
   | .inl o29 =>
    some 6
   | .inr o30 =>
    some 0
def V26 (b : Nat) (r : Int) : Value := iv r
def N26 (b : Nat) (r : Int) : List Blk := []
def P26l0 (p0 : Int) (p1 : (List ((Int × Bool) × (Int × Bool)))) (r : (Unit ⊕ Unit)) : Post := fun e a h => (match r with | .inl q0 => e = .ret ∧ Wk Try.prog 1 1 a h (st 35 [(2, iv 6)]) [ab 86 e86 p1] | .inr q0 => e = .exit 1 ∧ Wk Try.prog 1 1 a h (st 35 []) [ab 86 e86 p1])
theorem L26l0 (p0 : Int) (p1 : (List ((Int × Bool) × (Int × Bool)))) (v11 : Int) (r : (Unit ⊕ Unit)) (hF : F26l0 p0 p1 v11 = some r) : TL Try.prog 1 1 c26.s2.s2.s1.s2.bd.bd (st 35 [(1, pt 1 0), (20, sv 0 p1.length ANY), (21, iv (p1.length : Int)), (22, iv v11)]) (H26_0 p1 p0) (P26l0 p0 p1 r) := by
 refine F26l0.partial_correctness p0 p1 (motive := fun v11 r => TL Try.prog 1 1 c26.s2.s2.s1.s2.bd.bd (st 35 [(1, pt 1 0), (20, sv 0 p1.length ANY), (21, iv (p1.length : Int)), (22, iv v11)]) (H26_0 p1 p0) (P26l0 p0 p1 r)) ?_ v11 r hF
 clear hF r v11
 intro again ih v11 r hF
 refine TL.round (TS.sq (TS.rg (TI.ra 1 [1, 20, 21, 22, 23] (st 35 [(1, pt 1 0), (20, sv 0 p1.length ANY), (21, iv (p1.length : Int)), (22, iv v11), (23, .bool (decide (v11 < (p1.length : Int))))]) (TI.dn (NX.sq (TS.sq ?_))))))
 refine TS.cd (.tmp 23) (decide (v11 < (p1.length : Int))) (fun hc20 => ?_) (fun hc20 => ?_)
 · replace hF := of_pos hF hc20
   refine TS.sk (NX.sq (TS.sq (TS.bk 2 (TS.sq ?_))))
   have hX := of_guard hF
   clear hF
   obtain ⟨hg21, hF⟩ := hX
   have hX := of_do hF
   clear hF
   obtain ⟨o22, h23, hF⟩ := hX
   replace h23 := Option.some.inj h23
   refine TS.rg (TI.o { val := .pointer (some ⟨0, 0 + (Int.toNat v11) * 4, none⟩) } (q_ixS 0 0 ((Int.toNat v11) * 4) (by kernel_rfl) hg21) [1, 20, 21, 22, 24] [0, 1] (st 35 [(1, pt 1 0), (20, sv 0 p1.length ANY), (21, iv (p1.length : Int)), (22, iv v11), (24, .pointer (some ⟨0, 0 + (Int.toNat v11) * 4, none⟩))]) (H26_0 p1 p0) (TI.o { val := ag [iv o22.1.1, .bool o22.1.2, iv o22.2.1, .bool o22.2.2] } (q_nAa Try.prog (H26_0 p1 p0) 86 0 (0 + (Int.toNat v11) * 4) p1 e86 4 86 (Int.toNat v11) ((0, false), (0, false)) h23) [1, 20, 21, 22, 25] [0, 1] (st 35 [(1, pt 1 0), (20, sv 0 p1.length ANY), (21, iv (p1.length : Int)), (22, iv v11), (25, ag [iv o22.1.1, .bool o22.1.2, iv o22.2.1, .bool o22.2.2])]) (H26_0 p1 p0) (TI.rn 2 [1, 4, 20, 21, 22] [0, 1, 2] (st 35 [(1, pt 1 0), (4, pt 2 0), (20, sv 0 p1.length ANY), (21, iv (p1.length : Int)), (22, iv v11)]) [ab 86 e86 p1, cl 24 [iv p0, sv 0 p1.length ANY], cl 86 [iv o22.1.1, .bool o22.1.2, iv o22.2.1, .bool o22.2.2]] (TI.dn (NX.sq (TS.sq ?_))))))
   have hX := of_do hF
   clear hF
   obtain ⟨r24, h25, hF⟩ := hX
   refine TS.rg (TI.rn 6 [1, 20, 21, 22, 26, 31] [0, 1, 3] (st 35 [(1, pt 1 0), (20, sv 0 p1.length ANY), (21, iv (p1.length : Int)), (22, iv v11), (26, ag [iv p0, sv 0 p1.length ANY]), (31, sv 3 2 2)]) [ab 86 e86 p1, cl 24 [iv p0, sv 0 p1.length ANY], .dead, cl 50 [iv o22.1.1, .bool o22.1.2, iv o22.2.1, .bool o22.2.2]] (TI.cp 64 [ag [iv p0, sv 0 p1.length ANY], sv 3 2 2] (.bool r24) [] (PureSim.ren (hc := [ab 86 e86 p1, accB 50 (List.length ([(o22.1.1, o22.1.2), (o22.2.1, o22.2.2)])) (List.flatMap e50 ([(o22.1.1, o22.1.2), (o22.2.1, o22.2.2)]))]) (fun i => List.getD [(0, 0), (3, 0)] i (0, 0)) (C64 _ _ _ _ h25) (.ac (.cons (At.accU (by kernel_rfl) rfl (fun _ => rfl)) (.nil _))) (.cons (Rn.agg' (.fl (.cons (Rn.any _ _ _ _ _ _ (Nat.le_of_ble_eq_true rfl) rfl rfl (by decide)) .nil))) (.cons (Rn.any _ _ _ _ _ _ (Nat.le_of_ble_eq_true rfl) rfl rfl (by decide)) .nil)) (.flat (by kernel_rfl)) newflat_nil) (TI.rn 1 [1, 20, 21, 22, 33] [0, 1] (st 35 [(1, pt 1 0), (20, sv 0 p1.length ANY), (21, iv (p1.length : Int)), (22, iv v11), (33, .bool (!r24))]) [ab 86 e86 p1, cl 24 [iv p0, sv 0 p1.length ANY], .dead, .dead] (TI.dn (NX.sq ?_)))))
   refine TS.cd (.tmp 33) (!r24) (fun hc26 => ?_) (fun hc26 => ?_)
   · replace hF := of_pos hF hc26
     refine TS.sq (TS.rg (TI.rn 1 [2] [0] (st 35 [(2, iv 6)]) [ab 86 e86 p1, .dead, .dead, .dead] (TI.dn (NX.sq (TS.rt (NX.bkR (NX.sqR ?_)))))))
     have hF := Option.some.inj hF
     subst hF
     exact Rd.out (e := .ret) (by intro h; cases h) (And.intro rfl (Wk.an [] (.ac (.nil _)) [iv 6] (.fl .nil)))
   replace hF := of_neg hF hc26
   refine TS.sk (NX.bk (NX.sq (TS.rg (TI.ra 2 [1, 20, 21, 22] (st 35 [(1, pt 1 0), (20, sv 0 p1.length ANY), (21, iv (p1.length : Int)), (22, iv (w64 (v11 + 1)))]) (TI.dn ?_)))))
   exact Rd.again (a2 := (st 35 [(1, pt 1 0), (20, sv 0 p1.length ANY), (21, iv (p1.length : Int)), (22, iv (w64 (v11 + 1)))])) (h2 := (H26_0 p1 p0)) (Wk.an [1] (.ac (.lt (.fl (.sl .nil)) (.nil _))) [pt 1 0, sv 0 p1.length ANY, iv (p1.length : Int), iv (w64 (v11 + 1))] (.pp (.sl (.fl (.fl .nil))))) (ih (w64 (v11 + 1)) _ hF)
 replace hF := of_neg hF hc20
 refine TS.ex 1 (NX.sqX ?_)
 have hF := Option.some.inj hF
 subst hF
 exact Rd.out (e := .exit 1) (by intro h; cases h) (And.intro rfl (Wk.an [] (.ac (.nil _)) [] .nil))
theorem B26 (p0 : Int) (p1 : (List ((Int × Bool) × (Int × Bool)))) (r : Int) (hF : F26 p0 p1 = some r) : TS Try.prog 1 1 c26 (st 35 [(0, ag [iv p0, sv 0 p1.length ANY])]) [ab 86 e86 p1] (NX Try.prog 1 1 [] (FinP Try.prog Try.f26 1 (V26 1 r) (N26 1 r))) := by
 unfold F26 at hF
 refine TS.sq (TS.rg (TI.rn 2 [1] [0, 1] (st 35 [(1, pt 1 0)]) (H26_0 p1 p0) (TI.dn (NX.sq (TS.sq (TS.bk 0 (TS.sq ?_)))))))
 have hX := of_do hF
 clear hF
 obtain ⟨m2, hm31, hF⟩ := hX
 have hK : NX Try.prog 1 1 [.sq c26.s2.s1.bd.s2, .bk 0, .sq c26.s2.s2] (FinP Try.prog Try.f26 1 (V26 1 r) (N26 1 r)) .normal (st 35 [(1, pt 1 0), (5, .bool m2)]) (H26_0 p1 p0) := by
  refine NX.sq ?_
  cases m2 with
  | true =>
   replace hF := of_pos hF rfl
   refine TS.cdT (.tmp 5) (TS.sq (TS.rg (TI.rn 1 [2] [0] (st 35 [(2, iv 1)]) [ab 86 e86 p1, .dead] (TI.dn (NX.sq (TS.rt (NX.bkR (NX.sqR ?_))))))))
   have hF := Option.some.inj hF
   subst hF
   exact ⟨.inr rfl, rfl, iv 1, by kernel_rfl, WkV.flat0 (by kernel_rfl) (Nat.le_of_ble_eq_true rfl)⟩
  | false =>
   replace hF := of_neg hF rfl
   refine TS.cdF (.tmp 5) (TS.sq (TS.rg (TI.ra 5 [1, 14] (st 35 [(1, pt 1 0), (14, .bool (decide ((p1.length : Int) > 80)))]) (TI.dn (NX.sq ?_)))))
   refine TS.cd (.tmp 14) (decide ((p1.length : Int) > 80)) (fun hc3 => ?_) (fun hc3 => ?_)
   · replace hF := of_pos hF hc3
     refine TS.sq (TS.rg (TI.rn 1 [2] [0] (st 35 [(2, iv 3)]) [ab 86 e86 p1, .dead] (TI.dn (NX.sq (TS.rt (NX.bkR (NX.sqR ?_)))))))
     have hF := Option.some.inj hF
     subst hF
     exact ⟨.inr rfl, rfl, iv 3, by kernel_rfl, WkV.flat0 (by kernel_rfl) (Nat.le_of_ble_eq_true rfl)⟩
   replace hF := of_neg hF hc3
   refine TS.sk (NX.bk (NX.sq (TS.sq (TS.sq (TS.rg (TI.ra 4 [1, 20, 21, 22] (st 35 [(1, pt 1 0), (20, sv 0 p1.length ANY), (21, iv (p1.length : Int)), (22, iv 0)]) (TI.dn (NX.sq ?_))))))))
   refine TS.bk 1 ?_
   have hX := of_do hF
   clear hF
   obtain ⟨r27, h28, hF⟩ := hX
   refine TS.lp (TL.weak (a2 := (st 35 [(1, pt 1 0), (20, sv 0 p1.length ANY), (21, iv (p1.length : Int)), (22, iv 0)])) (h2 := (H26_0 p1 p0)) (Wk.an [1] (.ac (.lt (.fl (.sl .nil)) (.nil _))) [pt 1 0, sv 0 p1.length ANY, iv (p1.length : Int), iv 0] (.pp (.sl (.fl (.fl .nil))))) (TL.post (L26l0 p0 p1 0 r27 h28) ?_))
   rintro e a1 h1 hp
   rcases r27 with o29 | o30
   · skip
     obtain ⟨rfl, hw⟩ := hp
     refine ⟨(st 35 [(2, iv 6)]), [ab 86 e86 p1], (NX.bkR (NX.sqR ?_)), hw⟩
     have hF := Option.some.inj hF
     subst hF
     exact ⟨.inr rfl, rfl, iv 6, by kernel_rfl, WkV.flat0 (by kernel_rfl) (Nat.le_of_ble_eq_true rfl)⟩
   skip
   obtain ⟨rfl, hw⟩ := hp
   refine ⟨(st 35 []), [ab 86 e86 p1], (NX.bkX (NX.sq (TS.sq (TS.rg (TI.ra 1 [2] (st 35 [(2, iv 0)]) (TI.dn (NX.sq (TS.rt ?_)))))))), hw⟩
   have hF := Option.some.inj hF
   subst hF
   exact ⟨.inr rfl, rfl, iv 0, by kernel_rfl, WkV.flat0 (by kernel_rfl) (Nat.le_of_ble_eq_true rfl)⟩
 rcases Bool.eq_false_or_eq_true (decide (p0 < 1)) with hc1 | hc1
 · replace hm31 := of_pos hm31 hc1
   have hm31 := Option.some.inj hm31
   subst hm31
   exact TS.rg (TI.ra 2 [1, 7] (st 35 [(1, pt 1 0), (7, iv p0)]) (TI.o { val := .bool true } (q_conv (e := decide (p0 < 1)) (b := true) (by kernel_rfl) hc1) [1, 8] [0, 1] (st 35 [(1, pt 1 0), (8, .bool true)]) (H26_0 p1 p0) (TI.ra 6 [1, 5] (st 35 [(1, pt 1 0), (5, .bool true)]) (TI.dn hK))))
 replace hm31 := of_neg hm31 hc1
 have hm31 := Option.some.inj hm31
 subst hm31
 exact TS.rg (TI.ra 2 [1, 7] (st 35 [(1, pt 1 0), (7, iv p0)]) (TI.o { val := .bool false } (q_conv (e := decide (p0 < 1)) (b := false) (by kernel_rfl) hc1) [1, 8] [0, 1] (st 35 [(1, pt 1 0), (8, .bool false)]) (H26_0 p1 p0) (TI.ra 6 [1, 5] (st 35 [(1, pt 1 0), (5, .bool (decide (p0 > 24)))]) (TI.dn hK))))
theorem C26 (p0 : Int) (p1 : (List ((Int × Bool) × (Int × Bool)))) (r : Int) (hF : F26 p0 p1 = some r) : PureSim Try.prog 26 [ag [iv p0, sv 0 p1.length ANY]] [ab 86 e86 p1] (V26 1 r) (N26 1 r) :=
 PureSim.of_Fin Try.func26 (c := c26) (by kernel_rfl) (by kernel_rfl) 1 rfl [0] [0] (by kernel_rfl) (B26 p0 p1 r hF)
end
end Go.Proofs.Ytiaippkjgmccoaa
