/- What functions of the program compute, and that they do. -/
import Derived.Test.YtfebcljpgcahbaaGreatTsZ
import Derived.Test.YtfebcljpgcahbaaGreatProg
import Derived.KernelRfl
set_option linter.unusedVariables false
set_option linter.unusedSimpArgs false
set_option maxRecDepth 100000
set_option maxHeartbeats 4000000
namespace Go.Proofs.YtfebcljpgcahbaaGreat
open Go Go.Cl
noncomputable section
theorem mixed : Tryz.prog.follows .mixedOrders = true := by kernel_rfl
def e3 (x : Int) : List Value := [.int .i64 x]
-- agonic/neutral.sign
noncomputable def c111 : Code := Tryz.f111.code
def F111 (p0 : Int) : Option Int :=
  some (mn 1 (mx (-1) p0))
def V111 (b : Nat) (r : Int) : Value := iv r
def N111 (b : Nat) (r : Int) : List Blk := []
theorem B111 (p0 : Int) (r : Int) (hF : F111 p0 = some r) : TS Tryz.prog 0 0 c111 (st 6 [(0, iv p0)]) [] (NX Tryz.prog 0 0 [] (FinP Tryz.prog Tryz.f111 0 (V111 0 r) (N111 0 r))) := by
  unfold F111 at hF
  refine TS.sq (TS.rg (TI.ra 1 [0] (st 6 [(0, iv p0)]) (TI.dn (NX.sq (TS.sq (TS.rg (TI.ra 4 [2] (st 6 [(2, iv (mn 1 (mx (-1) p0)))]) (TI.dn ?_))))))))
  refine NX.sq (TS.rt ?_)
  have hF := Option.some.inj hF
  subst hF
  exact ⟨.inr rfl, rfl, iv (mn 1 (mx (-1) p0)), by kernel_rfl, WkV.flat0 (by kernel_rfl) (Nat.le_of_ble_eq_true rfl)⟩
theorem C111 (p0 : Int) (r : Int) (hF : F111 p0 = some r) : PureSim Tryz.prog 111 [iv p0] [] (V111 0 r) (N111 0 r) :=
  PureSim.of_Fin Tryz.func111 (c := c111) (by kernel_rfl) (by kernel_rfl) 0 rfl [0] [] (by kernel_rfl) (B111 p0 r hF)

-- (agonic/neutral.poly).sign
noncomputable def c62 : Code := Tryz.f62.code
noncomputable def H62_0 (p0 : (List Int)) (p1 : Int) (p2 : Int) (v9 : Int) (o26 : Int) (v10 : Int) : List Blk := [ab 3 e3 p0, cl 34 [iv p1, iv p2], cl 3 [iv (w64 ((w64 (v9 * p1)) + (w64 (o26 * v10))))], cl 3 [iv (w64 (v10 * p2))], cl 132 [sv 0 p0.length ANY], .mark, .loop (st 27 [(3, pt 1 0), (4, iv 0), (5, pt 2 0), (6, pt 3 0), (10, .func (.func 145) ⟨[]⟩ ⟨[pt 4 0]⟩)]).tmps [11, 12] c62.s2.s2.s1.s2.bd.ras c62.s2.s2.s1.s2.bd.rbd .ready none]
noncomputable def H62_1 (p0 : (List Int)) (p1 : Int) (p2 : Int) (v9 : Int) (v10 : Int) : List Blk := [ab 3 e3 p0, cl 34 [iv p1, iv p2], cl 3 [iv v9], cl 3 [iv v10], cl 132 [sv 0 p0.length ANY], .mark, .loop (st 27 [(3, pt 1 0), (4, iv 0), (5, pt 2 0), (6, pt 3 0), (10, .func (.func 145) ⟨[]⟩ ⟨[pt 4 0]⟩)]).tmps [11, 12] c62.s2.s2.s1.s2.bd.ras c62.s2.s2.s1.s2.bd.rbd .ready none]
noncomputable def H62_2 (p0 : (List Int)) (p1 : Int) (p2 : Int) : List Blk := [ab 3 e3 p0, cl 34 [iv p1, iv p2], cl 3 [iv 0], cl 3 [iv 1], cl 132 [sv 0 p0.length ANY], .mark, .loop (st 27 [(3, pt 1 0), (4, iv 0), (5, pt 2 0), (6, pt 3 0), (10, .func (.func 145) ⟨[]⟩ ⟨[pt 4 0]⟩)]).tmps [11, 12] c62.s2.s2.s1.s2.bd.ras c62.s2.s2.s1.s2.bd.rbd .ready none]
def H62_3 (p0 : (List Int)) (p1 : Int) (p2 : Int) : List Blk := [ab 3 e3 p0, cl 34 [iv p1, iv p2], cl 3 [iv 0], cl 3 [iv 1], cl 132 [sv 0 p0.length ANY]]
def S62_4  : CAct := (st 27 [(3, pt 1 0), (4, iv 0), (5, pt 2 0), (6, pt 3 0), (10, .func (.func 145) ⟨[]⟩ ⟨[pt 4 0]⟩)])
noncomputable def c62f113 : Code := Tryz.f113.code
noncomputable def c62f145 : Code := Tryz.f145.code
def F62l0 (p0 : (List Int)) (p1 : Int) (p2 : Int) (v8 : Int) (v9 : Int) (v10 : Int) : Option (Int × Int) :=
    if decide (v8 ≥ 0) then
      if (0 : Int) ≤ v8 ∧ v8 < (p0.length : Int) then
        some (List.getD p0 (Int.toNat v8) 0) >>= fun o26 =>
        F62l0 p0 p1 p2 (w64 (v8 - 1)) (w64 ((w64 (v9 * p1)) + (w64 (o26 * v10)))) (w64 (v10 * p2))
      else none
    else
      some (v9, v10)
  partial_fixpoint
def F62 (p0 : (List Int)) (p1 : Int) (p2 : Int) : Option Int :=
  F62l0 p0 p1 p2 (w64 ((p0.length : Int) - 1)) 0 1 >>= fun r28 =>
  F111 r28.1 >>= fun r30 =>
  some r30
def V62 (b : Nat) (r : Int) : Value := iv r
def N62 (b : Nat) (r : Int) : List Blk := []
def P62l0 (p0 : (List Int)) (p1 : Int) (p2 : Int) (r : (Int × Int)) : Post := fun e a h => e = .exit 0 ∧ Wk Tryz.prog 1 7 a h (st 19 []) [ab 3 e3 p0, cl 34 [iv p1, iv p2], cl 3 [iv r.1], cl 3 [iv r.2], cl 132 [sv 0 p0.length ANY], .mark, .loop (S62_4).tmps [11, 12] c62.s2.s2.s1.s2.bd.ras c62.s2.s2.s1.s2.bd.rbd .ready none]
theorem L62l0 (p0 : (List Int)) (p1 : Int) (p2 : Int) (v8 : Int) (v9 : Int) (v10 : Int) (r : (Int × Int)) (hF : F62l0 p0 p1 p2 v8 v9 v10 = some r) : TL Tryz.prog 1 7 c62f145.s2.bd.bd (st 19 [(0, .func (.yield 6) #[] #[]), (1, pt 4 0), (3, iv v8)]) (H62_1 p0 p1 p2 v9 v10) (P62l0 p0 p1 p2 r) := by
  refine F62l0.partial_correctness p0 p1 p2 (motive := fun v8 v9 v10 r => TL Tryz.prog 1 7 c62f145.s2.bd.bd (st 19 [(0, .func (.yield 6) #[] #[]), (1, pt 4 0), (3, iv v8)]) (H62_1 p0 p1 p2 v9 v10) (P62l0 p0 p1 p2 r)) ?_ v8 v9 v10 r hF
  clear hF r v8 v9 v10
  intro again ih v8 v9 v10 r hF
  refine TL.round (TS.sq (TS.sq (TS.rg (TI.ra 2 [0, 1, 3, 8] (st 19 [(0, .func (.yield 6) #[] #[]), (1, pt 4 0), (3, iv v8), (8, .bool (decide (v8 ≥ 0)))]) (TI.dn (NX.sq ?_))))))
  refine TS.cd (.tmp 8) (decide (v8 ≥ 0)) (fun hc21 => ?_) (fun hc21 => ?_)
  · replace hF := of_pos hF hc21
    refine TS.sk (NX.sq (TS.sq (TS.bk 1 (TS.sq ?_))))
    have hX := of_guard hF
    clear hF
    obtain ⟨hg25, hF⟩ := hX
    have hX := of_do hF
    clear hF
    obtain ⟨o26, h27, hF⟩ := hX
    replace h27 := Option.some.inj h27
    refine TS.rg (TI.ra 4 [0, 1, 3, 11, 12, 13, 14] (st 19 [(0, .func (.yield 6) #[] #[]), (1, pt 4 0), (3, iv v8), (11, .func (.yield 6) #[] #[]), (12, iv v8), (13, sv 0 p0.length ANY), (14, iv v8)]) (TI.o { val := .pointer (some ⟨0, 0 + (Int.toNat v8) * 1, none⟩) } (q_ixS 0 0 ((Int.toNat v8) * 1) (by kernel_rfl) hg25) [0, 1, 3, 11, 12, 15] [0, 1, 2, 3, 4, 5, 6] (st 19 [(0, .func (.yield 6) #[] #[]), (1, pt 4 0), (3, iv v8), (11, .func (.yield 6) #[] #[]), (12, iv v8), (15, .pointer (some ⟨0, 0 + (Int.toNat v8) * 1, none⟩))]) (H62_1 p0 p1 p2 v9 v10) (TI.o { val := iv o26 } (q_n1a Tryz.prog (H62_1 p0 p1 p2 v9 v10) 3 0 (0 + (Int.toNat v8) * 1) p0 e3 1 3 (Int.toNat v8) 0 0 h27) [0, 1, 3, 11, 12, 16] [0, 1, 2, 3, 4, 5, 6] (st 19 [(0, .func (.yield 6) #[] #[]), (1, pt 4 0), (3, iv v8), (11, .func (.yield 6) #[] #[]), (12, iv v8), (16, iv o26)]) (H62_1 p0 p1 p2 v9 v10) (TI.yield (l := 6) (n := 7) (args := [iv v8, iv o26]) (t := (S62_4).tmps) (p := [11, 12]) («as» := c62.s2.s2.s1.s2.bd.ras) (bd := c62.s2.s2.s1.s2.bd.rbd) (a2 := (st 27 [(3, pt 1 0), (4, iv 0), (5, pt 2 0), (6, pt 3 0), (10, .func (.func 145) ⟨[]⟩ ⟨[pt 4 0]⟩), (11, iv v8), (12, iv o26)])) (by kernel_rfl) (by kernel_rfl) (by decide) rfl (by kernel_rfl) (by kernel_rfl) (TS.rg (TI.ra 1 [3, 5, 6, 8] (st 27 [(3, pt 1 0), (5, pt 2 0), (6, pt 3 0), (8, iv o26)]) (TI.dn ?_)))))))
    refine ⟨rfl, (S62_4).tmps, [11, 12], c62.s2.s2.s1.s2.bd.ras, c62.s2.s2.s1.s2.bd.rbd, by kernel_rfl, (TS.bk 1 (TS.sq (TS.rg (TI.rn 9 [3, 6] [0, 1, 2, 3, 4, 5, 6] (st 27 [(3, pt 1 0), (6, pt 3 0)]) [ab 3 e3 p0, cl 34 [iv p1, iv p2], cl 3 [iv (w64 ((w64 (v9 * p1)) + (w64 (o26 * v10))))], cl 3 [iv v10], cl 132 [sv 0 p0.length ANY], .mark, .loop (S62_4).tmps [11, 12] c62.s2.s2.s1.s2.bd.ras c62.s2.s2.s1.s2.bd.rbd .busy none] (TI.dn (NX.sq (TS.rg (TI.rn 5 [] [0, 1, 2, 3, 4, 5, 6] (st 27 []) [ab 3 e3 p0, cl 34 [iv p1, iv p2], cl 3 [iv (w64 ((w64 (v9 * p1)) + (w64 (o26 * v10))))], cl 3 [iv (w64 (v10 * p2))], cl 132 [sv 0 p0.length ANY], .mark, .loop (S62_4).tmps [11, 12] c62.s2.s2.s1.s2.bd.ras c62.s2.s2.s1.s2.bd.rbd .busy none] ?_))))))))⟩
    refine TI.dn (NX.bk ?_)
    refine ⟨.bool true, (H62_0 p0 p1 p2 v9 o26 v10), by kernel_rfl, (TI.rn 0 [0, 1, 3, 17] [0, 1, 2, 3, 4, 5, 6] (st 19 [(0, .func (.yield 6) #[] #[]), (1, pt 4 0), (3, iv v8), (17, .bool true)]) (H62_0 p0 p1 p2 v9 o26 v10) (TI.ra 1 [0, 1, 3, 18] (st 19 [(0, .func (.yield 6) #[] #[]), (1, pt 4 0), (3, iv v8), (18, .bool false)]) (TI.dn (NX.sq (TS.cdF (.tmp 18) (TS.sk (NX.bk (NX.sq ?_))))))))⟩
    refine TS.rg (TI.ra 3 [0, 1, 3] (st 19 [(0, .func (.yield 6) #[] #[]), (1, pt 4 0), (3, iv (w64 (v8 - 1)))]) (TI.dn ?_))
    exact Rd.again (a2 := (st 19 [(0, .func (.yield 6) #[] #[]), (1, pt 4 0), (3, iv (w64 (v8 - 1)))])) (h2 := (H62_0 p0 p1 p2 v9 o26 v10)) (Wk.an [] (.ac (.lt (.fl (.fl .nil)) (.lt (.fl .nil) (.lt (.fl .nil) (.lt (.sl .nil) (.cons (At.blk (by kernel_rfl) RnB.mark) (.cons (At.blk (b1 := .loop (S62_4).tmps [11, 12] c62.s2.s2.s1.s2.bd.ras c62.s2.s2.s1.s2.bd.rbd .ready none) (by kernel_rfl) (RnB.loop _ _ _ _ _ _ _ (LRn.stx [3, 4, 5, 6, 10] [pt 1 0, iv 0, pt 2 0, pt 3 0, .func (.func 145) ⟨[]⟩ ⟨[pt 4 0]⟩] [pt 1 0, iv 0, pt 2 0, pt 3 0, .func (.func 145) ⟨[]⟩ ⟨[pt 4 0]⟩] (.pp (.fl (.pp (.pp (.cons (Rn.func' .nil (.pp .nil)) .nil))))) (by kernel_rfl) (by kernel_rfl) rfl))) (.nil _)))))))) [.func (.yield 6) #[] #[], pt 4 0, iv (w64 (v8 - 1))] (.cons (Rn.yield _ (Nat.le_of_ble_eq_true rfl)) (.pp (.fl .nil)))) (ih (w64 (v8 - 1)) (w64 ((w64 (v9 * p1)) + (w64 (o26 * v10)))) (w64 (v10 * p2)) _ hF)
  · replace hF := of_neg hF hc21
    refine TS.ex 0 (NX.sqX ?_)
    have hF := Option.some.inj hF
    subst hF
    exact Rd.out (e := .exit 0) (by intro h; cases h) (And.intro rfl (Wk.an [] (.ac (.lt (.fl (.fl .nil)) (.lt (.fl .nil) (.lt (.fl .nil) (.lt (.sl .nil) (.cons (At.blk (by kernel_rfl) RnB.mark) (.cons (At.blk (b1 := .loop (S62_4).tmps [11, 12] c62.s2.s2.s1.s2.bd.ras c62.s2.s2.s1.s2.bd.rbd .ready none) (by kernel_rfl) (RnB.loop _ _ _ _ _ _ _ (LRn.stx [3, 4, 5, 6, 10] [pt 1 0, iv 0, pt 2 0, pt 3 0, .func (.func 145) ⟨[]⟩ ⟨[pt 4 0]⟩] [pt 1 0, iv 0, pt 2 0, pt 3 0, .func (.func 145) ⟨[]⟩ ⟨[pt 4 0]⟩] (.pp (.fl (.pp (.pp (.cons (Rn.func' .nil (.pp .nil)) .nil))))) (by kernel_rfl) (by kernel_rfl) rfl))) (.nil _)))))))) [] .nil))
theorem B62 (p0 : (List Int)) (p1 : Int) (p2 : Int) (r : Int) (hF : F62 p0 p1 p2 = some r) : TS0 Tryz.prog 1 1 c62 (st 27 [(0, sv 0 p0.length ANY), (1, ag [iv p1, iv p2])]) [ab 3 e3 p0] (NX0 Tryz.prog 1 1 [] (FinM Tryz.prog Tryz.f62 1 (V62 1 r) (N62 1 r))) := by
  unfold F62 at hF
  refine TS0.sqP (by kernel_rfl) (TS0.piece (TS.rg (TI.rn 2 [0, 3, 4] [0, 1] (st 27 [(0, sv 0 p0.length ANY), (3, pt 1 0), (4, iv 0)]) [ab 3 e3 p0, cl 34 [iv p1, iv p2]] (TI.dn (NX.z (NX0.sq (TS0.sqP (by kernel_rfl) (TS0.piece ?_))))))))
  refine TS.rg (TI.rn 4 [0, 3, 4, 5, 6] [0, 1, 2, 3] (st 27 [(0, sv 0 p0.length ANY), (3, pt 1 0), (4, iv 0), (5, pt 2 0), (6, pt 3 0)]) [ab 3 e3 p0, cl 34 [iv p1, iv p2], cl 3 [iv 0], cl 3 [iv 1]] (TI.dn (NX.z (NX0.sq (TS0.sqP (by kernel_rfl) (TS0.sqP (by kernel_rfl) (TS0.piece (TS.rg ?_))))))))
  refine TI.ra 1 [3, 4, 5, 6, 9] (st 27 [(3, pt 1 0), (4, iv 0), (5, pt 2 0), (6, pt 3 0), (9, sv 0 p0.length ANY)]) (TI.inline (g := 113) (args := [sv 0 p0.length ANY]) (fn := Tryz.f113) (c := c62f113) (n := 4) (by kernel_rfl) (by kernel_rfl) (by kernel_rfl) (by kernel_rfl) (by kernel_rfl) [0] (a2 := (st 4 [(0, sv 0 p0.length ANY)])) (by kernel_rfl) (TS.sq (TS.rg (TI.rn 2 [1] [0, 1, 2, 3, 4] (st 4 [(1, pt 4 0)]) (H62_3 p0 p1 p2) (TI.dn (NX.sq (TS.sq (TS.rg ?_))))))))
  refine TI.ra 2 [2] (st 4 [(2, .func (.func 145) ⟨[]⟩ ⟨[pt 4 0]⟩)]) (TI.dn (NX.sq (TS.rt ?_)))
  refine ⟨.inr rfl, rfl, .func (.func 145) ⟨[]⟩ ⟨[pt 4 0]⟩, .func (.func 145) ⟨[]⟩ ⟨[pt 4 0]⟩, (H62_3 p0 p1 p2), by kernel_rfl, WkV.refl, (TI.rn 0 [3, 4, 5, 6, 10] [0, 1, 2, 3, 4] (S62_4) (H62_3 p0 p1 p2) (TI.dn (NX.z (NX0.sq (TS0.bkP (id := 0) (by kernel_rfl) (TS0.rgP (g := (.tmp 10)) (ps := #[11, 12]) (f := 145) (first := #[]) (captured := #[pt 4 0]) (fn := Tryz.f145) (ci := c62f145) (n := 5) (by kernel_rfl) (by kernel_rfl) (by kernel_rfl) (by kernel_rfl) (by kernel_rfl) (by kernel_rfl) [0, 1] (a2 := (st 19 [(0, .func (.yield 6) #[] #[]), (1, pt 4 0)])) (h2 := (H62_2 p0 p1 p2)) (by kernel_rfl) (by kernel_rfl) (TS.sq (TS.rg ?_))))))))⟩
  refine TI.ra 4 [0, 1, 3] (st 19 [(0, .func (.yield 6) #[] #[]), (1, pt 4 0), (3, iv (w64 ((p0.length : Int) - 1)))]) (TI.dn (NX.sq (TS.bk 0 ?_)))
  have hX := of_do hF
  clear hF
  obtain ⟨r28, h29, hF⟩ := hX
  refine TS.lp (TL.weak (a2 := (st 19 [(0, .func (.yield 6) #[] #[]), (1, pt 4 0), (3, iv (w64 ((p0.length : Int) - 1)))])) (h2 := (H62_2 p0 p1 p2)) (Wk.an [] (.ac (.lt (.fl (.fl .nil)) (.lt (.fl .nil) (.lt (.fl .nil) (.lt (.sl .nil) (.cons (At.blk (by kernel_rfl) RnB.mark) (.cons (At.blk (b1 := .loop (S62_4).tmps [11, 12] c62.s2.s2.s1.s2.bd.ras c62.s2.s2.s1.s2.bd.rbd .ready none) (by kernel_rfl) (RnB.loop _ _ _ _ _ _ _ (LRn.stx [3, 4, 5, 6, 10] [pt 1 0, iv 0, pt 2 0, pt 3 0, .func (.func 145) ⟨[]⟩ ⟨[pt 4 0]⟩] [pt 1 0, iv 0, pt 2 0, pt 3 0, .func (.func 145) ⟨[]⟩ ⟨[pt 4 0]⟩] (.pp (.fl (.pp (.pp (.cons (Rn.func' .nil (.pp .nil)) .nil))))) (by kernel_rfl) (by kernel_rfl) rfl))) (.nil _)))))))) [.func (.yield 6) #[] #[], pt 4 0, iv (w64 ((p0.length : Int) - 1))] (.cons (Rn.yield _ (Nat.le_of_ble_eq_true rfl)) (.pp (.fl .nil)))) (TL.post (L62l0 p0 p1 p2 (w64 ((p0.length : Int) - 1)) 0 1 r28 h29) ?_))
  rintro e a1 h1 hp
  obtain ⟨rfl, hw⟩ := hp
  refine ⟨(st 19 []), [ab 3 e3 p0, cl 34 [iv p1, iv p2], cl 3 [iv r28.1], cl 3 [iv r28.2], cl 132 [sv 0 p0.length ANY], .mark, .loop (S62_4).tmps [11, 12] c62.s2.s2.s1.s2.bd.ras c62.s2.s2.s1.s2.bd.rbd .ready none], (NX.bkX ?_), hw⟩
  refine ⟨.inl rfl, rfl, ⟨.tuple ⟨[]⟩, by kernel_rfl⟩, .inl ⟨(S62_4).tmps, [11, 12], c62.s2.s2.s1.s2.bd.ras, c62.s2.s2.s1.s2.bd.rbd, by kernel_rfl, (NX0.bk (NX0.sq (TS0.startM [5] [0, 2, 5] (a2 := (stm 27 [5] [(5, pt 2 0)])) (h2 := [ab 3 e3 p0, .dead, cl 3 [iv r28.1], .dead, .dead, .mark, .dead]) (by kernel_rfl) (TS0.piece (TS.sq ?_)))))⟩⟩
  have hX := of_do hF
  clear hF
  obtain ⟨r30, h31, hF⟩ := hX
  refine TS.rg (TI.rn 1 [25] [0, 5] (stm 27 [5] [(25, iv r28.1)]) [ab 3 e3 p0, .dead, .dead, .dead, .dead, .mark, .dead] (TI.cf (C111 _ _ h31) (TI.ra 1 [4] (stm 27 [5] [(4, iv r30)]) (TI.dn (NX.sq (TS.rt (NX.z ?_)))))))
  have hF := Option.some.inj hF
  subst hF
  exact ⟨.inr rfl, [ab 3 e3 p0, .dead, .dead, .dead, .dead, .dead, .dead], by kernel_rfl, iv r30, by kernel_rfl, WkV.flat0 (by kernel_rfl) (Nat.le_of_ble_eq_true rfl)⟩
theorem C62 (p0 : (List Int)) (p1 : Int) (p2 : Int) (r : Int) (hF : F62 p0 p1 p2 = some r) : PureSim Tryz.prog 62 [sv 0 p0.length ANY, ag [iv p1, iv p2]] [ab 3 e3 p0] (V62 1 r) (N62 1 r) :=
  PureSim.of_FinM Tryz.func62 (c := c62) (by kernel_rfl) (by kernel_rfl) 1 rfl [0, 1] [0] (by kernel_rfl) (B62 p0 p1 p2 r hF)

-- agonic/neutral.changes[int]
noncomputable def c107 : Code := Tryz.f107.code
noncomputable def H107_0 (p0 : (List Int)) (p1 : (List Int)) (p2 : (List Int)) (p3 : Int) (p4 : Int) (r21 : Int) (m29 : Int) : List Blk := [cl 131 [sv 1 3 ANY], cl 132 [sv 2 p0.length ANY, sv 3 p1.length ANY, sv 4 p2.length ANY], ab 3 e3 p0, ab 3 e3 p1, ab 3 e3 p2, cl 206 [.func (.func 62) ⟨[]⟩ ⟨[]⟩], cl 34 [iv p3, iv p4], cl 3 [iv 0], cl 3 [iv r21], cl 3 [iv m29], .mark, .loop (st 24 [(2, iv 0), (3, pt 7 0), (4, pt 8 0), (5, pt 9 0), (7, .func (.func 143) ⟨[]⟩ ⟨[pt 0 0, pt 5 0, pt 6 0]⟩)]).tmps [8] c107.s2.s2.s2.s1.s2.bd.ras c107.s2.s2.s2.s1.s2.bd.rbd .ready none]
noncomputable def H107_1 (p0 : (List Int)) (p1 : (List Int)) (p2 : (List Int)) (p3 : Int) (p4 : Int) (r40 : Int) (m48 : Int) : List Blk := [cl 131 [sv 1 3 ANY], cl 132 [sv 2 p0.length ANY, sv 3 p1.length ANY, sv 4 p2.length ANY], ab 3 e3 p0, ab 3 e3 p1, ab 3 e3 p2, cl 206 [.func (.func 62) ⟨[]⟩ ⟨[]⟩], cl 34 [iv p3, iv p4], cl 3 [iv 0], cl 3 [iv r40], cl 3 [iv m48], .mark, .loop (st 24 [(2, iv 0), (3, pt 7 0), (4, pt 8 0), (5, pt 9 0), (7, .func (.func 143) ⟨[]⟩ ⟨[pt 0 0, pt 5 0, pt 6 0]⟩)]).tmps [8] c107.s2.s2.s2.s1.s2.bd.ras c107.s2.s2.s2.s1.s2.bd.rbd .ready none]
noncomputable def H107_2 (p0 : (List Int)) (p1 : (List Int)) (p2 : (List Int)) (p3 : Int) (p4 : Int) (r34 : Int) (m55 : Int) : List Blk := [cl 131 [sv 1 3 ANY], cl 132 [sv 2 p0.length ANY, sv 3 p1.length ANY, sv 4 p2.length ANY], ab 3 e3 p0, ab 3 e3 p1, ab 3 e3 p2, cl 206 [.func (.func 62) ⟨[]⟩ ⟨[]⟩], cl 34 [iv p3, iv p4], cl 3 [iv 0], cl 3 [iv r34], cl 3 [iv m55], .mark, .loop (st 24 [(2, iv 0), (3, pt 7 0), (4, pt 8 0), (5, pt 9 0), (7, .func (.func 143) ⟨[]⟩ ⟨[pt 0 0, pt 5 0, pt 6 0]⟩)]).tmps [8] c107.s2.s2.s2.s1.s2.bd.ras c107.s2.s2.s2.s1.s2.bd.rbd .ready none]
noncomputable def H107_3 (p0 : (List Int)) (p1 : (List Int)) (p2 : (List Int)) (p3 : Int) (p4 : Int) (r59 : Int) (m67 : Int) : List Blk := [cl 131 [sv 1 3 ANY], cl 132 [sv 2 p0.length ANY, sv 3 p1.length ANY, sv 4 p2.length ANY], ab 3 e3 p0, ab 3 e3 p1, ab 3 e3 p2, cl 206 [.func (.func 62) ⟨[]⟩ ⟨[]⟩], cl 34 [iv p3, iv p4], cl 3 [iv 0], cl 3 [iv r59], cl 3 [iv m67], .mark, .loop (st 24 [(2, iv 0), (3, pt 7 0), (4, pt 8 0), (5, pt 9 0), (7, .func (.func 143) ⟨[]⟩ ⟨[pt 0 0, pt 5 0, pt 6 0]⟩)]).tmps [8] c107.s2.s2.s2.s1.s2.bd.ras c107.s2.s2.s2.s1.s2.bd.rbd .ready none]
noncomputable def H107_4 (p0 : (List Int)) (p1 : (List Int)) (p2 : (List Int)) (p3 : Int) (p4 : Int) (r34 : Int) (m55 : Int) : List Blk := [cl 131 [sv 1 3 ANY], cl 132 [sv 2 p0.length ANY, sv 3 p1.length ANY, sv 4 p2.length ANY], ab 3 e3 p0, ab 3 e3 p1, ab 3 e3 p2, cl 206 [.func (.func 62) ⟨[]⟩ ⟨[]⟩], cl 34 [iv p3, iv p4], cl 3 [iv 0], cl 3 [iv r34], cl 3 [iv m55], .mark, .loop (st 24 [(2, iv 0), (3, pt 7 0), (4, pt 8 0), (5, pt 9 0), (7, .func (.func 143) ⟨[]⟩ ⟨[pt 0 0, pt 5 0, pt 6 0]⟩)]).tmps [8] c107.s2.s2.s2.s1.s2.bd.ras c107.s2.s2.s2.s1.s2.bd.rbd .busy none]
noncomputable def H107_5 (p0 : (List Int)) (p1 : (List Int)) (p2 : (List Int)) (p3 : Int) (p4 : Int) (r15 : Int) : List Blk := [cl 131 [sv 1 3 ANY], cl 132 [sv 2 p0.length ANY, sv 3 p1.length ANY, sv 4 p2.length ANY], ab 3 e3 p0, ab 3 e3 p1, ab 3 e3 p2, cl 206 [.func (.func 62) ⟨[]⟩ ⟨[]⟩], cl 34 [iv p3, iv p4], cl 3 [iv 0], cl 3 [iv r15], cl 3 [iv 0], .mark, .loop (st 24 [(2, iv 0), (3, pt 7 0), (4, pt 8 0), (5, pt 9 0), (7, .func (.func 143) ⟨[]⟩ ⟨[pt 0 0, pt 5 0, pt 6 0]⟩)]).tmps [8] c107.s2.s2.s2.s1.s2.bd.ras c107.s2.s2.s2.s1.s2.bd.rbd .ready none]
noncomputable def H107_6 (p0 : (List Int)) (p1 : (List Int)) (p2 : (List Int)) (p3 : Int) (p4 : Int) (r9 : Int) : List Blk := [cl 131 [sv 1 3 ANY], cl 132 [sv 2 p0.length ANY, sv 3 p1.length ANY, sv 4 p2.length ANY], ab 3 e3 p0, ab 3 e3 p1, ab 3 e3 p2, cl 206 [.func (.func 62) ⟨[]⟩ ⟨[]⟩], cl 34 [iv p3, iv p4], cl 3 [iv 0], cl 3 [iv r9], cl 3 [iv 0], .mark, .loop (st 24 [(2, iv 0), (3, pt 7 0), (4, pt 8 0), (5, pt 9 0), (7, .func (.func 143) ⟨[]⟩ ⟨[pt 0 0, pt 5 0, pt 6 0]⟩)]).tmps [8] c107.s2.s2.s2.s1.s2.bd.ras c107.s2.s2.s2.s1.s2.bd.rbd .ready none]
noncomputable def H107_7 (p0 : (List Int)) (p1 : (List Int)) (p2 : (List Int)) (p3 : Int) (p4 : Int) (r3 : Int) : List Blk := [cl 131 [sv 1 3 ANY], cl 132 [sv 2 p0.length ANY, sv 3 p1.length ANY, sv 4 p2.length ANY], ab 3 e3 p0, ab 3 e3 p1, ab 3 e3 p2, cl 206 [.func (.func 62) ⟨[]⟩ ⟨[]⟩], cl 34 [iv p3, iv p4], cl 3 [iv 0], cl 3 [iv r3], cl 3 [iv 0], .mark, .loop (st 24 [(2, iv 0), (3, pt 7 0), (4, pt 8 0), (5, pt 9 0), (7, .func (.func 143) ⟨[]⟩ ⟨[pt 0 0, pt 5 0, pt 6 0]⟩)]).tmps [8] c107.s2.s2.s2.s1.s2.bd.ras c107.s2.s2.s2.s1.s2.bd.rbd .ready none]
noncomputable def H107_8 (p0 : (List Int)) (p1 : (List Int)) (p2 : (List Int)) (p3 : Int) (p4 : Int) : List Blk := [cl 131 [sv 1 3 ANY], cl 132 [sv 2 p0.length ANY, sv 3 p1.length ANY, sv 4 p2.length ANY], ab 3 e3 p0, ab 3 e3 p1, ab 3 e3 p2, cl 206 [.func (.func 62) ⟨[]⟩ ⟨[]⟩], cl 34 [iv p3, iv p4], cl 3 [iv 0], cl 3 [iv 0], cl 3 [iv 0], .mark, .loop (st 24 [(2, iv 0), (3, pt 7 0), (4, pt 8 0), (5, pt 9 0), (7, .func (.func 143) ⟨[]⟩ ⟨[pt 0 0, pt 5 0, pt 6 0]⟩)]).tmps [8] c107.s2.s2.s2.s1.s2.bd.ras c107.s2.s2.s2.s1.s2.bd.rbd .ready none]
noncomputable def H107_9 (p0 : (List Int)) (p1 : (List Int)) (p2 : (List Int)) (p3 : Int) (p4 : Int) (r9 : Int) : List Blk := [cl 131 [sv 1 3 ANY], cl 132 [sv 2 p0.length ANY, sv 3 p1.length ANY, sv 4 p2.length ANY], ab 3 e3 p0, ab 3 e3 p1, ab 3 e3 p2, cl 206 [.func (.func 62) ⟨[]⟩ ⟨[]⟩], cl 34 [iv p3, iv p4], cl 3 [iv 0], cl 3 [iv r9], cl 3 [iv 0], .mark, .loop (st 24 [(2, iv 0), (3, pt 7 0), (4, pt 8 0), (5, pt 9 0), (7, .func (.func 143) ⟨[]⟩ ⟨[pt 0 0, pt 5 0, pt 6 0]⟩)]).tmps [8] c107.s2.s2.s2.s1.s2.bd.ras c107.s2.s2.s2.s1.s2.bd.rbd .busy none]
noncomputable def H107_10 (p0 : (List Int)) (p1 : (List Int)) (p2 : (List Int)) (p3 : Int) (p4 : Int) (r3 : Int) : List Blk := [cl 131 [sv 1 3 ANY], cl 132 [sv 2 p0.length ANY, sv 3 p1.length ANY, sv 4 p2.length ANY], ab 3 e3 p0, ab 3 e3 p1, ab 3 e3 p2, cl 206 [.func (.func 62) ⟨[]⟩ ⟨[]⟩], cl 34 [iv p3, iv p4], cl 3 [iv 0], cl 3 [iv r3], cl 3 [iv 0], .mark, .loop (st 24 [(2, iv 0), (3, pt 7 0), (4, pt 8 0), (5, pt 9 0), (7, .func (.func 143) ⟨[]⟩ ⟨[pt 0 0, pt 5 0, pt 6 0]⟩)]).tmps [8] c107.s2.s2.s2.s1.s2.bd.ras c107.s2.s2.s2.s1.s2.bd.rbd .busy none]
noncomputable def H107_11 (p0 : (List Int)) (p1 : (List Int)) (p2 : (List Int)) (p3 : Int) (p4 : Int) (r3 : Int) : List Blk := [cl 131 [sv 1 3 ANY], cl 132 [sv 2 p0.length ANY, sv 3 p1.length ANY, sv 4 p2.length ANY], ab 3 e3 p0, ab 3 e3 p1, ab 3 e3 p2, cl 206 [.func (.func 62) ⟨[]⟩ ⟨[]⟩], cl 34 [iv p3, iv p4], cl 3 [iv 0], cl 3 [iv r3], cl 3 [iv 1], .mark, .loop (st 24 [(2, iv 0), (3, pt 7 0), (4, pt 8 0), (5, pt 9 0), (7, .func (.func 143) ⟨[]⟩ ⟨[pt 0 0, pt 5 0, pt 6 0]⟩)]).tmps [8] c107.s2.s2.s2.s1.s2.bd.ras c107.s2.s2.s2.s1.s2.bd.rbd .busy none]
def H107_12 (p0 : (List Int)) (p1 : (List Int)) (p2 : (List Int)) (p3 : Int) (p4 : Int) : List Blk := [cl 131 [sv 1 3 ANY], cl 132 [sv 2 p0.length ANY, sv 3 p1.length ANY, sv 4 p2.length ANY], ab 3 e3 p0, ab 3 e3 p1, ab 3 e3 p2, cl 206 [.func (.func 62) ⟨[]⟩ ⟨[]⟩], cl 34 [iv p3, iv p4], .dead, .dead, cl 3 [iv 0], .mark, .dead]
def H107_13 (p0 : (List Int)) (p1 : (List Int)) (p2 : (List Int)) (p3 : Int) (p4 : Int) : List Blk := [cl 131 [sv 1 3 ANY], cl 132 [sv 2 p0.length ANY, sv 3 p1.length ANY, sv 4 p2.length ANY], ab 3 e3 p0, ab 3 e3 p1, ab 3 e3 p2, cl 206 [.func (.func 62) ⟨[]⟩ ⟨[]⟩], cl 34 [iv p3, iv p4], .dead, .dead, .dead, .mark, .dead]
def H107_14 (p0 : (List Int)) (p1 : (List Int)) (p2 : (List Int)) (p3 : Int) (p4 : Int) : List Blk := [cl 131 [sv 1 3 ANY], cl 132 [sv 2 p0.length ANY, sv 3 p1.length ANY, sv 4 p2.length ANY], ab 3 e3 p0, ab 3 e3 p1, ab 3 e3 p2, cl 206 [.func (.func 62) ⟨[]⟩ ⟨[]⟩], cl 34 [iv p3, iv p4], .dead, .dead, .dead, .dead, .dead]
def H107_15 (p0 : (List Int)) (p1 : (List Int)) (p2 : (List Int)) (p3 : Int) (p4 : Int) : List Blk := [cl 131 [sv 1 3 ANY], cl 132 [sv 2 p0.length ANY, sv 3 p1.length ANY, sv 4 p2.length ANY], ab 3 e3 p0, ab 3 e3 p1, ab 3 e3 p2, cl 206 [.func (.func 62) ⟨[]⟩ ⟨[]⟩], cl 34 [iv p3, iv p4]]
def S107_16 (p1 : (List Int)) (p3 : Int) (p4 : Int) : CAct := (st 21 [(0, .func (.yield 11) #[] #[]), (2, pt 5 0), (3, pt 6 0), (7, sv 1 3 ANY), (8, iv 3), (9, iv 1), (13, .func (.yield 11) #[] #[]), (14, .func (.func 62) ⟨[]⟩ ⟨[]⟩), (15, sv 3 p1.length ANY), (16, ag [iv p3, iv p4])])
def S107_17 (p2 : (List Int)) (p3 : Int) (p4 : Int) : CAct := (st 21 [(0, .func (.yield 11) #[] #[]), (2, pt 5 0), (3, pt 6 0), (7, sv 1 3 ANY), (8, iv 3), (9, iv 2), (13, .func (.yield 11) #[] #[]), (14, .func (.func 62) ⟨[]⟩ ⟨[]⟩), (15, sv 4 p2.length ANY), (16, ag [iv p3, iv p4])])
def S107_18 (p1 : (List Int)) : CAct := (st 21 [(0, .func (.yield 11) #[] #[]), (2, pt 5 0), (3, pt 6 0), (6, sv 3 p1.length ANY), (7, sv 1 3 ANY), (8, iv 3), (9, iv 1)])
def S107_19 (p2 : (List Int)) : CAct := (st 21 [(0, .func (.yield 11) #[] #[]), (2, pt 5 0), (3, pt 6 0), (6, sv 4 p2.length ANY), (7, sv 1 3 ANY), (8, iv 3), (9, iv 2)])
def S107_20 (r21 : Int) : CAct := (st 21 [(0, .func (.yield 11) #[] #[]), (2, pt 5 0), (3, pt 6 0), (7, sv 1 3 ANY), (8, iv 3), (9, iv 2), (13, .func (.yield 11) #[] #[]), (17, iv r21)])
def S107_21 (r34 : Int) : CAct := (st 21 [(0, .func (.yield 11) #[] #[]), (2, pt 5 0), (3, pt 6 0), (7, sv 1 3 ANY), (8, iv 3), (9, iv 1), (13, .func (.yield 11) #[] #[]), (17, iv r34)])
def S107_22 (r40 : Int) : CAct := (st 21 [(0, .func (.yield 11) #[] #[]), (2, pt 5 0), (3, pt 6 0), (7, sv 1 3 ANY), (8, iv 3), (9, iv 2), (13, .func (.yield 11) #[] #[]), (17, iv r40)])
def S107_23 (r59 : Int) : CAct := (st 21 [(0, .func (.yield 11) #[] #[]), (2, pt 5 0), (3, pt 6 0), (7, sv 1 3 ANY), (8, iv 3), (9, iv 2), (13, .func (.yield 11) #[] #[]), (17, iv r59)])
def S107_24  : CAct := (st 21 [(0, .func (.yield 11) #[] #[]), (2, pt 5 0), (3, pt 6 0), (7, sv 1 3 ANY), (8, iv 3), (9, iv 0), (19, .bool false)])
def S107_25  : CAct := (st 21 [(0, .func (.yield 11) #[] #[]), (2, pt 5 0), (3, pt 6 0), (7, sv 1 3 ANY), (8, iv 3), (9, iv 1), (19, .bool false)])
def S107_26  : CAct := (st 21 [(0, .func (.yield 11) #[] #[]), (2, pt 5 0), (3, pt 6 0), (7, sv 1 3 ANY), (8, iv 3), (9, iv 2), (19, .bool false)])
def S107_27  : CAct := (st 21 [(0, .func (.yield 11) #[] #[]), (2, pt 5 0), (3, pt 6 0), (7, sv 1 3 ANY), (8, iv 3), (9, iv 3), (10, .bool false)])
def S107_28  : CAct := (st 21 [(0, .func (.yield 11) #[] #[]), (2, pt 5 0), (3, pt 6 0), (7, sv 1 3 ANY), (8, iv 3), (9, iv 0), (18, .bool true)])
def S107_29  : CAct := (st 21 [(0, .func (.yield 11) #[] #[]), (2, pt 5 0), (3, pt 6 0), (7, sv 1 3 ANY), (8, iv 3), (9, iv 1), (10, .bool true)])
def S107_30  : CAct := (st 21 [(0, .func (.yield 11) #[] #[]), (2, pt 5 0), (3, pt 6 0), (7, sv 1 3 ANY), (8, iv 3), (9, iv 1), (18, .bool true)])
def S107_31  : CAct := (st 21 [(0, .func (.yield 11) #[] #[]), (2, pt 5 0), (3, pt 6 0), (7, sv 1 3 ANY), (8, iv 3), (9, iv 2), (10, .bool true)])
def S107_32  : CAct := (st 21 [(0, .func (.yield 11) #[] #[]), (2, pt 5 0), (3, pt 6 0), (7, sv 1 3 ANY), (8, iv 3), (9, iv 2), (18, .bool true)])
def S107_33  : CAct := (st 21 [(0, .func (.yield 11) #[] #[]), (2, pt 5 0), (3, pt 6 0), (7, sv 1 3 ANY), (8, iv 3), (9, iv 1)])
def S107_34  : CAct := (st 21 [(0, .func (.yield 11) #[] #[]), (2, pt 5 0), (3, pt 6 0), (7, sv 1 3 ANY), (8, iv 3), (9, iv 2)])
def S107_35  : CAct := (st 21 [(0, .func (.yield 11) #[] #[]), (2, pt 5 0), (3, pt 6 0), (7, sv 1 3 ANY), (8, iv 3), (9, iv 3)])
def S107_36  : CAct := (st 24 [(2, iv 0), (3, pt 7 0), (4, pt 8 0), (5, pt 9 0), (7, .func (.func 143) ⟨[]⟩ ⟨[pt 0 0, pt 5 0, pt 6 0]⟩)])
noncomputable def c107f143 : Code := Tryz.f143.code
def F107 (p0 : (List Int)) (p1 : (List Int)) (p2 : (List Int)) (p3 : Int) (p4 : Int) : Option Int :=
  F62 p0 p3 p4 >>= fun r3 =>
  if r3 == 0 then
    F62 p1 p3 p4 >>= fun r9 =>
    if r9 == 0 then
      F62 p2 p3 p4 >>= fun r15 =>
      if r15 == 0 then
        some 0
      else
        some 0
    else
      F62 p2 p3 p4 >>= fun r21 =>
      if r21 == 0 then
        some 0
      else
        (
          if r9 != 0 then
            some (r21 != r9)
          else
            some (false)
        : Option Bool) >>= fun m26 =>
        (
          if m26 then
            some 1
          else
            some 0
        : Option Int) >>= fun m29 =>
        some m29
  else
    F62 p1 p3 p4 >>= fun r34 =>
    if r34 == 0 then
      F62 p2 p3 p4 >>= fun r40 =>
      if r40 == 0 then
        some 0
      else
        (
          if r3 != 0 then
            some (r40 != r3)
          else
            some (false)
        : Option Bool) >>= fun m45 =>
        (
          if m45 then
            some 1
          else
            some 0
        : Option Int) >>= fun m48 =>
        some m48
    else
      (
        if r3 != 0 then
          some (r34 != r3)
        else
          some (false)
      : Option Bool) >>= fun m52 =>
      (
        if m52 then
          some 1
        else
          some 0
      : Option Int) >>= fun m55 =>
      F62 p2 p3 p4 >>= fun r59 =>
      if r59 == 0 then
        some m55
      else
        (
          if r34 != 0 then
            some (r59 != r34)
          else
            some (false)
        : Option Bool) >>= fun m64 =>
        (
          if m64 then
            some (w64 (m55 + 1))
          else
            some m55
        : Option Int) >>= fun m67 =>
        some m67
def V107 (b : Nat) (r : Int) : Value := iv r
def N107 (b : Nat) (r : Int) : List Blk := []
theorem B107 (p0 : (List Int)) (p1 : (List Int)) (p2 : (List Int)) (p3 : Int) (p4 : Int) (r : Int) (hF : F107 p0 p1 p2 p3 p4 = some r) : TS0 Tryz.prog 7 7 c107 (st 24 [(0, .func (.func 143) ⟨[]⟩ ⟨[pt 0 0, pt 5 0, pt 6 0]⟩)]) (H107_15 p0 p1 p2 p3 p4) (NX0 Tryz.prog 7 7 [] (FinM Tryz.prog Tryz.f107 7 (V107 7 r) (N107 7 r))) := by
  unfold F107 at hF
  refine TS0.sqP (by kernel_rfl) (TS0.piece (TS.rg (TI.ra 1 [0, 2] (st 24 [(0, .func (.func 143) ⟨[]⟩ ⟨[pt 0 0, pt 5 0, pt 6 0]⟩), (2, iv 0)]) (TI.dn (NX.z (NX0.sq (TS0.sqP (by kernel_rfl) (TS0.piece ?_))))))))
  refine TS.rg (TI.rn 2 [0, 2, 3, 4] [0, 1, 2, 3, 4, 5, 6, 7, 8] (st 24 [(0, .func (.func 143) ⟨[]⟩ ⟨[pt 0 0, pt 5 0, pt 6 0]⟩), (2, iv 0), (3, pt 7 0), (4, pt 8 0)]) [cl 131 [sv 1 3 ANY], cl 132 [sv 2 p0.length ANY, sv 3 p1.length ANY, sv 4 p2.length ANY], ab 3 e3 p0, ab 3 e3 p1, ab 3 e3 p2, cl 206 [.func (.func 62) ⟨[]⟩ ⟨[]⟩], cl 34 [iv p3, iv p4], cl 3 [iv 0], cl 3 [iv 0]] (TI.dn (NX.z (NX0.sq (TS0.sqP (by kernel_rfl) (TS0.piece (TS.rg (TI.rn 2 [0, 2, 3, 4, 5] [0, 1, 2, 3, 4, 5, 6, 7, 8, 9] (st 24 [(0, .func (.func 143) ⟨[]⟩ ⟨[pt 0 0, pt 5 0, pt 6 0]⟩), (2, iv 0), (3, pt 7 0), (4, pt 8 0), (5, pt 9 0)]) [cl 131 [sv 1 3 ANY], cl 132 [sv 2 p0.length ANY, sv 3 p1.length ANY, sv 4 p2.length ANY], ab 3 e3 p0, ab 3 e3 p1, ab 3 e3 p2, cl 206 [.func (.func 62) ⟨[]⟩ ⟨[]⟩], cl 34 [iv p3, iv p4], cl 3 [iv 0], cl 3 [iv 0], cl 3 [iv 0]] ?_))))))))
  refine TI.dn (NX.z (NX0.sq (TS0.sqP (by kernel_rfl) (TS0.sqP (by kernel_rfl) (TS0.piece (TS.rg (TI.ra 1 [2, 3, 4, 5, 7] (S107_36) (TI.dn ?_))))))))
  refine NX.z (NX0.sq (TS0.bkP (id := 0) (by kernel_rfl) (TS0.rgP (g := (.tmp 7)) (ps := #[8]) (f := 143) (first := #[]) (captured := #[pt 0 0, pt 5 0, pt 6 0]) (fn := Tryz.f143) (ci := c107f143) (n := 10) (by kernel_rfl) (by kernel_rfl) (by kernel_rfl) (by kernel_rfl) (by kernel_rfl) (by kernel_rfl) [0, 1, 2, 3] (a2 := (st 21 [(0, .func (.yield 11) #[] #[]), (1, pt 0 0), (2, pt 5 0), (3, pt 6 0)])) (h2 := (H107_8 p0 p1 p2 p3 p4)) (by kernel_rfl) (by kernel_rfl) (TS.sq (TS.rg (TI.ra 3 [0, 2, 3, 7, 8, 9] (st 21 [(0, .func (.yield 11) #[] #[]), (2, pt 5 0), (3, pt 6 0), (7, sv 1 3 ANY), (8, iv 3), (9, iv 0)]) (TI.dn (NX.sq ?_))))))))
  refine TS.bk 0 (TS.lp (TL.round (TS.sq (TS.rg (TI.ra 1 [0, 2, 3, 7, 8, 9, 10] (st 21 [(0, .func (.yield 11) #[] #[]), (2, pt 5 0), (3, pt 6 0), (7, sv 1 3 ANY), (8, iv 3), (9, iv 0), (10, .bool true)]) (TI.dn (NX.sq (TS.sq ?_))))))))
  refine TS.cdT (.tmp 10) (TS.sk (NX.sq (TS.sq (TS.bk 1 (TS.sq (TS.rg (TI.ra 3 [0, 2, 3, 6, 7, 8, 9] (st 21 [(0, .func (.yield 11) #[] #[]), (2, pt 5 0), (3, pt 6 0), (6, sv 2 p0.length ANY), (7, sv 1 3 ANY), (8, iv 3), (9, iv 0)]) (TI.dn ?_))))))))
  refine NX.sq (TS.sq ?_)
  have hX := of_do hF
  clear hF
  obtain ⟨r3, h4, hF⟩ := hX
  refine TS.rg (TI.ra 4 [0, 2, 3, 7, 8, 9, 13, 14, 15, 16] (st 21 [(0, .func (.yield 11) #[] #[]), (2, pt 5 0), (3, pt 6 0), (7, sv 1 3 ANY), (8, iv 3), (9, iv 0), (13, .func (.yield 11) #[] #[]), (14, .func (.func 62) ⟨[]⟩ ⟨[]⟩), (15, sv 2 p0.length ANY), (16, ag [iv p3, iv p4])]) (TI.callM (g := 62) (args := [sv 2 p0.length ANY, ag [iv p3, iv p4]]) (v := iv r3) (new := []) (by kernel_rfl) (PureSim.ren (hc := [ab 3 e3 p0]) (fun i => List.getD [(2, 0)] i (0, 0)) (C62 _ _ _ _ h4) (.ac (.nil _)) (.cons (Rn.any _ _ _ _ _ _ (Nat.le_of_ble_eq_true rfl) rfl rfl (by decide)) (.fl .nil)) (.flat (by kernel_rfl)) newflat_nil) [0, 2, 3, 7, 8, 9, 13, 17] [0, 1, 2, 3, 4, 5, 6, 7, 8, 9, 10, 11] (a2 := (st 21 [(0, .func (.yield 11) #[] #[]), (2, pt 5 0), (3, pt 6 0), (7, sv 1 3 ANY), (8, iv 3), (9, iv 0), (13, .func (.yield 11) #[] #[]), (17, iv r3)])) (h2 := (H107_8 p0 p1 p2 p3 p4)) (by kernel_rfl) (TI.yield (l := 11) (n := 12) (args := [iv r3]) (t := (S107_36).tmps) (p := [8]) («as» := c107.s2.s2.s2.s1.s2.bd.ras) (bd := c107.s2.s2.s2.s1.s2.bd.rbd) (a2 := (st 24 [(2, iv 0), (3, pt 7 0), (4, pt 8 0), (5, pt 9 0), (7, .func (.func 143) ⟨[]⟩ ⟨[pt 0 0, pt 5 0, pt 6 0]⟩), (8, iv r3)])) (by kernel_rfl) (by kernel_rfl) (by decide) rfl (by kernel_rfl) (by kernel_rfl) (TS.rg (TI.ra 1 [3, 4, 5, 6] (st 24 [(3, pt 7 0), (4, pt 8 0), (5, pt 9 0), (6, iv r3)]) (TI.dn ?_))))))
  refine ⟨rfl, (S107_36).tmps, [8], c107.s2.s2.s2.s1.s2.bd.ras, c107.s2.s2.s2.s1.s2.bd.rbd, by kernel_rfl, (TS.bk 1 (TS.sq (TS.sq (TS.rg (TI.ra 3 [3, 4, 5, 6, 11] (st 24 [(3, pt 7 0), (4, pt 8 0), (5, pt 9 0), (6, iv r3), (11, .bool (r3 == 0))]) (TI.dn (NX.sq ?_)))))))⟩
  refine TS.cd (.tmp 11) (r3 == 0) (fun hc6 => ?_) (fun hc6 => ?_)
  · replace hF := of_pos hF hc6
    refine TS.ex 1 (NX.sqX (NX.bkX ?_))
    refine ⟨.bool true, (H107_8 p0 p1 p2 p3 p4), by kernel_rfl, (TI.rn 0 [0, 2, 3, 7, 8, 9, 18] [0, 1, 2, 3, 4, 5, 6, 7, 8, 9, 10, 11] (S107_28) (H107_8 p0 p1 p2 p3 p4) (TI.ra 1 [0, 2, 3, 7, 8, 9, 19] (S107_24) (TI.dn (NX.sq (TS.cdF (.tmp 19) (TS.sk (NX.bk (NX.sq ?_))))))))⟩
    refine TS.rg (TI.ra 2 [0, 2, 3, 7, 8, 9] (S107_33) (TI.dn ?_))
    refine Rd.again Wk.refl (TL.round (TS.sq (TS.rg (TI.ra 1 [0, 2, 3, 7, 8, 9, 10] (S107_29) (TI.dn (NX.sq (TS.sq (TS.cdT (.tmp 10) (TS.sk ?_)))))))))
    refine NX.sq (TS.sq (TS.bk 1 (TS.sq (TS.rg (TI.ra 3 [0, 2, 3, 6, 7, 8, 9] (S107_18 p1) (TI.dn (NX.sq (TS.sq ?_))))))))
    have hX := of_do hF
    clear hF
    obtain ⟨r9, h10, hF⟩ := hX
    refine TS.rg (TI.ra 4 [0, 2, 3, 7, 8, 9, 13, 14, 15, 16] (S107_16 p1 p3 p4) (TI.callM (g := 62) (args := [sv 3 p1.length ANY, ag [iv p3, iv p4]]) (v := iv r9) (new := []) (by kernel_rfl) (PureSim.ren (hc := [ab 3 e3 p1]) (fun i => List.getD [(3, 0)] i (0, 0)) (C62 _ _ _ _ h10) (.ac (.nil _)) (.cons (Rn.any _ _ _ _ _ _ (Nat.le_of_ble_eq_true rfl) rfl rfl (by decide)) (.fl .nil)) (.flat (by kernel_rfl)) newflat_nil) [0, 2, 3, 7, 8, 9, 13, 17] [0, 1, 2, 3, 4, 5, 6, 7, 8, 9, 10, 11] (a2 := (st 21 [(0, .func (.yield 11) #[] #[]), (2, pt 5 0), (3, pt 6 0), (7, sv 1 3 ANY), (8, iv 3), (9, iv 1), (13, .func (.yield 11) #[] #[]), (17, iv r9)])) (h2 := (H107_8 p0 p1 p2 p3 p4)) (by kernel_rfl) (TI.yield (l := 11) (n := 12) (args := [iv r9]) (t := (S107_36).tmps) (p := [8]) («as» := c107.s2.s2.s2.s1.s2.bd.ras) (bd := c107.s2.s2.s2.s1.s2.bd.rbd) (a2 := (st 24 [(2, iv 0), (3, pt 7 0), (4, pt 8 0), (5, pt 9 0), (7, .func (.func 143) ⟨[]⟩ ⟨[pt 0 0, pt 5 0, pt 6 0]⟩), (8, iv r9)])) (by kernel_rfl) (by kernel_rfl) (by decide) rfl (by kernel_rfl) (by kernel_rfl) (TS.rg (TI.ra 1 [3, 4, 5, 6] (st 24 [(3, pt 7 0), (4, pt 8 0), (5, pt 9 0), (6, iv r9)]) (TI.dn ?_))))))
    refine ⟨rfl, (S107_36).tmps, [8], c107.s2.s2.s2.s1.s2.bd.ras, c107.s2.s2.s2.s1.s2.bd.rbd, by kernel_rfl, (TS.bk 1 (TS.sq (TS.sq (TS.rg (TI.ra 3 [3, 4, 5, 6, 11] (st 24 [(3, pt 7 0), (4, pt 8 0), (5, pt 9 0), (6, iv r9), (11, .bool (r9 == 0))]) (TI.dn (NX.sq ?_)))))))⟩
    refine TS.cd (.tmp 11) (r9 == 0) (fun hc12 => ?_) (fun hc12 => ?_)
    · replace hF := of_pos hF hc12
      refine TS.ex 1 (NX.sqX (NX.bkX ?_))
      refine ⟨.bool true, (H107_8 p0 p1 p2 p3 p4), by kernel_rfl, (TI.rn 0 [0, 2, 3, 7, 8, 9, 18] [0, 1, 2, 3, 4, 5, 6, 7, 8, 9, 10, 11] (S107_30) (H107_8 p0 p1 p2 p3 p4) (TI.ra 1 [0, 2, 3, 7, 8, 9, 19] (S107_25) (TI.dn (NX.sq (TS.cdF (.tmp 19) (TS.sk (NX.bk (NX.sq ?_))))))))⟩
      refine TS.rg (TI.ra 2 [0, 2, 3, 7, 8, 9] (S107_34) (TI.dn ?_))
      refine Rd.again Wk.refl (TL.round (TS.sq (TS.rg (TI.ra 1 [0, 2, 3, 7, 8, 9, 10] (S107_31) (TI.dn (NX.sq (TS.sq (TS.cdT (.tmp 10) (TS.sk ?_)))))))))
      refine NX.sq (TS.sq (TS.bk 1 (TS.sq (TS.rg (TI.ra 3 [0, 2, 3, 6, 7, 8, 9] (S107_19 p2) (TI.dn (NX.sq (TS.sq ?_))))))))
      have hX := of_do hF
      clear hF
      obtain ⟨r15, h16, hF⟩ := hX
      refine TS.rg (TI.ra 4 [0, 2, 3, 7, 8, 9, 13, 14, 15, 16] (S107_17 p2 p3 p4) (TI.callM (g := 62) (args := [sv 4 p2.length ANY, ag [iv p3, iv p4]]) (v := iv r15) (new := []) (by kernel_rfl) (PureSim.ren (hc := [ab 3 e3 p2]) (fun i => List.getD [(4, 0)] i (0, 0)) (C62 _ _ _ _ h16) (.ac (.nil _)) (.cons (Rn.any _ _ _ _ _ _ (Nat.le_of_ble_eq_true rfl) rfl rfl (by decide)) (.fl .nil)) (.flat (by kernel_rfl)) newflat_nil) [0, 2, 3, 7, 8, 9, 13, 17] [0, 1, 2, 3, 4, 5, 6, 7, 8, 9, 10, 11] (a2 := (st 21 [(0, .func (.yield 11) #[] #[]), (2, pt 5 0), (3, pt 6 0), (7, sv 1 3 ANY), (8, iv 3), (9, iv 2), (13, .func (.yield 11) #[] #[]), (17, iv r15)])) (h2 := (H107_8 p0 p1 p2 p3 p4)) (by kernel_rfl) (TI.yield (l := 11) (n := 12) (args := [iv r15]) (t := (S107_36).tmps) (p := [8]) («as» := c107.s2.s2.s2.s1.s2.bd.ras) (bd := c107.s2.s2.s2.s1.s2.bd.rbd) (a2 := (st 24 [(2, iv 0), (3, pt 7 0), (4, pt 8 0), (5, pt 9 0), (7, .func (.func 143) ⟨[]⟩ ⟨[pt 0 0, pt 5 0, pt 6 0]⟩), (8, iv r15)])) (by kernel_rfl) (by kernel_rfl) (by decide) rfl (by kernel_rfl) (by kernel_rfl) (TS.rg (TI.ra 1 [3, 4, 5, 6] (st 24 [(3, pt 7 0), (4, pt 8 0), (5, pt 9 0), (6, iv r15)]) (TI.dn ?_))))))
      refine ⟨rfl, (S107_36).tmps, [8], c107.s2.s2.s2.s1.s2.bd.ras, c107.s2.s2.s2.s1.s2.bd.rbd, by kernel_rfl, (TS.bk 1 (TS.sq (TS.sq (TS.rg (TI.ra 3 [3, 4, 5, 6, 11] (st 24 [(3, pt 7 0), (4, pt 8 0), (5, pt 9 0), (6, iv r15), (11, .bool (r15 == 0))]) (TI.dn (NX.sq ?_)))))))⟩
      refine TS.cd (.tmp 11) (r15 == 0) (fun hc18 => ?_) (fun hc18 => ?_)
      · replace hF := of_pos hF hc18
        refine TS.ex 1 (NX.sqX (NX.bkX ?_))
        refine ⟨.bool true, (H107_8 p0 p1 p2 p3 p4), by kernel_rfl, (TI.rn 0 [0, 2, 3, 7, 8, 9, 18] [0, 1, 2, 3, 4, 5, 6, 7, 8, 9, 10, 11] (S107_32) (H107_8 p0 p1 p2 p3 p4) (TI.ra 1 [0, 2, 3, 7, 8, 9, 19] (S107_26) (TI.dn (NX.sq (TS.cdF (.tmp 19) (TS.sk (NX.bk (NX.sq ?_))))))))⟩
        refine TS.rg (TI.ra 2 [0, 2, 3, 7, 8, 9] (S107_35) (TI.dn ?_))
        refine Rd.again Wk.refl (TL.round (TS.sq (TS.rg (TI.ra 1 [0, 2, 3, 7, 8, 9, 10] (S107_27) (TI.dn (NX.sq (TS.sq (TS.cdF (.tmp 10) (TS.ex 0 ?_)))))))))
        refine NX.sqX ?_
        refine Rd.out (by simp) (NX.bkX ?_)
        refine ⟨.inl rfl, rfl, ⟨.tuple ⟨[]⟩, by kernel_rfl⟩, .inl ⟨(S107_36).tmps, [8], c107.s2.s2.s2.s1.s2.bd.ras, c107.s2.s2.s2.s1.s2.bd.rbd, by kernel_rfl, (NX0.bk (NX0.sq (TS0.startM [5] [0, 1, 2, 3, 4, 5, 6, 9, 10] (a2 := (stm 24 [10] [(5, pt 9 0)])) (h2 := (H107_12 p0 p1 p2 p3 p4)) (by kernel_rfl) (TS0.piece (TS.sq (TS.rg (TI.rn 2 [2] [0, 1, 2, 3, 4, 5, 6, 10] (stm 24 [10] [(2, iv 0)]) (H107_13 p0 p1 p2 p3 p4) (TI.dn (NX.sq ?_)))))))))⟩⟩
        refine TS.rt (NX.z ?_)
        have hF := Option.some.inj hF
        subst hF
        exact ⟨.inr rfl, (H107_14 p0 p1 p2 p3 p4), by kernel_rfl, iv 0, by kernel_rfl, WkV.flat0 (by kernel_rfl) (Nat.le_of_ble_eq_true rfl)⟩
      · replace hF := of_neg hF hc18
        refine TS.sk (NX.sq (TS.sq (TS.sq (TS.rg (TI.ra 8 [4, 5, 6, 19] (st 24 [(4, pt 8 0), (5, pt 9 0), (6, iv r15), (19, .bool false)]) (TI.dn (NX.sq (TS.cdF (.tmp 19) ?_))))))))
        refine TS.sk (NX.sq (TS.rg (TI.rn 2 [] [0, 1, 2, 3, 4, 5, 6, 7, 8, 9, 10, 11] (st 24 []) [cl 131 [sv 1 3 ANY], cl 132 [sv 2 p0.length ANY, sv 3 p1.length ANY, sv 4 p2.length ANY], ab 3 e3 p0, ab 3 e3 p1, ab 3 e3 p2, cl 206 [.func (.func 62) ⟨[]⟩ ⟨[]⟩], cl 34 [iv p3, iv p4], cl 3 [iv 0], cl 3 [iv r15], cl 3 [iv 0], .mark, .loop (S107_36).tmps [8] c107.s2.s2.s2.s1.s2.bd.ras c107.s2.s2.s2.s1.s2.bd.rbd .busy none] (TI.dn (NX.bk ?_)))))
        refine ⟨.bool true, (H107_5 p0 p1 p2 p3 p4 r15), by kernel_rfl, (TI.rn 0 [0, 2, 3, 7, 8, 9, 18] [0, 1, 2, 3, 4, 5, 6, 7, 8, 9, 10, 11] (S107_32) (H107_5 p0 p1 p2 p3 p4 r15) (TI.ra 1 [0, 2, 3, 7, 8, 9, 19] (S107_26) (TI.dn (NX.sq (TS.cdF (.tmp 19) (TS.sk (NX.bk (NX.sq ?_))))))))⟩
        refine TS.rg (TI.ra 2 [0, 2, 3, 7, 8, 9] (S107_35) (TI.dn ?_))
        refine Rd.again Wk.refl (TL.round (TS.sq (TS.rg (TI.ra 1 [0, 2, 3, 7, 8, 9, 10] (S107_27) (TI.dn (NX.sq (TS.sq (TS.cdF (.tmp 10) (TS.ex 0 ?_)))))))))
        refine NX.sqX ?_
        refine Rd.out (by simp) (NX.bkX ?_)
        refine ⟨.inl rfl, rfl, ⟨.tuple ⟨[]⟩, by kernel_rfl⟩, .inl ⟨(S107_36).tmps, [8], c107.s2.s2.s2.s1.s2.bd.ras, c107.s2.s2.s2.s1.s2.bd.rbd, by kernel_rfl, (NX0.bk (NX0.sq (TS0.startM [5] [0, 1, 2, 3, 4, 5, 6, 9, 10] (a2 := (stm 24 [10] [(5, pt 9 0)])) (h2 := (H107_12 p0 p1 p2 p3 p4)) (by kernel_rfl) (TS0.piece (TS.sq (TS.rg (TI.rn 2 [2] [0, 1, 2, 3, 4, 5, 6, 10] (stm 24 [10] [(2, iv 0)]) (H107_13 p0 p1 p2 p3 p4) (TI.dn (NX.sq ?_)))))))))⟩⟩
        refine TS.rt (NX.z ?_)
        have hF := Option.some.inj hF
        subst hF
        exact ⟨.inr rfl, (H107_14 p0 p1 p2 p3 p4), by kernel_rfl, iv 0, by kernel_rfl, WkV.flat0 (by kernel_rfl) (Nat.le_of_ble_eq_true rfl)⟩
    · replace hF := of_neg hF hc12
      refine TS.sk (NX.sq (TS.sq (TS.sq (TS.rg (TI.ra 8 [4, 5, 6, 19] (st 24 [(4, pt 8 0), (5, pt 9 0), (6, iv r9), (19, .bool false)]) (TI.dn (NX.sq (TS.cdF (.tmp 19) ?_))))))))
      refine TS.sk (NX.sq (TS.rg (TI.rn 2 [] [0, 1, 2, 3, 4, 5, 6, 7, 8, 9, 10, 11] (st 24 []) (H107_9 p0 p1 p2 p3 p4 r9) (TI.dn (NX.bk ?_)))))
      refine ⟨.bool true, (H107_6 p0 p1 p2 p3 p4 r9), by kernel_rfl, (TI.rn 0 [0, 2, 3, 7, 8, 9, 18] [0, 1, 2, 3, 4, 5, 6, 7, 8, 9, 10, 11] (S107_30) (H107_6 p0 p1 p2 p3 p4 r9) (TI.ra 1 [0, 2, 3, 7, 8, 9, 19] (S107_25) (TI.dn (NX.sq (TS.cdF (.tmp 19) (TS.sk (NX.bk (NX.sq ?_))))))))⟩
      refine TS.rg (TI.ra 2 [0, 2, 3, 7, 8, 9] (S107_34) (TI.dn ?_))
      refine Rd.again Wk.refl (TL.round (TS.sq (TS.rg (TI.ra 1 [0, 2, 3, 7, 8, 9, 10] (S107_31) (TI.dn (NX.sq (TS.sq (TS.cdT (.tmp 10) (TS.sk ?_)))))))))
      refine NX.sq (TS.sq (TS.bk 1 (TS.sq (TS.rg (TI.ra 3 [0, 2, 3, 6, 7, 8, 9] (S107_19 p2) (TI.dn (NX.sq (TS.sq ?_))))))))
      have hX := of_do hF
      clear hF
      obtain ⟨r21, h22, hF⟩ := hX
      refine TS.rg (TI.ra 4 [0, 2, 3, 7, 8, 9, 13, 14, 15, 16] (S107_17 p2 p3 p4) (TI.callM (g := 62) (args := [sv 4 p2.length ANY, ag [iv p3, iv p4]]) (v := iv r21) (new := []) (by kernel_rfl) (PureSim.ren (hc := [ab 3 e3 p2]) (fun i => List.getD [(4, 0)] i (0, 0)) (C62 _ _ _ _ h22) (.ac (.nil _)) (.cons (Rn.any _ _ _ _ _ _ (Nat.le_of_ble_eq_true rfl) rfl rfl (by decide)) (.fl .nil)) (.flat (by kernel_rfl)) newflat_nil) [0, 2, 3, 7, 8, 9, 13, 17] [0, 1, 2, 3, 4, 5, 6, 7, 8, 9, 10, 11] (a2 := (S107_20 r21)) (h2 := (H107_6 p0 p1 p2 p3 p4 r9)) (by kernel_rfl) (TI.yield (l := 11) (n := 12) (args := [iv r21]) (t := (S107_36).tmps) (p := [8]) («as» := c107.s2.s2.s2.s1.s2.bd.ras) (bd := c107.s2.s2.s2.s1.s2.bd.rbd) (a2 := (st 24 [(2, iv 0), (3, pt 7 0), (4, pt 8 0), (5, pt 9 0), (7, .func (.func 143) ⟨[]⟩ ⟨[pt 0 0, pt 5 0, pt 6 0]⟩), (8, iv r21)])) (by kernel_rfl) (by kernel_rfl) (by decide) rfl (by kernel_rfl) (by kernel_rfl) (TS.rg (TI.ra 1 [3, 4, 5, 6] (st 24 [(3, pt 7 0), (4, pt 8 0), (5, pt 9 0), (6, iv r21)]) (TI.dn ?_))))))
      refine ⟨rfl, (S107_36).tmps, [8], c107.s2.s2.s2.s1.s2.bd.ras, c107.s2.s2.s2.s1.s2.bd.rbd, by kernel_rfl, (TS.bk 1 (TS.sq (TS.sq (TS.rg (TI.ra 3 [3, 4, 5, 6, 11] (st 24 [(3, pt 7 0), (4, pt 8 0), (5, pt 9 0), (6, iv r21), (11, .bool (r21 == 0))]) (TI.dn (NX.sq ?_)))))))⟩
      refine TS.cd (.tmp 11) (r21 == 0) (fun hc24 => ?_) (fun hc24 => ?_)
      · replace hF := of_pos hF hc24
        refine TS.ex 1 (NX.sqX (NX.bkX ?_))
        refine ⟨.bool true, (H107_6 p0 p1 p2 p3 p4 r9), by kernel_rfl, (TI.rn 0 [0, 2, 3, 7, 8, 9, 18] [0, 1, 2, 3, 4, 5, 6, 7, 8, 9, 10, 11] (S107_32) (H107_6 p0 p1 p2 p3 p4 r9) (TI.ra 1 [0, 2, 3, 7, 8, 9, 19] (S107_26) (TI.dn (NX.sq (TS.cdF (.tmp 19) (TS.sk (NX.bk (NX.sq ?_))))))))⟩
        refine TS.rg (TI.ra 2 [0, 2, 3, 7, 8, 9] (S107_35) (TI.dn ?_))
        refine Rd.again Wk.refl (TL.round (TS.sq (TS.rg (TI.ra 1 [0, 2, 3, 7, 8, 9, 10] (S107_27) (TI.dn (NX.sq (TS.sq (TS.cdF (.tmp 10) (TS.ex 0 ?_)))))))))
        refine NX.sqX ?_
        refine Rd.out (by simp) (NX.bkX ?_)
        refine ⟨.inl rfl, rfl, ⟨.tuple ⟨[]⟩, by kernel_rfl⟩, .inl ⟨(S107_36).tmps, [8], c107.s2.s2.s2.s1.s2.bd.ras, c107.s2.s2.s2.s1.s2.bd.rbd, by kernel_rfl, (NX0.bk (NX0.sq (TS0.startM [5] [0, 1, 2, 3, 4, 5, 6, 9, 10] (a2 := (stm 24 [10] [(5, pt 9 0)])) (h2 := (H107_12 p0 p1 p2 p3 p4)) (by kernel_rfl) (TS0.piece (TS.sq (TS.rg (TI.rn 2 [2] [0, 1, 2, 3, 4, 5, 6, 10] (stm 24 [10] [(2, iv 0)]) (H107_13 p0 p1 p2 p3 p4) (TI.dn (NX.sq ?_)))))))))⟩⟩
        refine TS.rt (NX.z ?_)
        have hF := Option.some.inj hF
        subst hF
        exact ⟨.inr rfl, (H107_14 p0 p1 p2 p3 p4), by kernel_rfl, iv 0, by kernel_rfl, WkV.flat0 (by kernel_rfl) (Nat.le_of_ble_eq_true rfl)⟩
      · replace hF := of_neg hF hc24
        refine TS.sk (NX.sq (TS.sq (TS.sq ?_)))
        have hX := of_do hF
        clear hF
        obtain ⟨m26, hm31, hF⟩ := hX
        have hK : NX Tryz.prog 7 12 [.sq c107.s2.s2.s2.s1.s2.bd.rbd.bd.s2.s1.s2, .sq c107.s2.s2.s2.s1.s2.bd.rbd.bd.s2.s2, .bk 1] (YB 11 (fun v h3 => TI Tryz.prog 7 12 c107f143.s2.bd.bd.s2.s2.s1.bd.s2.s1.rops 6 (putAt c107f143.s2.bd.bd.s2.s2.s1.bd.s2.s1.rops 5 (S107_20 r21) v) h3 (NX Tryz.prog 7 12 [.sq c107f143.s2.bd.bd.s2.s2.s1.bd.s2.s2, .bk 1, .sq c107f143.s2.bd.bd.s2.s2.s2] (Rd Tryz.prog 7 12 c107f143.s2.bd.bd (NX Tryz.prog 7 12 [.bk 0] (RgP Tryz.prog 7 7 Tryz.f143 10 (S107_36) (NX0 Tryz.prog 7 7 [.bk 0, .sq c107.s2.s2.s2.s2] (FinM Tryz.prog Tryz.f107 7 (V107 7 r) (N107 7 r)))))) .normal))) .normal (st 24 [(4, pt 8 0), (5, pt 9 0), (6, iv r21), (19, .bool m26)]) (H107_9 p0 p1 p2 p3 p4 r9) := by
          refine NX.sq ?_
          have hX := of_do hF
          clear hF
          obtain ⟨m29, hm30, hF⟩ := hX
          have hK : NX Tryz.prog 7 12 [.sq c107.s2.s2.s2.s1.s2.bd.rbd.bd.s2.s2, .bk 1] (YB 11 (fun v h3 => TI Tryz.prog 7 12 c107f143.s2.bd.bd.s2.s2.s1.bd.s2.s1.rops 6 (putAt c107f143.s2.bd.bd.s2.s2.s1.bd.s2.s1.rops 5 (S107_20 r21) v) h3 (NX Tryz.prog 7 12 [.sq c107f143.s2.bd.bd.s2.s2.s1.bd.s2.s2, .bk 1, .sq c107f143.s2.bd.bd.s2.s2.s2] (Rd Tryz.prog 7 12 c107f143.s2.bd.bd (NX Tryz.prog 7 12 [.bk 0] (RgP Tryz.prog 7 7 Tryz.f143 10 (S107_36) (NX0 Tryz.prog 7 7 [.bk 0, .sq c107.s2.s2.s2.s2] (FinM Tryz.prog Tryz.f107 7 (V107 7 r) (N107 7 r)))))) .normal))) .normal (st 24 [(4, pt 8 0), (6, iv r21)]) [cl 131 [sv 1 3 ANY], cl 132 [sv 2 p0.length ANY, sv 3 p1.length ANY, sv 4 p2.length ANY], ab 3 e3 p0, ab 3 e3 p1, ab 3 e3 p2, cl 206 [.func (.func 62) ⟨[]⟩ ⟨[]⟩], cl 34 [iv p3, iv p4], cl 3 [iv 0], cl 3 [iv r9], cl 3 [iv m29], .mark, .loop (S107_36).tmps [8] c107.s2.s2.s2.s1.s2.bd.ras c107.s2.s2.s2.s1.s2.bd.rbd .busy none] := by
            refine NX.sq (TS.rg (TI.rn 2 [] [0, 1, 2, 3, 4, 5, 6, 7, 8, 9, 10, 11] (st 24 []) [cl 131 [sv 1 3 ANY], cl 132 [sv 2 p0.length ANY, sv 3 p1.length ANY, sv 4 p2.length ANY], ab 3 e3 p0, ab 3 e3 p1, ab 3 e3 p2, cl 206 [.func (.func 62) ⟨[]⟩ ⟨[]⟩], cl 34 [iv p3, iv p4], cl 3 [iv 0], cl 3 [iv r21], cl 3 [iv m29], .mark, .loop (S107_36).tmps [8] c107.s2.s2.s2.s1.s2.bd.ras c107.s2.s2.s2.s1.s2.bd.rbd .busy none] (TI.dn (NX.bk ?_))))
            refine ⟨.bool true, (H107_0 p0 p1 p2 p3 p4 r21 m29), by kernel_rfl, (TI.rn 0 [0, 2, 3, 7, 8, 9, 18] [0, 1, 2, 3, 4, 5, 6, 7, 8, 9, 10, 11] (S107_32) (H107_0 p0 p1 p2 p3 p4 r21 m29) (TI.ra 1 [0, 2, 3, 7, 8, 9, 19] (S107_26) (TI.dn (NX.sq (TS.cdF (.tmp 19) (TS.sk (NX.bk (NX.sq ?_))))))))⟩
            refine TS.rg (TI.ra 2 [0, 2, 3, 7, 8, 9] (S107_35) (TI.dn ?_))
            refine Rd.again Wk.refl (TL.round (TS.sq (TS.rg (TI.ra 1 [0, 2, 3, 7, 8, 9, 10] (S107_27) (TI.dn (NX.sq (TS.sq (TS.cdF (.tmp 10) (TS.ex 0 ?_)))))))))
            refine NX.sqX ?_
            refine Rd.out (by simp) (NX.bkX ?_)
            refine ⟨.inl rfl, rfl, ⟨.tuple ⟨[]⟩, by kernel_rfl⟩, .inl ⟨(S107_36).tmps, [8], c107.s2.s2.s2.s1.s2.bd.ras, c107.s2.s2.s2.s1.s2.bd.rbd, by kernel_rfl, (NX0.bk (NX0.sq (TS0.startM [5] [0, 1, 2, 3, 4, 5, 6, 9, 10] (a2 := (stm 24 [10] [(5, pt 9 0)])) (h2 := [cl 131 [sv 1 3 ANY], cl 132 [sv 2 p0.length ANY, sv 3 p1.length ANY, sv 4 p2.length ANY], ab 3 e3 p0, ab 3 e3 p1, ab 3 e3 p2, cl 206 [.func (.func 62) ⟨[]⟩ ⟨[]⟩], cl 34 [iv p3, iv p4], .dead, .dead, cl 3 [iv m29], .mark, .dead]) (by kernel_rfl) (TS0.piece (TS.sq (TS.rg (TI.rn 2 [2] [0, 1, 2, 3, 4, 5, 6, 10] (stm 24 [10] [(2, iv m29)]) (H107_13 p0 p1 p2 p3 p4) (TI.dn (NX.sq ?_)))))))))⟩⟩
            refine TS.rt (NX.z ?_)
            have hF := Option.some.inj hF
            subst hF
            exact ⟨.inr rfl, (H107_14 p0 p1 p2 p3 p4), by kernel_rfl, iv m29, by kernel_rfl, WkV.flat0 (by kernel_rfl) (Nat.le_of_ble_eq_true rfl)⟩
          clear hF
          have hF := hm30
          clear hm30
          refine TS.start ?_
          cases m26 with
          | true =>
            replace hF := of_pos hF rfl
            refine TS.cdT (.tmp 19) (TS.rg (TI.rn 3 [4, 6] [0, 1, 2, 3, 4, 5, 6, 7, 8, 9, 10, 11] (st 24 [(4, pt 8 0), (6, iv r21)]) [cl 131 [sv 1 3 ANY], cl 132 [sv 2 p0.length ANY, sv 3 p1.length ANY, sv 4 p2.length ANY], ab 3 e3 p0, ab 3 e3 p1, ab 3 e3 p2, cl 206 [.func (.func 62) ⟨[]⟩ ⟨[]⟩], cl 34 [iv p3, iv p4], cl 3 [iv 0], cl 3 [iv r9], cl 3 [iv 1], .mark, .loop (S107_36).tmps [8] c107.s2.s2.s2.s1.s2.bd.ras c107.s2.s2.s2.s1.s2.bd.rbd .busy none] (TI.dn ?_)))
            have hF := Option.some.inj hF
            subst hF
            exact TS.weak (by exact (Wk.an [] (.lt (.sl .nil) (.lt (.sl (.sl (.sl .nil))) (.ac (.ac (.ac (.lt (.cons (Rn.func' .nil .nil) .nil) (.lt (.fl (.fl .nil)) (.lt (.fl .nil) (.lt (.fl .nil) (.lt (.fl .nil) (.cons (At.blk (by kernel_rfl) RnB.mark) (.cons (At.blk (b1 := .loop (S107_36).tmps [8] c107.s2.s2.s2.s1.s2.bd.ras c107.s2.s2.s2.s1.s2.bd.rbd .busy none) (by kernel_rfl) (RnB.loop _ _ _ _ _ _ _ (LRn.stx [2, 3, 4, 5, 7] [iv 0, pt 7 0, pt 8 0, pt 9 0, .func (.func 143) ⟨[]⟩ ⟨[pt 0 0, pt 5 0, pt 6 0]⟩] [iv 0, pt 7 0, pt 8 0, pt 9 0, .func (.func 143) ⟨[]⟩ ⟨[pt 0 0, pt 5 0, pt 6 0]⟩] (.fl (.pp (.pp (.pp (.cons (Rn.func' .nil (.pp (.pp (.pp .nil)))) .nil))))) (by kernel_rfl) (by kernel_rfl) rfl))) (.nil _))))))))))))) [pt 8 0, iv r21] (.pp (.fl .nil)))) hK
          | false =>
            replace hF := of_neg hF rfl
            refine TS.cdF (.tmp 19) (TS.sk ?_)
            have hF := Option.some.inj hF
            subst hF
            exact TS.weak (by exact (Wk.an [] (.lt (.sl .nil) (.lt (.sl (.sl (.sl .nil))) (.ac (.ac (.ac (.lt (.cons (Rn.func' .nil .nil) .nil) (.lt (.fl (.fl .nil)) (.lt (.fl .nil) (.lt (.fl .nil) (.lt (.fl .nil) (.cons (At.blk (by kernel_rfl) RnB.mark) (.cons (At.blk (b1 := .loop (S107_36).tmps [8] c107.s2.s2.s2.s1.s2.bd.ras c107.s2.s2.s2.s1.s2.bd.rbd .busy none) (by kernel_rfl) (RnB.loop _ _ _ _ _ _ _ (LRn.stx [2, 3, 4, 5, 7] [iv 0, pt 7 0, pt 8 0, pt 9 0, .func (.func 143) ⟨[]⟩ ⟨[pt 0 0, pt 5 0, pt 6 0]⟩] [iv 0, pt 7 0, pt 8 0, pt 9 0, .func (.func 143) ⟨[]⟩ ⟨[pt 0 0, pt 5 0, pt 6 0]⟩] (.fl (.pp (.pp (.pp (.cons (Rn.func' .nil (.pp (.pp (.pp .nil)))) .nil))))) (by kernel_rfl) (by kernel_rfl) rfl))) (.nil _))))))))))))) [pt 8 0, iv r21] (.pp (.fl .nil)))) hK
        rcases Bool.eq_false_or_eq_true (r9 != 0) with hc25 | hc25
        · replace hm31 := of_pos hm31 hc25
          have hm31 := Option.some.inj hm31
          subst hm31
          exact TS.rg (TI.ra 2 [4, 5, 6, 12, 13] (st 24 [(4, pt 8 0), (5, pt 9 0), (6, iv r21), (12, iv r9), (13, iv 0)]) (TI.o { val := .bool true } (q_conv (e := r9 != 0) (b := true) (by kernel_rfl) hc25) [4, 5, 6, 14] [0, 1, 2, 3, 4, 5, 6, 7, 8, 9, 10, 11] (st 24 [(4, pt 8 0), (5, pt 9 0), (6, iv r21), (14, .bool true)]) (H107_9 p0 p1 p2 p3 p4 r9) (TI.ra 5 [4, 5, 6, 19] (st 24 [(4, pt 8 0), (5, pt 9 0), (6, iv r21), (19, .bool (r21 != r9))]) (TI.dn hK))))
        · replace hm31 := of_neg hm31 hc25
          have hm31 := Option.some.inj hm31
          subst hm31
          exact TS.rg (TI.ra 2 [4, 5, 6, 12, 13] (st 24 [(4, pt 8 0), (5, pt 9 0), (6, iv r21), (12, iv r9), (13, iv 0)]) (TI.o { val := .bool false } (q_conv (e := r9 != 0) (b := false) (by kernel_rfl) hc25) [4, 5, 6, 14] [0, 1, 2, 3, 4, 5, 6, 7, 8, 9, 10, 11] (st 24 [(4, pt 8 0), (5, pt 9 0), (6, iv r21), (14, .bool false)]) (H107_9 p0 p1 p2 p3 p4 r9) (TI.ra 5 [4, 5, 6, 19] (st 24 [(4, pt 8 0), (5, pt 9 0), (6, iv r21), (19, .bool false)]) (TI.dn hK))))
  · replace hF := of_neg hF hc6
    refine TS.sk (NX.sq (TS.sq (TS.sq (TS.rg (TI.ra 8 [4, 5, 6, 19] (st 24 [(4, pt 8 0), (5, pt 9 0), (6, iv r3), (19, .bool false)]) (TI.dn (NX.sq (TS.cdF (.tmp 19) ?_))))))))
    refine TS.sk (NX.sq (TS.rg (TI.rn 2 [] [0, 1, 2, 3, 4, 5, 6, 7, 8, 9, 10, 11] (st 24 []) (H107_10 p0 p1 p2 p3 p4 r3) (TI.dn (NX.bk ?_)))))
    refine ⟨.bool true, (H107_7 p0 p1 p2 p3 p4 r3), by kernel_rfl, (TI.rn 0 [0, 2, 3, 7, 8, 9, 18] [0, 1, 2, 3, 4, 5, 6, 7, 8, 9, 10, 11] (S107_28) (H107_7 p0 p1 p2 p3 p4 r3) (TI.ra 1 [0, 2, 3, 7, 8, 9, 19] (S107_24) (TI.dn (NX.sq (TS.cdF (.tmp 19) (TS.sk (NX.bk (NX.sq ?_))))))))⟩
    refine TS.rg (TI.ra 2 [0, 2, 3, 7, 8, 9] (S107_33) (TI.dn ?_))
    refine Rd.again Wk.refl (TL.round (TS.sq (TS.rg (TI.ra 1 [0, 2, 3, 7, 8, 9, 10] (S107_29) (TI.dn (NX.sq (TS.sq (TS.cdT (.tmp 10) (TS.sk ?_)))))))))
    refine NX.sq (TS.sq (TS.bk 1 (TS.sq (TS.rg (TI.ra 3 [0, 2, 3, 6, 7, 8, 9] (S107_18 p1) (TI.dn (NX.sq (TS.sq ?_))))))))
    have hX := of_do hF
    clear hF
    obtain ⟨r34, h35, hF⟩ := hX
    refine TS.rg (TI.ra 4 [0, 2, 3, 7, 8, 9, 13, 14, 15, 16] (S107_16 p1 p3 p4) (TI.callM (g := 62) (args := [sv 3 p1.length ANY, ag [iv p3, iv p4]]) (v := iv r34) (new := []) (by kernel_rfl) (PureSim.ren (hc := [ab 3 e3 p1]) (fun i => List.getD [(3, 0)] i (0, 0)) (C62 _ _ _ _ h35) (.ac (.nil _)) (.cons (Rn.any _ _ _ _ _ _ (Nat.le_of_ble_eq_true rfl) rfl rfl (by decide)) (.fl .nil)) (.flat (by kernel_rfl)) newflat_nil) [0, 2, 3, 7, 8, 9, 13, 17] [0, 1, 2, 3, 4, 5, 6, 7, 8, 9, 10, 11] (a2 := (S107_21 r34)) (h2 := (H107_7 p0 p1 p2 p3 p4 r3)) (by kernel_rfl) (TI.yield (l := 11) (n := 12) (args := [iv r34]) (t := (S107_36).tmps) (p := [8]) («as» := c107.s2.s2.s2.s1.s2.bd.ras) (bd := c107.s2.s2.s2.s1.s2.bd.rbd) (a2 := (st 24 [(2, iv 0), (3, pt 7 0), (4, pt 8 0), (5, pt 9 0), (7, .func (.func 143) ⟨[]⟩ ⟨[pt 0 0, pt 5 0, pt 6 0]⟩), (8, iv r34)])) (by kernel_rfl) (by kernel_rfl) (by decide) rfl (by kernel_rfl) (by kernel_rfl) (TS.rg (TI.ra 1 [3, 4, 5, 6] (st 24 [(3, pt 7 0), (4, pt 8 0), (5, pt 9 0), (6, iv r34)]) (TI.dn ?_))))))
    refine ⟨rfl, (S107_36).tmps, [8], c107.s2.s2.s2.s1.s2.bd.ras, c107.s2.s2.s2.s1.s2.bd.rbd, by kernel_rfl, (TS.bk 1 (TS.sq (TS.sq (TS.rg (TI.ra 3 [3, 4, 5, 6, 11] (st 24 [(3, pt 7 0), (4, pt 8 0), (5, pt 9 0), (6, iv r34), (11, .bool (r34 == 0))]) (TI.dn (NX.sq ?_)))))))⟩
    refine TS.cd (.tmp 11) (r34 == 0) (fun hc37 => ?_) (fun hc37 => ?_)
    · replace hF := of_pos hF hc37
      refine TS.ex 1 (NX.sqX (NX.bkX ?_))
      refine ⟨.bool true, (H107_7 p0 p1 p2 p3 p4 r3), by kernel_rfl, (TI.rn 0 [0, 2, 3, 7, 8, 9, 18] [0, 1, 2, 3, 4, 5, 6, 7, 8, 9, 10, 11] (S107_30) (H107_7 p0 p1 p2 p3 p4 r3) (TI.ra 1 [0, 2, 3, 7, 8, 9, 19] (S107_25) (TI.dn (NX.sq (TS.cdF (.tmp 19) (TS.sk (NX.bk (NX.sq ?_))))))))⟩
      refine TS.rg (TI.ra 2 [0, 2, 3, 7, 8, 9] (S107_34) (TI.dn ?_))
      refine Rd.again Wk.refl (TL.round (TS.sq (TS.rg (TI.ra 1 [0, 2, 3, 7, 8, 9, 10] (S107_31) (TI.dn (NX.sq (TS.sq (TS.cdT (.tmp 10) (TS.sk ?_)))))))))
      refine NX.sq (TS.sq (TS.bk 1 (TS.sq (TS.rg (TI.ra 3 [0, 2, 3, 6, 7, 8, 9] (S107_19 p2) (TI.dn (NX.sq (TS.sq ?_))))))))
      have hX := of_do hF
      clear hF
      obtain ⟨r40, h41, hF⟩ := hX
      refine TS.rg (TI.ra 4 [0, 2, 3, 7, 8, 9, 13, 14, 15, 16] (S107_17 p2 p3 p4) (TI.callM (g := 62) (args := [sv 4 p2.length ANY, ag [iv p3, iv p4]]) (v := iv r40) (new := []) (by kernel_rfl) (PureSim.ren (hc := [ab 3 e3 p2]) (fun i => List.getD [(4, 0)] i (0, 0)) (C62 _ _ _ _ h41) (.ac (.nil _)) (.cons (Rn.any _ _ _ _ _ _ (Nat.le_of_ble_eq_true rfl) rfl rfl (by decide)) (.fl .nil)) (.flat (by kernel_rfl)) newflat_nil) [0, 2, 3, 7, 8, 9, 13, 17] [0, 1, 2, 3, 4, 5, 6, 7, 8, 9, 10, 11] (a2 := (S107_22 r40)) (h2 := (H107_7 p0 p1 p2 p3 p4 r3)) (by kernel_rfl) (TI.yield (l := 11) (n := 12) (args := [iv r40]) (t := (S107_36).tmps) (p := [8]) («as» := c107.s2.s2.s2.s1.s2.bd.ras) (bd := c107.s2.s2.s2.s1.s2.bd.rbd) (a2 := (st 24 [(2, iv 0), (3, pt 7 0), (4, pt 8 0), (5, pt 9 0), (7, .func (.func 143) ⟨[]⟩ ⟨[pt 0 0, pt 5 0, pt 6 0]⟩), (8, iv r40)])) (by kernel_rfl) (by kernel_rfl) (by decide) rfl (by kernel_rfl) (by kernel_rfl) (TS.rg (TI.ra 1 [3, 4, 5, 6] (st 24 [(3, pt 7 0), (4, pt 8 0), (5, pt 9 0), (6, iv r40)]) (TI.dn ?_))))))
      refine ⟨rfl, (S107_36).tmps, [8], c107.s2.s2.s2.s1.s2.bd.ras, c107.s2.s2.s2.s1.s2.bd.rbd, by kernel_rfl, (TS.bk 1 (TS.sq (TS.sq (TS.rg (TI.ra 3 [3, 4, 5, 6, 11] (st 24 [(3, pt 7 0), (4, pt 8 0), (5, pt 9 0), (6, iv r40), (11, .bool (r40 == 0))]) (TI.dn (NX.sq ?_)))))))⟩
      refine TS.cd (.tmp 11) (r40 == 0) (fun hc43 => ?_) (fun hc43 => ?_)
      · replace hF := of_pos hF hc43
        refine TS.ex 1 (NX.sqX (NX.bkX ?_))
        refine ⟨.bool true, (H107_7 p0 p1 p2 p3 p4 r3), by kernel_rfl, (TI.rn 0 [0, 2, 3, 7, 8, 9, 18] [0, 1, 2, 3, 4, 5, 6, 7, 8, 9, 10, 11] (S107_32) (H107_7 p0 p1 p2 p3 p4 r3) (TI.ra 1 [0, 2, 3, 7, 8, 9, 19] (S107_26) (TI.dn (NX.sq (TS.cdF (.tmp 19) (TS.sk (NX.bk (NX.sq ?_))))))))⟩
        refine TS.rg (TI.ra 2 [0, 2, 3, 7, 8, 9] (S107_35) (TI.dn ?_))
        refine Rd.again Wk.refl (TL.round (TS.sq (TS.rg (TI.ra 1 [0, 2, 3, 7, 8, 9, 10] (S107_27) (TI.dn (NX.sq (TS.sq (TS.cdF (.tmp 10) (TS.ex 0 ?_)))))))))
        refine NX.sqX ?_
        refine Rd.out (by simp) (NX.bkX ?_)
        refine ⟨.inl rfl, rfl, ⟨.tuple ⟨[]⟩, by kernel_rfl⟩, .inl ⟨(S107_36).tmps, [8], c107.s2.s2.s2.s1.s2.bd.ras, c107.s2.s2.s2.s1.s2.bd.rbd, by kernel_rfl, (NX0.bk (NX0.sq (TS0.startM [5] [0, 1, 2, 3, 4, 5, 6, 9, 10] (a2 := (stm 24 [10] [(5, pt 9 0)])) (h2 := (H107_12 p0 p1 p2 p3 p4)) (by kernel_rfl) (TS0.piece (TS.sq (TS.rg (TI.rn 2 [2] [0, 1, 2, 3, 4, 5, 6, 10] (stm 24 [10] [(2, iv 0)]) (H107_13 p0 p1 p2 p3 p4) (TI.dn (NX.sq ?_)))))))))⟩⟩
        refine TS.rt (NX.z ?_)
        have hF := Option.some.inj hF
        subst hF
        exact ⟨.inr rfl, (H107_14 p0 p1 p2 p3 p4), by kernel_rfl, iv 0, by kernel_rfl, WkV.flat0 (by kernel_rfl) (Nat.le_of_ble_eq_true rfl)⟩
      · replace hF := of_neg hF hc43
        refine TS.sk (NX.sq (TS.sq (TS.sq ?_)))
        have hX := of_do hF
        clear hF
        obtain ⟨m45, hm50, hF⟩ := hX
        have hK : NX Tryz.prog 7 12 [.sq c107.s2.s2.s2.s1.s2.bd.rbd.bd.s2.s1.s2, .sq c107.s2.s2.s2.s1.s2.bd.rbd.bd.s2.s2, .bk 1] (YB 11 (fun v h3 => TI Tryz.prog 7 12 c107f143.s2.bd.bd.s2.s2.s1.bd.s2.s1.rops 6 (putAt c107f143.s2.bd.bd.s2.s2.s1.bd.s2.s1.rops 5 (S107_22 r40) v) h3 (NX Tryz.prog 7 12 [.sq c107f143.s2.bd.bd.s2.s2.s1.bd.s2.s2, .bk 1, .sq c107f143.s2.bd.bd.s2.s2.s2] (Rd Tryz.prog 7 12 c107f143.s2.bd.bd (NX Tryz.prog 7 12 [.bk 0] (RgP Tryz.prog 7 7 Tryz.f143 10 (S107_36) (NX0 Tryz.prog 7 7 [.bk 0, .sq c107.s2.s2.s2.s2] (FinM Tryz.prog Tryz.f107 7 (V107 7 r) (N107 7 r)))))) .normal))) .normal (st 24 [(4, pt 8 0), (5, pt 9 0), (6, iv r40), (19, .bool m45)]) (H107_10 p0 p1 p2 p3 p4 r3) := by
          refine NX.sq ?_
          have hX := of_do hF
          clear hF
          obtain ⟨m48, hm49, hF⟩ := hX
          have hK : NX Tryz.prog 7 12 [.sq c107.s2.s2.s2.s1.s2.bd.rbd.bd.s2.s2, .bk 1] (YB 11 (fun v h3 => TI Tryz.prog 7 12 c107f143.s2.bd.bd.s2.s2.s1.bd.s2.s1.rops 6 (putAt c107f143.s2.bd.bd.s2.s2.s1.bd.s2.s1.rops 5 (S107_22 r40) v) h3 (NX Tryz.prog 7 12 [.sq c107f143.s2.bd.bd.s2.s2.s1.bd.s2.s2, .bk 1, .sq c107f143.s2.bd.bd.s2.s2.s2] (Rd Tryz.prog 7 12 c107f143.s2.bd.bd (NX Tryz.prog 7 12 [.bk 0] (RgP Tryz.prog 7 7 Tryz.f143 10 (S107_36) (NX0 Tryz.prog 7 7 [.bk 0, .sq c107.s2.s2.s2.s2] (FinM Tryz.prog Tryz.f107 7 (V107 7 r) (N107 7 r)))))) .normal))) .normal (st 24 [(4, pt 8 0), (6, iv r40)]) [cl 131 [sv 1 3 ANY], cl 132 [sv 2 p0.length ANY, sv 3 p1.length ANY, sv 4 p2.length ANY], ab 3 e3 p0, ab 3 e3 p1, ab 3 e3 p2, cl 206 [.func (.func 62) ⟨[]⟩ ⟨[]⟩], cl 34 [iv p3, iv p4], cl 3 [iv 0], cl 3 [iv r3], cl 3 [iv m48], .mark, .loop (S107_36).tmps [8] c107.s2.s2.s2.s1.s2.bd.ras c107.s2.s2.s2.s1.s2.bd.rbd .busy none] := by
            refine NX.sq (TS.rg (TI.rn 2 [] [0, 1, 2, 3, 4, 5, 6, 7, 8, 9, 10, 11] (st 24 []) [cl 131 [sv 1 3 ANY], cl 132 [sv 2 p0.length ANY, sv 3 p1.length ANY, sv 4 p2.length ANY], ab 3 e3 p0, ab 3 e3 p1, ab 3 e3 p2, cl 206 [.func (.func 62) ⟨[]⟩ ⟨[]⟩], cl 34 [iv p3, iv p4], cl 3 [iv 0], cl 3 [iv r40], cl 3 [iv m48], .mark, .loop (S107_36).tmps [8] c107.s2.s2.s2.s1.s2.bd.ras c107.s2.s2.s2.s1.s2.bd.rbd .busy none] (TI.dn (NX.bk ?_))))
            refine ⟨.bool true, (H107_1 p0 p1 p2 p3 p4 r40 m48), by kernel_rfl, (TI.rn 0 [0, 2, 3, 7, 8, 9, 18] [0, 1, 2, 3, 4, 5, 6, 7, 8, 9, 10, 11] (S107_32) (H107_1 p0 p1 p2 p3 p4 r40 m48) (TI.ra 1 [0, 2, 3, 7, 8, 9, 19] (S107_26) (TI.dn (NX.sq (TS.cdF (.tmp 19) (TS.sk (NX.bk (NX.sq ?_))))))))⟩
            refine TS.rg (TI.ra 2 [0, 2, 3, 7, 8, 9] (S107_35) (TI.dn ?_))
            refine Rd.again Wk.refl (TL.round (TS.sq (TS.rg (TI.ra 1 [0, 2, 3, 7, 8, 9, 10] (S107_27) (TI.dn (NX.sq (TS.sq (TS.cdF (.tmp 10) (TS.ex 0 ?_)))))))))
            refine NX.sqX ?_
            refine Rd.out (by simp) (NX.bkX ?_)
            refine ⟨.inl rfl, rfl, ⟨.tuple ⟨[]⟩, by kernel_rfl⟩, .inl ⟨(S107_36).tmps, [8], c107.s2.s2.s2.s1.s2.bd.ras, c107.s2.s2.s2.s1.s2.bd.rbd, by kernel_rfl, (NX0.bk (NX0.sq (TS0.startM [5] [0, 1, 2, 3, 4, 5, 6, 9, 10] (a2 := (stm 24 [10] [(5, pt 9 0)])) (h2 := [cl 131 [sv 1 3 ANY], cl 132 [sv 2 p0.length ANY, sv 3 p1.length ANY, sv 4 p2.length ANY], ab 3 e3 p0, ab 3 e3 p1, ab 3 e3 p2, cl 206 [.func (.func 62) ⟨[]⟩ ⟨[]⟩], cl 34 [iv p3, iv p4], .dead, .dead, cl 3 [iv m48], .mark, .dead]) (by kernel_rfl) (TS0.piece (TS.sq (TS.rg (TI.rn 2 [2] [0, 1, 2, 3, 4, 5, 6, 10] (stm 24 [10] [(2, iv m48)]) (H107_13 p0 p1 p2 p3 p4) (TI.dn (NX.sq ?_)))))))))⟩⟩
            refine TS.rt (NX.z ?_)
            have hF := Option.some.inj hF
            subst hF
            exact ⟨.inr rfl, (H107_14 p0 p1 p2 p3 p4), by kernel_rfl, iv m48, by kernel_rfl, WkV.flat0 (by kernel_rfl) (Nat.le_of_ble_eq_true rfl)⟩
          clear hF
          have hF := hm49
          clear hm49
          refine TS.start ?_
          cases m45 with
          | true =>
            replace hF := of_pos hF rfl
            refine TS.cdT (.tmp 19) (TS.rg (TI.rn 3 [4, 6] [0, 1, 2, 3, 4, 5, 6, 7, 8, 9, 10, 11] (st 24 [(4, pt 8 0), (6, iv r40)]) (H107_11 p0 p1 p2 p3 p4 r3) (TI.dn ?_)))
            have hF := Option.some.inj hF
            subst hF
            exact TS.weak (by exact (Wk.an [] (.lt (.sl .nil) (.lt (.sl (.sl (.sl .nil))) (.ac (.ac (.ac (.lt (.cons (Rn.func' .nil .nil) .nil) (.lt (.fl (.fl .nil)) (.lt (.fl .nil) (.lt (.fl .nil) (.lt (.fl .nil) (.cons (At.blk (by kernel_rfl) RnB.mark) (.cons (At.blk (b1 := .loop (S107_36).tmps [8] c107.s2.s2.s2.s1.s2.bd.ras c107.s2.s2.s2.s1.s2.bd.rbd .busy none) (by kernel_rfl) (RnB.loop _ _ _ _ _ _ _ (LRn.stx [2, 3, 4, 5, 7] [iv 0, pt 7 0, pt 8 0, pt 9 0, .func (.func 143) ⟨[]⟩ ⟨[pt 0 0, pt 5 0, pt 6 0]⟩] [iv 0, pt 7 0, pt 8 0, pt 9 0, .func (.func 143) ⟨[]⟩ ⟨[pt 0 0, pt 5 0, pt 6 0]⟩] (.fl (.pp (.pp (.pp (.cons (Rn.func' .nil (.pp (.pp (.pp .nil)))) .nil))))) (by kernel_rfl) (by kernel_rfl) rfl))) (.nil _))))))))))))) [pt 8 0, iv r40] (.pp (.fl .nil)))) hK
          | false =>
            replace hF := of_neg hF rfl
            refine TS.cdF (.tmp 19) (TS.sk ?_)
            have hF := Option.some.inj hF
            subst hF
            exact TS.weak (by exact (Wk.an [] (.lt (.sl .nil) (.lt (.sl (.sl (.sl .nil))) (.ac (.ac (.ac (.lt (.cons (Rn.func' .nil .nil) .nil) (.lt (.fl (.fl .nil)) (.lt (.fl .nil) (.lt (.fl .nil) (.lt (.fl .nil) (.cons (At.blk (by kernel_rfl) RnB.mark) (.cons (At.blk (b1 := .loop (S107_36).tmps [8] c107.s2.s2.s2.s1.s2.bd.ras c107.s2.s2.s2.s1.s2.bd.rbd .busy none) (by kernel_rfl) (RnB.loop _ _ _ _ _ _ _ (LRn.stx [2, 3, 4, 5, 7] [iv 0, pt 7 0, pt 8 0, pt 9 0, .func (.func 143) ⟨[]⟩ ⟨[pt 0 0, pt 5 0, pt 6 0]⟩] [iv 0, pt 7 0, pt 8 0, pt 9 0, .func (.func 143) ⟨[]⟩ ⟨[pt 0 0, pt 5 0, pt 6 0]⟩] (.fl (.pp (.pp (.pp (.cons (Rn.func' .nil (.pp (.pp (.pp .nil)))) .nil))))) (by kernel_rfl) (by kernel_rfl) rfl))) (.nil _))))))))))))) [pt 8 0, iv r40] (.pp (.fl .nil)))) hK
        rcases Bool.eq_false_or_eq_true (r3 != 0) with hc44 | hc44
        · replace hm50 := of_pos hm50 hc44
          have hm50 := Option.some.inj hm50
          subst hm50
          exact TS.rg (TI.ra 2 [4, 5, 6, 12, 13] (st 24 [(4, pt 8 0), (5, pt 9 0), (6, iv r40), (12, iv r3), (13, iv 0)]) (TI.o { val := .bool true } (q_conv (e := r3 != 0) (b := true) (by kernel_rfl) hc44) [4, 5, 6, 14] [0, 1, 2, 3, 4, 5, 6, 7, 8, 9, 10, 11] (st 24 [(4, pt 8 0), (5, pt 9 0), (6, iv r40), (14, .bool true)]) (H107_10 p0 p1 p2 p3 p4 r3) (TI.ra 5 [4, 5, 6, 19] (st 24 [(4, pt 8 0), (5, pt 9 0), (6, iv r40), (19, .bool (r40 != r3))]) (TI.dn hK))))
        · replace hm50 := of_neg hm50 hc44
          have hm50 := Option.some.inj hm50
          subst hm50
          exact TS.rg (TI.ra 2 [4, 5, 6, 12, 13] (st 24 [(4, pt 8 0), (5, pt 9 0), (6, iv r40), (12, iv r3), (13, iv 0)]) (TI.o { val := .bool false } (q_conv (e := r3 != 0) (b := false) (by kernel_rfl) hc44) [4, 5, 6, 14] [0, 1, 2, 3, 4, 5, 6, 7, 8, 9, 10, 11] (st 24 [(4, pt 8 0), (5, pt 9 0), (6, iv r40), (14, .bool false)]) (H107_10 p0 p1 p2 p3 p4 r3) (TI.ra 5 [4, 5, 6, 19] (st 24 [(4, pt 8 0), (5, pt 9 0), (6, iv r40), (19, .bool false)]) (TI.dn hK))))
    · replace hF := of_neg hF hc37
      refine TS.sk (NX.sq (TS.sq (TS.sq ?_)))
      have hX := of_do hF
      clear hF
      obtain ⟨m52, hm70, hF⟩ := hX
      have hK : NX Tryz.prog 7 12 [.sq c107.s2.s2.s2.s1.s2.bd.rbd.bd.s2.s1.s2, .sq c107.s2.s2.s2.s1.s2.bd.rbd.bd.s2.s2, .bk 1] (YB 11 (fun v h3 => TI Tryz.prog 7 12 c107f143.s2.bd.bd.s2.s2.s1.bd.s2.s1.rops 6 (putAt c107f143.s2.bd.bd.s2.s2.s1.bd.s2.s1.rops 5 (S107_21 r34) v) h3 (NX Tryz.prog 7 12 [.sq c107f143.s2.bd.bd.s2.s2.s1.bd.s2.s2, .bk 1, .sq c107f143.s2.bd.bd.s2.s2.s2] (Rd Tryz.prog 7 12 c107f143.s2.bd.bd (NX Tryz.prog 7 12 [.bk 0] (RgP Tryz.prog 7 7 Tryz.f143 10 (S107_36) (NX0 Tryz.prog 7 7 [.bk 0, .sq c107.s2.s2.s2.s2] (FinM Tryz.prog Tryz.f107 7 (V107 7 r) (N107 7 r)))))) .normal))) .normal (st 24 [(4, pt 8 0), (5, pt 9 0), (6, iv r34), (19, .bool m52)]) (H107_10 p0 p1 p2 p3 p4 r3) := by
        refine NX.sq ?_
        have hX := of_do hF
        clear hF
        obtain ⟨m55, hm56, hF⟩ := hX
        have hK : NX Tryz.prog 7 12 [.sq c107.s2.s2.s2.s1.s2.bd.rbd.bd.s2.s2, .bk 1] (YB 11 (fun v h3 => TI Tryz.prog 7 12 c107f143.s2.bd.bd.s2.s2.s1.bd.s2.s1.rops 6 (putAt c107f143.s2.bd.bd.s2.s2.s1.bd.s2.s1.rops 5 (S107_21 r34) v) h3 (NX Tryz.prog 7 12 [.sq c107f143.s2.bd.bd.s2.s2.s1.bd.s2.s2, .bk 1, .sq c107f143.s2.bd.bd.s2.s2.s2] (Rd Tryz.prog 7 12 c107f143.s2.bd.bd (NX Tryz.prog 7 12 [.bk 0] (RgP Tryz.prog 7 7 Tryz.f143 10 (S107_36) (NX0 Tryz.prog 7 7 [.bk 0, .sq c107.s2.s2.s2.s2] (FinM Tryz.prog Tryz.f107 7 (V107 7 r) (N107 7 r)))))) .normal))) .normal (st 24 [(4, pt 8 0), (6, iv r34)]) [cl 131 [sv 1 3 ANY], cl 132 [sv 2 p0.length ANY, sv 3 p1.length ANY, sv 4 p2.length ANY], ab 3 e3 p0, ab 3 e3 p1, ab 3 e3 p2, cl 206 [.func (.func 62) ⟨[]⟩ ⟨[]⟩], cl 34 [iv p3, iv p4], cl 3 [iv 0], cl 3 [iv r3], cl 3 [iv m55], .mark, .loop (S107_36).tmps [8] c107.s2.s2.s2.s1.s2.bd.ras c107.s2.s2.s2.s1.s2.bd.rbd .busy none] := by
          refine NX.sq (TS.rg (TI.rn 2 [] [0, 1, 2, 3, 4, 5, 6, 7, 8, 9, 10, 11] (st 24 []) (H107_4 p0 p1 p2 p3 p4 r34 m55) (TI.dn (NX.bk ?_))))
          refine ⟨.bool true, (H107_2 p0 p1 p2 p3 p4 r34 m55), by kernel_rfl, (TI.rn 0 [0, 2, 3, 7, 8, 9, 18] [0, 1, 2, 3, 4, 5, 6, 7, 8, 9, 10, 11] (S107_30) (H107_2 p0 p1 p2 p3 p4 r34 m55) (TI.ra 1 [0, 2, 3, 7, 8, 9, 19] (S107_25) (TI.dn (NX.sq (TS.cdF (.tmp 19) (TS.sk (NX.bk (NX.sq ?_))))))))⟩
          refine TS.rg (TI.ra 2 [0, 2, 3, 7, 8, 9] (S107_34) (TI.dn ?_))
          refine Rd.again Wk.refl (TL.round (TS.sq (TS.rg (TI.ra 1 [0, 2, 3, 7, 8, 9, 10] (S107_31) (TI.dn (NX.sq (TS.sq (TS.cdT (.tmp 10) (TS.sk ?_)))))))))
          refine NX.sq (TS.sq (TS.bk 1 (TS.sq (TS.rg (TI.ra 3 [0, 2, 3, 6, 7, 8, 9] (S107_19 p2) (TI.dn (NX.sq (TS.sq ?_))))))))
          have hX := of_do hF
          clear hF
          obtain ⟨r59, h60, hF⟩ := hX
          refine TS.rg (TI.ra 4 [0, 2, 3, 7, 8, 9, 13, 14, 15, 16] (S107_17 p2 p3 p4) (TI.callM (g := 62) (args := [sv 4 p2.length ANY, ag [iv p3, iv p4]]) (v := iv r59) (new := []) (by kernel_rfl) (PureSim.ren (hc := [ab 3 e3 p2]) (fun i => List.getD [(4, 0)] i (0, 0)) (C62 _ _ _ _ h60) (.ac (.nil _)) (.cons (Rn.any _ _ _ _ _ _ (Nat.le_of_ble_eq_true rfl) rfl rfl (by decide)) (.fl .nil)) (.flat (by kernel_rfl)) newflat_nil) [0, 2, 3, 7, 8, 9, 13, 17] [0, 1, 2, 3, 4, 5, 6, 7, 8, 9, 10, 11] (a2 := (S107_23 r59)) (h2 := (H107_2 p0 p1 p2 p3 p4 r34 m55)) (by kernel_rfl) (TI.yield (l := 11) (n := 12) (args := [iv r59]) (t := (S107_36).tmps) (p := [8]) («as» := c107.s2.s2.s2.s1.s2.bd.ras) (bd := c107.s2.s2.s2.s1.s2.bd.rbd) (a2 := (st 24 [(2, iv 0), (3, pt 7 0), (4, pt 8 0), (5, pt 9 0), (7, .func (.func 143) ⟨[]⟩ ⟨[pt 0 0, pt 5 0, pt 6 0]⟩), (8, iv r59)])) (by kernel_rfl) (by kernel_rfl) (by decide) rfl (by kernel_rfl) (by kernel_rfl) (TS.rg (TI.ra 1 [3, 4, 5, 6] (st 24 [(3, pt 7 0), (4, pt 8 0), (5, pt 9 0), (6, iv r59)]) (TI.dn ?_))))))
          refine ⟨rfl, (S107_36).tmps, [8], c107.s2.s2.s2.s1.s2.bd.ras, c107.s2.s2.s2.s1.s2.bd.rbd, by kernel_rfl, (TS.bk 1 (TS.sq (TS.sq (TS.rg (TI.ra 3 [3, 4, 5, 6, 11] (st 24 [(3, pt 7 0), (4, pt 8 0), (5, pt 9 0), (6, iv r59), (11, .bool (r59 == 0))]) (TI.dn (NX.sq ?_)))))))⟩
          refine TS.cd (.tmp 11) (r59 == 0) (fun hc62 => ?_) (fun hc62 => ?_)
          · replace hF := of_pos hF hc62
            refine TS.ex 1 (NX.sqX (NX.bkX ?_))
            refine ⟨.bool true, (H107_2 p0 p1 p2 p3 p4 r34 m55), by kernel_rfl, (TI.rn 0 [0, 2, 3, 7, 8, 9, 18] [0, 1, 2, 3, 4, 5, 6, 7, 8, 9, 10, 11] (S107_32) (H107_2 p0 p1 p2 p3 p4 r34 m55) (TI.ra 1 [0, 2, 3, 7, 8, 9, 19] (S107_26) (TI.dn (NX.sq (TS.cdF (.tmp 19) (TS.sk (NX.bk (NX.sq ?_))))))))⟩
            refine TS.rg (TI.ra 2 [0, 2, 3, 7, 8, 9] (S107_35) (TI.dn ?_))
            refine Rd.again Wk.refl (TL.round (TS.sq (TS.rg (TI.ra 1 [0, 2, 3, 7, 8, 9, 10] (S107_27) (TI.dn (NX.sq (TS.sq (TS.cdF (.tmp 10) (TS.ex 0 ?_)))))))))
            refine NX.sqX ?_
            refine Rd.out (by simp) (NX.bkX ?_)
            refine ⟨.inl rfl, rfl, ⟨.tuple ⟨[]⟩, by kernel_rfl⟩, .inl ⟨(S107_36).tmps, [8], c107.s2.s2.s2.s1.s2.bd.ras, c107.s2.s2.s2.s1.s2.bd.rbd, by kernel_rfl, (NX0.bk (NX0.sq (TS0.startM [5] [0, 1, 2, 3, 4, 5, 6, 9, 10] (a2 := (stm 24 [10] [(5, pt 9 0)])) (h2 := [cl 131 [sv 1 3 ANY], cl 132 [sv 2 p0.length ANY, sv 3 p1.length ANY, sv 4 p2.length ANY], ab 3 e3 p0, ab 3 e3 p1, ab 3 e3 p2, cl 206 [.func (.func 62) ⟨[]⟩ ⟨[]⟩], cl 34 [iv p3, iv p4], .dead, .dead, cl 3 [iv m55], .mark, .dead]) (by kernel_rfl) (TS0.piece (TS.sq (TS.rg (TI.rn 2 [2] [0, 1, 2, 3, 4, 5, 6, 10] (stm 24 [10] [(2, iv m55)]) (H107_13 p0 p1 p2 p3 p4) (TI.dn (NX.sq ?_)))))))))⟩⟩
            refine TS.rt (NX.z ?_)
            have hF := Option.some.inj hF
            subst hF
            exact ⟨.inr rfl, (H107_14 p0 p1 p2 p3 p4), by kernel_rfl, iv m55, by kernel_rfl, WkV.flat0 (by kernel_rfl) (Nat.le_of_ble_eq_true rfl)⟩
          · replace hF := of_neg hF hc62
            refine TS.sk (NX.sq (TS.sq (TS.sq ?_)))
            have hX := of_do hF
            clear hF
            obtain ⟨m64, hm69, hF⟩ := hX
            have hK : NX Tryz.prog 7 12 [.sq c107.s2.s2.s2.s1.s2.bd.rbd.bd.s2.s1.s2, .sq c107.s2.s2.s2.s1.s2.bd.rbd.bd.s2.s2, .bk 1] (YB 11 (fun v h3 => TI Tryz.prog 7 12 c107f143.s2.bd.bd.s2.s2.s1.bd.s2.s1.rops 6 (putAt c107f143.s2.bd.bd.s2.s2.s1.bd.s2.s1.rops 5 (S107_23 r59) v) h3 (NX Tryz.prog 7 12 [.sq c107f143.s2.bd.bd.s2.s2.s1.bd.s2.s2, .bk 1, .sq c107f143.s2.bd.bd.s2.s2.s2] (Rd Tryz.prog 7 12 c107f143.s2.bd.bd (NX Tryz.prog 7 12 [.bk 0] (RgP Tryz.prog 7 7 Tryz.f143 10 (S107_36) (NX0 Tryz.prog 7 7 [.bk 0, .sq c107.s2.s2.s2.s2] (FinM Tryz.prog Tryz.f107 7 (V107 7 r) (N107 7 r)))))) .normal))) .normal (st 24 [(4, pt 8 0), (5, pt 9 0), (6, iv r59), (19, .bool m64)]) (H107_4 p0 p1 p2 p3 p4 r34 m55) := by
              refine NX.sq ?_
              have hX := of_do hF
              clear hF
              obtain ⟨m67, hm68, hF⟩ := hX
              have hK : NX Tryz.prog 7 12 [.sq c107.s2.s2.s2.s1.s2.bd.rbd.bd.s2.s2, .bk 1] (YB 11 (fun v h3 => TI Tryz.prog 7 12 c107f143.s2.bd.bd.s2.s2.s1.bd.s2.s1.rops 6 (putAt c107f143.s2.bd.bd.s2.s2.s1.bd.s2.s1.rops 5 (S107_23 r59) v) h3 (NX Tryz.prog 7 12 [.sq c107f143.s2.bd.bd.s2.s2.s1.bd.s2.s2, .bk 1, .sq c107f143.s2.bd.bd.s2.s2.s2] (Rd Tryz.prog 7 12 c107f143.s2.bd.bd (NX Tryz.prog 7 12 [.bk 0] (RgP Tryz.prog 7 7 Tryz.f143 10 (S107_36) (NX0 Tryz.prog 7 7 [.bk 0, .sq c107.s2.s2.s2.s2] (FinM Tryz.prog Tryz.f107 7 (V107 7 r) (N107 7 r)))))) .normal))) .normal (st 24 [(4, pt 8 0), (6, iv r59)]) [cl 131 [sv 1 3 ANY], cl 132 [sv 2 p0.length ANY, sv 3 p1.length ANY, sv 4 p2.length ANY], ab 3 e3 p0, ab 3 e3 p1, ab 3 e3 p2, cl 206 [.func (.func 62) ⟨[]⟩ ⟨[]⟩], cl 34 [iv p3, iv p4], cl 3 [iv 0], cl 3 [iv r34], cl 3 [iv m67], .mark, .loop (S107_36).tmps [8] c107.s2.s2.s2.s1.s2.bd.ras c107.s2.s2.s2.s1.s2.bd.rbd .busy none] := by
                refine NX.sq (TS.rg (TI.rn 2 [] [0, 1, 2, 3, 4, 5, 6, 7, 8, 9, 10, 11] (st 24 []) [cl 131 [sv 1 3 ANY], cl 132 [sv 2 p0.length ANY, sv 3 p1.length ANY, sv 4 p2.length ANY], ab 3 e3 p0, ab 3 e3 p1, ab 3 e3 p2, cl 206 [.func (.func 62) ⟨[]⟩ ⟨[]⟩], cl 34 [iv p3, iv p4], cl 3 [iv 0], cl 3 [iv r59], cl 3 [iv m67], .mark, .loop (S107_36).tmps [8] c107.s2.s2.s2.s1.s2.bd.ras c107.s2.s2.s2.s1.s2.bd.rbd .busy none] (TI.dn (NX.bk ?_))))
                refine ⟨.bool true, (H107_3 p0 p1 p2 p3 p4 r59 m67), by kernel_rfl, (TI.rn 0 [0, 2, 3, 7, 8, 9, 18] [0, 1, 2, 3, 4, 5, 6, 7, 8, 9, 10, 11] (S107_32) (H107_3 p0 p1 p2 p3 p4 r59 m67) (TI.ra 1 [0, 2, 3, 7, 8, 9, 19] (S107_26) (TI.dn (NX.sq (TS.cdF (.tmp 19) (TS.sk (NX.bk (NX.sq ?_))))))))⟩
                refine TS.rg (TI.ra 2 [0, 2, 3, 7, 8, 9] (S107_35) (TI.dn ?_))
                refine Rd.again Wk.refl (TL.round (TS.sq (TS.rg (TI.ra 1 [0, 2, 3, 7, 8, 9, 10] (S107_27) (TI.dn (NX.sq (TS.sq (TS.cdF (.tmp 10) (TS.ex 0 ?_)))))))))
                refine NX.sqX ?_
                refine Rd.out (by simp) (NX.bkX ?_)
                refine ⟨.inl rfl, rfl, ⟨.tuple ⟨[]⟩, by kernel_rfl⟩, .inl ⟨(S107_36).tmps, [8], c107.s2.s2.s2.s1.s2.bd.ras, c107.s2.s2.s2.s1.s2.bd.rbd, by kernel_rfl, (NX0.bk (NX0.sq (TS0.startM [5] [0, 1, 2, 3, 4, 5, 6, 9, 10] (a2 := (stm 24 [10] [(5, pt 9 0)])) (h2 := [cl 131 [sv 1 3 ANY], cl 132 [sv 2 p0.length ANY, sv 3 p1.length ANY, sv 4 p2.length ANY], ab 3 e3 p0, ab 3 e3 p1, ab 3 e3 p2, cl 206 [.func (.func 62) ⟨[]⟩ ⟨[]⟩], cl 34 [iv p3, iv p4], .dead, .dead, cl 3 [iv m67], .mark, .dead]) (by kernel_rfl) (TS0.piece (TS.sq (TS.rg (TI.rn 2 [2] [0, 1, 2, 3, 4, 5, 6, 10] (stm 24 [10] [(2, iv m67)]) (H107_13 p0 p1 p2 p3 p4) (TI.dn (NX.sq ?_)))))))))⟩⟩
                refine TS.rt (NX.z ?_)
                have hF := Option.some.inj hF
                subst hF
                exact ⟨.inr rfl, (H107_14 p0 p1 p2 p3 p4), by kernel_rfl, iv m67, by kernel_rfl, WkV.flat0 (by kernel_rfl) (Nat.le_of_ble_eq_true rfl)⟩
              clear hF
              have hF := hm68
              clear hm68
              refine TS.start ?_
              cases m64 with
              | true =>
                replace hF := of_pos hF rfl
                refine TS.cdT (.tmp 19) (TS.rg (TI.rn 3 [4, 6] [0, 1, 2, 3, 4, 5, 6, 7, 8, 9, 10, 11] (st 24 [(4, pt 8 0), (6, iv r59)]) [cl 131 [sv 1 3 ANY], cl 132 [sv 2 p0.length ANY, sv 3 p1.length ANY, sv 4 p2.length ANY], ab 3 e3 p0, ab 3 e3 p1, ab 3 e3 p2, cl 206 [.func (.func 62) ⟨[]⟩ ⟨[]⟩], cl 34 [iv p3, iv p4], cl 3 [iv 0], cl 3 [iv r34], cl 3 [iv (w64 (m55 + 1))], .mark, .loop (S107_36).tmps [8] c107.s2.s2.s2.s1.s2.bd.ras c107.s2.s2.s2.s1.s2.bd.rbd .busy none] (TI.dn ?_)))
                have hF := Option.some.inj hF
                subst hF
                exact TS.weak (by exact (Wk.an [] (.lt (.sl .nil) (.lt (.sl (.sl (.sl .nil))) (.ac (.ac (.ac (.lt (.cons (Rn.func' .nil .nil) .nil) (.lt (.fl (.fl .nil)) (.lt (.fl .nil) (.lt (.fl .nil) (.lt (.fl .nil) (.cons (At.blk (by kernel_rfl) RnB.mark) (.cons (At.blk (b1 := .loop (S107_36).tmps [8] c107.s2.s2.s2.s1.s2.bd.ras c107.s2.s2.s2.s1.s2.bd.rbd .busy none) (by kernel_rfl) (RnB.loop _ _ _ _ _ _ _ (LRn.stx [2, 3, 4, 5, 7] [iv 0, pt 7 0, pt 8 0, pt 9 0, .func (.func 143) ⟨[]⟩ ⟨[pt 0 0, pt 5 0, pt 6 0]⟩] [iv 0, pt 7 0, pt 8 0, pt 9 0, .func (.func 143) ⟨[]⟩ ⟨[pt 0 0, pt 5 0, pt 6 0]⟩] (.fl (.pp (.pp (.pp (.cons (Rn.func' .nil (.pp (.pp (.pp .nil)))) .nil))))) (by kernel_rfl) (by kernel_rfl) rfl))) (.nil _))))))))))))) [pt 8 0, iv r59] (.pp (.fl .nil)))) hK
              | false =>
                replace hF := of_neg hF rfl
                refine TS.cdF (.tmp 19) (TS.sk ?_)
                have hF := Option.some.inj hF
                subst hF
                exact TS.weak (by exact (Wk.an [] (.lt (.sl .nil) (.lt (.sl (.sl (.sl .nil))) (.ac (.ac (.ac (.lt (.cons (Rn.func' .nil .nil) .nil) (.lt (.fl (.fl .nil)) (.lt (.fl .nil) (.lt (.fl .nil) (.lt (.fl .nil) (.cons (At.blk (by kernel_rfl) RnB.mark) (.cons (At.blk (b1 := .loop (S107_36).tmps [8] c107.s2.s2.s2.s1.s2.bd.ras c107.s2.s2.s2.s1.s2.bd.rbd .busy none) (by kernel_rfl) (RnB.loop _ _ _ _ _ _ _ (LRn.stx [2, 3, 4, 5, 7] [iv 0, pt 7 0, pt 8 0, pt 9 0, .func (.func 143) ⟨[]⟩ ⟨[pt 0 0, pt 5 0, pt 6 0]⟩] [iv 0, pt 7 0, pt 8 0, pt 9 0, .func (.func 143) ⟨[]⟩ ⟨[pt 0 0, pt 5 0, pt 6 0]⟩] (.fl (.pp (.pp (.pp (.cons (Rn.func' .nil (.pp (.pp (.pp .nil)))) .nil))))) (by kernel_rfl) (by kernel_rfl) rfl))) (.nil _))))))))))))) [pt 8 0, iv r59] (.pp (.fl .nil)))) hK
            rcases Bool.eq_false_or_eq_true (r34 != 0) with hc63 | hc63
            · replace hm69 := of_pos hm69 hc63
              have hm69 := Option.some.inj hm69
              subst hm69
              exact TS.rg (TI.ra 2 [4, 5, 6, 12, 13] (st 24 [(4, pt 8 0), (5, pt 9 0), (6, iv r59), (12, iv r34), (13, iv 0)]) (TI.o { val := .bool true } (q_conv (e := r34 != 0) (b := true) (by kernel_rfl) hc63) [4, 5, 6, 14] [0, 1, 2, 3, 4, 5, 6, 7, 8, 9, 10, 11] (st 24 [(4, pt 8 0), (5, pt 9 0), (6, iv r59), (14, .bool true)]) (H107_4 p0 p1 p2 p3 p4 r34 m55) (TI.ra 5 [4, 5, 6, 19] (st 24 [(4, pt 8 0), (5, pt 9 0), (6, iv r59), (19, .bool (r59 != r34))]) (TI.dn hK))))
            · replace hm69 := of_neg hm69 hc63
              have hm69 := Option.some.inj hm69
              subst hm69
              exact TS.rg (TI.ra 2 [4, 5, 6, 12, 13] (st 24 [(4, pt 8 0), (5, pt 9 0), (6, iv r59), (12, iv r34), (13, iv 0)]) (TI.o { val := .bool false } (q_conv (e := r34 != 0) (b := false) (by kernel_rfl) hc63) [4, 5, 6, 14] [0, 1, 2, 3, 4, 5, 6, 7, 8, 9, 10, 11] (st 24 [(4, pt 8 0), (5, pt 9 0), (6, iv r59), (14, .bool false)]) (H107_4 p0 p1 p2 p3 p4 r34 m55) (TI.ra 5 [4, 5, 6, 19] (st 24 [(4, pt 8 0), (5, pt 9 0), (6, iv r59), (19, .bool false)]) (TI.dn hK))))
        clear hF
        have hF := hm56
        clear hm56
        refine TS.start ?_
        cases m52 with
        | true =>
          replace hF := of_pos hF rfl
          refine TS.cdT (.tmp 19) (TS.rg (TI.rn 3 [4, 6] [0, 1, 2, 3, 4, 5, 6, 7, 8, 9, 10, 11] (st 24 [(4, pt 8 0), (6, iv r34)]) (H107_11 p0 p1 p2 p3 p4 r3) (TI.dn ?_)))
          have hF := Option.some.inj hF
          subst hF
          exact TS.weak (by exact (Wk.an [] (.lt (.sl .nil) (.lt (.sl (.sl (.sl .nil))) (.ac (.ac (.ac (.lt (.cons (Rn.func' .nil .nil) .nil) (.lt (.fl (.fl .nil)) (.lt (.fl .nil) (.lt (.fl .nil) (.lt (.fl .nil) (.cons (At.blk (by kernel_rfl) RnB.mark) (.cons (At.blk (b1 := .loop (S107_36).tmps [8] c107.s2.s2.s2.s1.s2.bd.ras c107.s2.s2.s2.s1.s2.bd.rbd .busy none) (by kernel_rfl) (RnB.loop _ _ _ _ _ _ _ (LRn.stx [2, 3, 4, 5, 7] [iv 0, pt 7 0, pt 8 0, pt 9 0, .func (.func 143) ⟨[]⟩ ⟨[pt 0 0, pt 5 0, pt 6 0]⟩] [iv 0, pt 7 0, pt 8 0, pt 9 0, .func (.func 143) ⟨[]⟩ ⟨[pt 0 0, pt 5 0, pt 6 0]⟩] (.fl (.pp (.pp (.pp (.cons (Rn.func' .nil (.pp (.pp (.pp .nil)))) .nil))))) (by kernel_rfl) (by kernel_rfl) rfl))) (.nil _))))))))))))) [pt 8 0, iv r34] (.pp (.fl .nil)))) hK
        | false =>
          replace hF := of_neg hF rfl
          refine TS.cdF (.tmp 19) (TS.sk ?_)
          have hF := Option.some.inj hF
          subst hF
          exact TS.weak (by exact (Wk.an [] (.lt (.sl .nil) (.lt (.sl (.sl (.sl .nil))) (.ac (.ac (.ac (.lt (.cons (Rn.func' .nil .nil) .nil) (.lt (.fl (.fl .nil)) (.lt (.fl .nil) (.lt (.fl .nil) (.lt (.fl .nil) (.cons (At.blk (by kernel_rfl) RnB.mark) (.cons (At.blk (b1 := .loop (S107_36).tmps [8] c107.s2.s2.s2.s1.s2.bd.ras c107.s2.s2.s2.s1.s2.bd.rbd .busy none) (by kernel_rfl) (RnB.loop _ _ _ _ _ _ _ (LRn.stx [2, 3, 4, 5, 7] [iv 0, pt 7 0, pt 8 0, pt 9 0, .func (.func 143) ⟨[]⟩ ⟨[pt 0 0, pt 5 0, pt 6 0]⟩] [iv 0, pt 7 0, pt 8 0, pt 9 0, .func (.func 143) ⟨[]⟩ ⟨[pt 0 0, pt 5 0, pt 6 0]⟩] (.fl (.pp (.pp (.pp (.cons (Rn.func' .nil (.pp (.pp (.pp .nil)))) .nil))))) (by kernel_rfl) (by kernel_rfl) rfl))) (.nil _))))))))))))) [pt 8 0, iv r34] (.pp (.fl .nil)))) hK
      rcases Bool.eq_false_or_eq_true (r3 != 0) with hc51 | hc51
      · replace hm70 := of_pos hm70 hc51
        have hm70 := Option.some.inj hm70
        subst hm70
        exact TS.rg (TI.ra 2 [4, 5, 6, 12, 13] (st 24 [(4, pt 8 0), (5, pt 9 0), (6, iv r34), (12, iv r3), (13, iv 0)]) (TI.o { val := .bool true } (q_conv (e := r3 != 0) (b := true) (by kernel_rfl) hc51) [4, 5, 6, 14] [0, 1, 2, 3, 4, 5, 6, 7, 8, 9, 10, 11] (st 24 [(4, pt 8 0), (5, pt 9 0), (6, iv r34), (14, .bool true)]) (H107_10 p0 p1 p2 p3 p4 r3) (TI.ra 5 [4, 5, 6, 19] (st 24 [(4, pt 8 0), (5, pt 9 0), (6, iv r34), (19, .bool (r34 != r3))]) (TI.dn hK))))
      · replace hm70 := of_neg hm70 hc51
        have hm70 := Option.some.inj hm70
        subst hm70
        exact TS.rg (TI.ra 2 [4, 5, 6, 12, 13] (st 24 [(4, pt 8 0), (5, pt 9 0), (6, iv r34), (12, iv r3), (13, iv 0)]) (TI.o { val := .bool false } (q_conv (e := r3 != 0) (b := false) (by kernel_rfl) hc51) [4, 5, 6, 14] [0, 1, 2, 3, 4, 5, 6, 7, 8, 9, 10, 11] (st 24 [(4, pt 8 0), (5, pt 9 0), (6, iv r34), (14, .bool false)]) (H107_10 p0 p1 p2 p3 p4 r3) (TI.ra 5 [4, 5, 6, 19] (st 24 [(4, pt 8 0), (5, pt 9 0), (6, iv r34), (19, .bool false)]) (TI.dn hK))))
theorem C107 (p0 : (List Int)) (p1 : (List Int)) (p2 : (List Int)) (p3 : Int) (p4 : Int) (r : Int) (hF : F107 p0 p1 p2 p3 p4 = some r) : PureSim Tryz.prog 107 [.func (.func 143) ⟨[]⟩ ⟨[pt 0 0, pt 5 0, pt 6 0]⟩] (H107_15 p0 p1 p2 p3 p4) (V107 7 r) (N107 7 r) :=
  PureSim.of_FinM Tryz.func107 (c := c107) (by kernel_rfl) (by kernel_rfl) 7 rfl [0] [0, 1, 2, 3, 4, 5, 6] (by kernel_rfl) (B107 p0 p1 p2 p3 p4 r hF)

end
end Go.Proofs.YtfebcljpgcahbaaGreat
