/- What functions of the program compute, and that they do. -/
import Derived.Test.YtdekbjfjbbdjgaaTsZ
import Derived.Test.YtdekbjfjbbdjgaaProg
import Derived.KernelRfl
set_option linter.unusedVariables false
set_option linter.unusedSimpArgs false
set_option maxRecDepth 100000
set_option maxHeartbeats 4000000
namespace Go.Proofs.Ytdekbjfjbbdjgaa
open Go Go.Cl
noncomputable section
theorem mixed : Try.prog.follows .mixedOrders = true := by kernel_rfl
def e57 (x : I2) : List Value := [.int .i64 x.1, .int .i64 x.2]
def e83 (x : I2) : List Value := [.int .i64 x.1, .int .i64 x.2]
def e85 (x : PL) : List Value := [.int .i64 x.1.1, .int .i64 x.1.2, .int .i64 x.2.1, .int .i64 x.2.2.1, .int .i64 x.2.2.2.1, .int .i64 x.2.2.2.2]
def e3 (x : Int) : List Value := [.int .i64 x]
def u83 (x : I2) : Value := .agg ⟨e83 x⟩
def u4 (x : Bool) : Value := .bool x
theorem u4_flat (x : Bool) : flat1 (u4 x) = true := by kernel_rfl
def u85 (x : PL) : Value := .agg ⟨e85 x⟩
theorem u85_flat (x : PL) : flat1 (u85 x) = true := by kernel_rfl
theorem u83_fit (x : I2) : keyFits Try.prog 83 (u83 x) = true := by kernel_rfl
theorem u83_eq (a b : I2) : eqKey (u83 a) (u83 b) = decide (a = b) := by rw [Bool.eq_iff_iff]; simp [u83, e83, eqKey, eqLeaves, eqLeaf, Prod.ext_iff]
noncomputable def c51 : Code := Try.f51.code
def F51 (p0 p1 p2 : Int) : Option Bool :=
 (
  if decide (p0 ≤ p1) then
   some (decide (p1 ≤ p2))
  else
   some (false)
 : Option Bool) >>= fun m2 =>
 some m2
def V51 (b : Nat) (r : Bool) : Value := .bool r
def N51 (b : Nat) (r : Bool) : List Blk := []
theorem B51 (p0 p1 p2 : Int) (r : Bool) (hF : F51 p0 p1 p2 = some r) : TS Try.prog 0 0 c51 (st 15 [(0, iv p0), (1, iv p1), (2, iv p2)]) [] (NX Try.prog 0 0 [] (FinP Try.prog Try.f51 0 (V51 0 r) (N51 0 r))) := by
 unfold F51 at hF
 refine TS.sq (TS.rg (TI.ra 1 [0, 1, 2] (st 15 [(0, iv p0), (1, iv p1), (2, iv p2)]) (TI.dn (NX.sq (TS.sq ?_)))))
 obtain ⟨m2, hm3, hF⟩ := of_do hF
 have hK : NX Try.prog 0 0 [.sq c51.s2.s2] (FinP Try.prog Try.f51 0 (V51 0 r) (N51 0 r)) .normal (st 15 [(6, .bool m2)]) [] := by
  refine NX.sq (TS.rt ?_)
  have hF := sj hF
  subst hF
  exact ⟨.inr rfl, rfl, .bool m2, by kernel_rfl, WkV.flat0 (by kernel_rfl) (nl rfl)⟩
 rcases Bool.eq_false_or_eq_true (decide (p0 ≤ p1)) with hc1 | hc1
 · replace hm3 := of_pos hm3 hc1
   have hm3 := sj hm3
   subst hm3
   exact TS.rg (TI.ra 2 [1, 2, 7, 8] (st 15 [(1, iv p1), (2, iv p2), (7, iv p0), (8, iv p1)]) (TI.o { val := .bool true } (q_conv (e := decide (p0 ≤ p1)) (b := true) (by kernel_rfl) hc1) [1, 2, 9] [] (st 15 [(1, iv p1), (2, iv p2), (9, .bool true)]) [] (TI.ra 6 [6] (st 15 [(6, .bool (decide (p1 ≤ p2)))]) (TI.dn hK))))
 replace hm3 := of_neg hm3 hc1
 have hm3 := sj hm3
 subst hm3
 exact TS.rg (TI.ra 2 [1, 2, 7, 8] (st 15 [(1, iv p1), (2, iv p2), (7, iv p0), (8, iv p1)]) (TI.o { val := .bool false } (q_conv (e := decide (p0 ≤ p1)) (b := false) (by kernel_rfl) hc1) [1, 2, 9] [] (st 15 [(1, iv p1), (2, iv p2), (9, .bool false)]) [] (TI.ra 6 [6] (st 15 [(6, .bool false)]) (TI.dn hK))))
theorem C51 (p0 p1 p2 : Int) (r : Bool) (hF : F51 p0 p1 p2 = some r) : PureSim Try.prog 51 [iv p0, iv p1, iv p2] [] (V51 0 r) (N51 0 r) :=
 PureSim.of_Fin Try.func51 (c := c51) (by kernel_rfl) (by kernel_rfl) 0 rfl [0, 1, 2] [] (by kernel_rfl) (B51 p0 p1 p2 r hF)
noncomputable def c23 : Code := Try.f23.code
def S23_0 (v18 : Int) (p2 : List I2) (v19 : Int) : CAct := (st 48 [(3, iv v18), (5, pt 1 0), (23, sv 0 p2.length ANY), (24, iv (p2.length : Int)), (25, iv v19), (29, .bool true)])
def S23_1 (v18 : Int) (p2 : List I2) (v19 : Int) (o35 : I2) : CAct := (st 48 [(3, iv v18), (5, pt 1 0), (23, sv 0 p2.length ANY), (24, iv (p2.length : Int)), (25, iv v19), (31, iv o35.1)])
def S23_2 (p2 : List I2) : CAct := (st 48 [(3, iv (-1)), (23, sv 0 p2.length ANY), (24, iv (p2.length : Int)), (25, iv 0)])
def F23l0 (p2 : List I2) (v18 v19 : Int) : Option (Int ⊕ Unit) :=
 if decide (v19 < (p2.length : Int)) then
  if (0 : Int) ≤ v19 ∧ v19 < (p2.length : Int) then
   some (List.getD p2 (Int.toNat v19) (0, 0)) >>= fun o35 =>
   F51 0 o35.1 100000 >>= fun r37 =>
   (
    if r37 then
     F51 (-1000000) o35.2 1000000 >>= fun r39 =>
     if r39 then
      some (false)
     else
      some (true)
    else
     some (true)
   : Option Bool) >>= fun m41 =>
   if m41 then
    some (.inl 1)
   else
    if decide (o35.1 ≤ v18) then
     some (.inl 5)
    else
     F23l0 p2 o35.1 (w64 (v19 + 1))
  else none
 else
  some (.inr ())
 partial_fixpoint
def F23 (p0 p1 : Int) (p2 : List I2) : Option Int :=
 F51 1 p0 30 >>= fun r1 =>
 (
  if r1 then
   F51 1 p1 30 >>= fun r3 =>
   if r3 then
    some (false)
   else
    some (true)
  else
   some (true)
 : Option Bool) >>= fun m5 =>
 if m5 then
  some 1
 else
  if decide ((p2.length : Int) > 60) then
   some 3
  else
   F23l0 p2 (-1) 0 >>= fun r44 =>
   match r44 with
   | .inl o46 =>
    some o46
   | .inr o47 =>
    some 0
def V23 (b : Nat) (r : Int) : Value := iv r
def N23 (b : Nat) (r : Int) : List Blk := []
def P23l0 (p2 : List I2) (r : Int ⊕ Unit) : Post := fun e a h => (match r with | .inl q0 => e = .ret ∧ Wk Try.prog 1 1 a h (st 48 [(2, iv q0)]) [ab 57 e57 p2] | .inr q0 => e = .exit 1 ∧ Wk Try.prog 1 1 a h (st 48 []) [ab 57 e57 p2])
theorem L23l0 (p2 : List I2) (v18 v19 : Int) (r : Int ⊕ Unit) (hF : F23l0 p2 v18 v19 = some r) : TL Try.prog 1 1 c23.s2.s2.s2.s1.s2.bd.bd (st 48 [(3, iv v18), (23, sv 0 p2.length ANY), (24, iv (p2.length : Int)), (25, iv v19)]) [ab 57 e57 p2] (P23l0 p2 r) := by
 refine F23l0.partial_correctness p2 (motive := fun v18 v19 r => TL Try.prog 1 1 c23.s2.s2.s2.s1.s2.bd.bd (st 48 [(3, iv v18), (23, sv 0 p2.length ANY), (24, iv (p2.length : Int)), (25, iv v19)]) [ab 57 e57 p2] (P23l0 p2 r)) ?_ v18 v19 r hF
 clear hF r v18 v19
 intro again ih v18 v19 r hF
 refine TL.round (TS.sq (TS.rg (TI.ra 1 [3, 23, 24, 25, 26] (st 48 [(3, iv v18), (23, sv 0 p2.length ANY), (24, iv (p2.length : Int)), (25, iv v19), (26, .bool (decide (v19 < (p2.length : Int))))]) (TI.dn (NX.sq (TS.sq ?_))))))
 refine TS.cd (.tmp 26) (decide (v19 < (p2.length : Int))) (fun hc33 => ?_) (fun hc33 => ?_)
 · replace hF := of_pos hF hc33
   refine TS.sk (NX.sq (TS.sq (TS.bk 2 (TS.sq ?_))))
   obtain ⟨hg34, hF⟩ := of_guard hF
   obtain ⟨o35, h36, hF⟩ := of_do hF
   replace h36 := sj h36
   refine TS.rg (TI.o { val := .pointer (some ⟨0, 0 + (Int.toNat v19) * 2, none⟩) } (q_ixS 0 0 ((Int.toNat v19) * 2) (by kernel_rfl) hg34) [3, 23, 24, 25, 27] [0] (st 48 [(3, iv v18), (23, sv 0 p2.length ANY), (24, iv (p2.length : Int)), (25, iv v19), (27, .pointer (some ⟨0, 0 + (Int.toNat v19) * 2, none⟩))]) [ab 57 e57 p2] (TI.o { val := ag [iv o35.1, iv o35.2] } (q_nAa Try.prog [ab 57 e57 p2] 57 0 (0 + (Int.toNat v19) * 2) p2 e57 2 57 (Int.toNat v19) (0, 0) h36) [3, 23, 24, 25, 28] [0] (st 48 [(3, iv v18), (23, sv 0 p2.length ANY), (24, iv (p2.length : Int)), (25, iv v19), (28, ag [iv o35.1, iv o35.2])]) [ab 57 e57 p2] (TI.rn 2 [3, 5, 23, 24, 25] [0, 1] (st 48 [(3, iv v18), (5, pt 1 0), (23, sv 0 p2.length ANY), (24, iv (p2.length : Int)), (25, iv v19)]) [ab 57 e57 p2, cl 57 [iv o35.1, iv o35.2]] (TI.dn (NX.sq (TS.sq (TS.bk 3 (TS.sq ?_))))))))
   obtain ⟨r37, h38, hF⟩ := of_do hF
   obtain ⟨m41, hm43, hF⟩ := of_do hF
   have hK : NX Try.prog 1 1 [.sq c23.s2.s2.s2.s1.s2.bd.bd.s2.s2.s1.bd.s2.s1.bd.s2, .bk 3, .sq c23.s2.s2.s2.s1.s2.bd.bd.s2.s2.s1.bd.s2.s2, .bk 2, .sq c23.s2.s2.s2.s1.s2.bd.bd.s2.s2.s2] (Rd Try.prog 1 1 c23.s2.s2.s2.s1.s2.bd.bd (P23l0 p2 r)) .normal (st 48 [(3, iv v18), (5, pt 1 0), (23, sv 0 p2.length ANY), (24, iv (p2.length : Int)), (25, iv v19), (29, .bool m41)]) [ab 57 e57 p2, cl 57 [iv o35.1, iv o35.2]] := by
    refine NX.sq ?_
    cases m41 with
    | true =>
     replace hF := of_pos hF rfl
     refine TS.cdT (.tmp 29) (TS.sq (TS.rg (TI.rn 1 [2] [0] (st 48 [(2, iv 1)]) [ab 57 e57 p2, .dead] (TI.dn (NX.sq (TS.rt (NX.bkR (NX.sqR ?_))))))))
     refine NX.bkR (NX.sqR ?_)
     have hF := sj hF
     subst hF
     exact Rd.out (e := .ret) (by intro h; cases h) (And.intro rfl (Wk.an [] (.ac (.nil _)) [iv 1] (.fl .nil)))
    | false =>
     replace hF := of_neg hF rfl
     refine TS.cdF (.tmp 29) (TS.sq (TS.rg (TI.ra 5 [5, 23, 24, 25, 40] (st 48 [(5, pt 1 0), (23, sv 0 p2.length ANY), (24, iv (p2.length : Int)), (25, iv v19), (40, .bool (decide (o35.1 ≤ v18)))]) (TI.dn (NX.sq ?_)))))
     refine TS.cd (.tmp 40) (decide (o35.1 ≤ v18)) (fun hc42 => ?_) (fun hc42 => ?_)
     · replace hF := of_pos hF hc42
       refine TS.sq (TS.rg (TI.rn 1 [2] [0] (st 48 [(2, iv 5)]) [ab 57 e57 p2, .dead] (TI.dn (NX.sq (TS.rt (NX.bkR (NX.sqR (NX.bkR ?_))))))))
       refine NX.sqR ?_
       have hF := sj hF
       subst hF
       exact Rd.out (e := .ret) (by intro h; cases h) (And.intro rfl (Wk.an [] (.ac (.nil _)) [iv 5] (.fl .nil)))
     replace hF := of_neg hF hc42
     refine TS.sk (NX.bk (NX.sq (TS.rg (TI.rn 3 [3, 23, 24, 25] [0] (st 48 [(3, iv o35.1), (23, sv 0 p2.length ANY), (24, iv (p2.length : Int)), (25, iv v19)]) [ab 57 e57 p2, .dead] (TI.dn (NX.bk (NX.sq (TS.rg ?_))))))))
     refine TI.ra 2 [3, 23, 24, 25] (st 48 [(3, iv o35.1), (23, sv 0 p2.length ANY), (24, iv (p2.length : Int)), (25, iv (w64 (v19 + 1)))]) (TI.dn ?_)
     exact Rd.again (a2 := (st 48 [(3, iv o35.1), (23, sv 0 p2.length ANY), (24, iv (p2.length : Int)), (25, iv (w64 (v19 + 1)))])) (h2 := [ab 57 e57 p2]) (Wk.an [] (.ac (.nil _)) [iv o35.1, sv 0 p2.length ANY, iv (p2.length : Int), iv (w64 (v19 + 1))] (.fl (.sl (.fl (.fl .nil))))) (ih o35.1 (w64 (v19 + 1)) _ hF)
   cases r37 with
   | true =>
    replace hm43 := of_pos hm43 rfl
    have hX := of_do hm43
    clear hm43
    obtain ⟨r39, h40, hm43⟩ := hX
    cases r39 with
    | true =>
     replace hm43 := of_pos hm43 rfl
     have hm43 := sj hm43
     subst hm43
     exact TS.rg (TI.ra 2 [3, 5, 23, 24, 25, 31] (S23_1 v18 p2 v19 o35) (TI.cf (C51 _ _ _ _ h38) (TI.ra 4 [3, 5, 23, 24, 25, 34, 36] (st 48 [(3, iv v18), (5, pt 1 0), (23, sv 0 p2.length ANY), (24, iv (p2.length : Int)), (25, iv v19), (34, .bool false), (36, iv o35.2)]) (TI.cf (C51 _ _ _ _ h40) (TI.ra 3 [3, 5, 23, 24, 25, 29] (st 48 [(3, iv v18), (5, pt 1 0), (23, sv 0 p2.length ANY), (24, iv (p2.length : Int)), (25, iv v19), (29, .bool false)]) (TI.dn hK))))))
    | false =>
     replace hm43 := of_neg hm43 rfl
     have hm43 := sj hm43
     subst hm43
     exact TS.rg (TI.ra 2 [3, 5, 23, 24, 25, 31] (S23_1 v18 p2 v19 o35) (TI.cf (C51 _ _ _ _ h38) (TI.ra 4 [3, 5, 23, 24, 25, 34, 36] (st 48 [(3, iv v18), (5, pt 1 0), (23, sv 0 p2.length ANY), (24, iv (p2.length : Int)), (25, iv v19), (34, .bool false), (36, iv o35.2)]) (TI.cf (C51 _ _ _ _ h40) (TI.ra 3 [3, 5, 23, 24, 25, 29] (S23_0 v18 p2 v19) (TI.dn hK))))))
   | false =>
    replace hm43 := of_neg hm43 rfl
    have hm43 := sj hm43
    subst hm43
    exact TS.rg (TI.ra 2 [3, 5, 23, 24, 25, 31] (S23_1 v18 p2 v19 o35) (TI.cf (C51 _ _ _ _ h38) (TI.ra 8 [3, 5, 23, 24, 25, 29] (S23_0 v18 p2 v19) (TI.dn hK))))
 replace hF := of_neg hF hc33
 refine TS.ex 1 (NX.sqX ?_)
 have hF := sj hF
 subst hF
 exact Rd.out (e := .exit 1) (by intro h; cases h) (And.intro rfl (Wk.an [] (.ac (.nil _)) [] .nil))
theorem B23 (p0 p1 : Int) (p2 : List I2) (r : Int) (hF : F23 p0 p1 p2 = some r) : TS Try.prog 1 1 c23 (st 48 [(0, ag [iv p0, iv p1, sv 0 p2.length ANY])]) [ab 57 e57 p2] (NX Try.prog 1 1 [] (FinP Try.prog Try.f23 1 (V23 1 r) (N23 1 r))) := by
 unfold F23 at hF
 refine TS.sq (TS.rg (TI.rn 2 [1] [0, 1] (st 48 [(1, pt 1 0)]) [ab 57 e57 p2, cl 24 [iv p0, iv p1, sv 0 p2.length ANY]] (TI.dn (NX.sq (TS.sq (TS.bk 0 (TS.sq ?_)))))))
 obtain ⟨r1, h2, hF⟩ := of_do hF
 obtain ⟨m5, hm48, hF⟩ := of_do hF
 have hK : NX Try.prog 1 1 [.sq c23.s2.s1.bd.s2, .bk 0, .sq c23.s2.s2] (FinP Try.prog Try.f23 1 (V23 1 r) (N23 1 r)) .normal (st 48 [(1, pt 1 0), (6, .bool m5)]) [ab 57 e57 p2, cl 24 [iv p0, iv p1, sv 0 p2.length ANY]] := by
  refine NX.sq ?_
  cases m5 with
  | true =>
   replace hF := of_pos hF rfl
   refine TS.cdT (.tmp 6) (TS.sq (TS.rg (TI.rn 1 [2] [0] (st 48 [(2, iv 1)]) [ab 57 e57 p2, .dead] (TI.dn (NX.sq (TS.rt (NX.bkR (NX.sqR ?_))))))))
   have hF := sj hF
   subst hF
   exact ⟨.inr rfl, rfl, iv 1, by kernel_rfl, WkV.flat0 (by kernel_rfl) (nl rfl)⟩
  | false =>
   replace hF := of_neg hF rfl
   refine TS.cdF (.tmp 6) (TS.sq (TS.rg (TI.ra 5 [1, 17] (st 48 [(1, pt 1 0), (17, .bool (decide ((p2.length : Int) > 60)))]) (TI.dn (NX.sq ?_)))))
   refine TS.cd (.tmp 17) (decide ((p2.length : Int) > 60)) (fun hc6 => ?_) (fun hc6 => ?_)
   · replace hF := of_pos hF hc6
     refine TS.sq (TS.rg (TI.rn 1 [2] [0] (st 48 [(2, iv 3)]) [ab 57 e57 p2, .dead] (TI.dn (NX.sq (TS.rt (NX.bkR (NX.sqR ?_)))))))
     have hF := sj hF
     subst hF
     exact ⟨.inr rfl, rfl, iv 3, by kernel_rfl, WkV.flat0 (by kernel_rfl) (nl rfl)⟩
   replace hF := of_neg hF hc6
   refine TS.sk (NX.bk (NX.sq (TS.sq (TS.rg (TI.ra 1 [1, 3] (st 48 [(1, pt 1 0), (3, iv (-1))]) (TI.dn (NX.sq (TS.sq ?_))))))))
   refine TS.sq (TS.rg (TI.rn 4 [3, 23, 24, 25] [0] (S23_2 p2) [ab 57 e57 p2, .dead] (TI.dn (NX.sq (TS.bk 1 ?_)))))
   obtain ⟨r44, h45, hF⟩ := of_do hF
   refine TS.lp (TL.weak (a2 := (S23_2 p2)) (h2 := [ab 57 e57 p2]) (Wk.an [] (.ac (.nil _)) [iv (-1), sv 0 p2.length ANY, iv (p2.length : Int), iv 0] (.fl (.sl (.fl (.fl .nil))))) (TL.post (L23l0 p2 (-1) 0 r44 h45) ?_))
   rintro e a1 h1 hp
   rcases r44 with o46 | o47
   · skip
     obtain ⟨rfl, hw⟩ := hp
     refine ⟨(st 48 [(2, iv o46)]), [ab 57 e57 p2], (NX.bkR (NX.sqR ?_)), hw⟩
     have hF := sj hF
     subst hF
     exact ⟨.inr rfl, rfl, iv o46, by kernel_rfl, WkV.flat0 (by kernel_rfl) (nl rfl)⟩
   skip
   obtain ⟨rfl, hw⟩ := hp
   refine ⟨(st 48 []), [ab 57 e57 p2], (NX.bkX (NX.sq (TS.sq (TS.rg (TI.ra 1 [2] (st 48 [(2, iv 0)]) (TI.dn (NX.sq (TS.rt ?_)))))))), hw⟩
   have hF := sj hF
   subst hF
   exact ⟨.inr rfl, rfl, iv 0, by kernel_rfl, WkV.flat0 (by kernel_rfl) (nl rfl)⟩
 cases r1 with
 | true =>
  replace hm48 := of_pos hm48 rfl
  have hX := of_do hm48
  clear hm48
  obtain ⟨r3, h4, hm48⟩ := hX
  cases r3 with
  | true =>
   replace hm48 := of_pos hm48 rfl
   have hm48 := sj hm48
   subst hm48
   exact TS.rg (TI.ra 2 [1, 8] (st 48 [(1, pt 1 0), (8, iv p0)]) (TI.cf (C51 _ _ _ _ h2) (TI.ra 4 [1, 11, 13] (st 48 [(1, pt 1 0), (11, .bool false), (13, iv p1)]) (TI.cf (C51 _ _ _ _ h4) (TI.ra 3 [1, 6] (st 48 [(1, pt 1 0), (6, .bool false)]) (TI.dn hK))))))
  | false =>
   replace hm48 := of_neg hm48 rfl
   have hm48 := sj hm48
   subst hm48
   exact TS.rg (TI.ra 2 [1, 8] (st 48 [(1, pt 1 0), (8, iv p0)]) (TI.cf (C51 _ _ _ _ h2) (TI.ra 4 [1, 11, 13] (st 48 [(1, pt 1 0), (11, .bool false), (13, iv p1)]) (TI.cf (C51 _ _ _ _ h4) (TI.ra 3 [1, 6] (st 48 [(1, pt 1 0), (6, .bool true)]) (TI.dn hK))))))
 | false =>
  replace hm48 := of_neg hm48 rfl
  have hm48 := sj hm48
  subst hm48
  exact TS.rg (TI.ra 2 [1, 8] (st 48 [(1, pt 1 0), (8, iv p0)]) (TI.cf (C51 _ _ _ _ h2) (TI.ra 8 [1, 6] (st 48 [(1, pt 1 0), (6, .bool true)]) (TI.dn hK))))
theorem C23 (p0 p1 : Int) (p2 : List I2) (r : Int) (hF : F23 p0 p1 p2 = some r) : PureSim Try.prog 23 [ag [iv p0, iv p1, sv 0 p2.length ANY]] [ab 57 e57 p2] (V23 1 r) (N23 1 r) :=
 PureSim.of_Fin Try.func23 (c := c23) (by kernel_rfl) (by kernel_rfl) 1 rfl [0] [0] (by kernel_rfl) (B23 p0 p1 p2 r hF)
noncomputable def c55 : Code := Try.f55.code
def S55_0 (p3 p0 p1 : Int) : CAct := (st 16 [(1, iv p3), (2, pt 1 0), (4, pt 2 0), (5, pt 3 0), (6, iv p3), (7, pt 1 0), (8, iv p0), (9, iv (Int.tmod p3 p0)), (10, ag [iv 0, iv (Int.tmod p3 p0)]), (11, iv p3), (12, pt 1 1), (13, iv p1), (14, iv (Int.tmod p3 p1)), (15, ag [iv 1, iv (Int.tmod p3 p1)])])
def S55_1 (p3 p0 p1 : Int) : CAct := (st 16 [(1, iv p3), (2, pt 1 0), (4, pt 2 0), (5, pt 3 0), (6, iv p3), (7, pt 1 0), (8, iv p0), (9, iv (Int.tmod p3 p0)), (10, ag [iv 0, iv (Int.tmod p3 p0)]), (11, iv p3), (12, pt 1 1), (13, iv p1), (14, iv (Int.tmod p3 p1))])
def S55_2 (p3 p0 p1 : Int) : CAct := (st 16 [(1, iv p3), (2, pt 1 0), (4, pt 2 0), (5, pt 3 0), (6, iv p3), (7, pt 1 0), (8, iv p0), (9, iv (Int.tmod p3 p0)), (10, ag [iv 0, iv (Int.tmod p3 p0)]), (11, iv p3), (12, pt 1 1), (13, iv p1)])
def H55_3 (p2 : List I2) (p0 p1 p3 : Int) : List Blk := [ab 57 e57 p2, cl 24 [iv p0, iv p1, sv 0 p2.length ANY], cl 83 [iv 0, iv (Int.tmod p3 p0)], cl 83 [iv 1, iv (Int.tmod p3 p1)]]
def H55_4 (p2 : List I2) (p0 p1 p3 : Int) : List Blk := [ab 57 e57 p2, cl 24 [iv p0, iv p1, sv 0 p2.length ANY], cl 83 [iv 0, iv (Int.tmod p3 p0)], cl 83 [iv 0, iv 0]]
def H55_5 (p2 : List I2) (p0 p1 : Int) : List Blk := [ab 57 e57 p2, cl 24 [iv p0, iv p1, sv 0 p2.length ANY], cl 83 [iv 0, iv 0], cl 83 [iv 0, iv 0]]
def S55_6 (p3 p0 : Int) : CAct := (st 16 [(1, iv p3), (2, pt 1 0), (4, pt 2 0), (5, pt 3 0), (6, iv p3), (7, pt 1 0), (8, iv p0), (9, iv (Int.tmod p3 p0))])
def F55 (p0 p1 : Int) (p2 : List I2) (p3 : Int) : Option (I2 × I2) :=
 if p0 = 0 then none else
 if p1 = 0 then none else
 some ((0, Int.tmod p3 p0), (1, Int.tmod p3 p1))
def V55 (b : Nat) (r : I2 × I2) : Value := .tuple ⟨[ag [iv r.1.1, iv r.1.2], ag [iv r.2.1, iv r.2.2]]⟩
def N55 (b : Nat) (r : I2 × I2) : List Blk := []
theorem B55 (p0 p1 : Int) (p2 : List I2) (p3 : Int) (r : I2 × I2) (hF : F55 p0 p1 p2 p3 = some r) : TS Try.prog 1 1 c55 (st 16 [(0, ag [iv p0, iv p1, sv 0 p2.length ANY]), (1, iv p3)]) [ab 57 e57 p2] (NX Try.prog 1 1 [] (FinP Try.prog Try.f55 1 (V55 1 r) (N55 1 r))) := by
 unfold F55 at hF
 refine TS.sq (TS.rg (TI.rn 3 [1, 2, 4, 5] [0, 1, 2, 3] (st 16 [(1, iv p3), (2, pt 1 0), (4, pt 2 0), (5, pt 3 0)]) (H55_5 p2 p0 p1) (TI.dn (NX.sq (TS.sq ?_)))))
 obtain ⟨hg1, hF⟩ := of_guardn hF
 obtain ⟨hg2, hF⟩ := of_guardn hF
 refine TS.draw' (id := 1) (b := true) (ops := c55.s2.s1.rops) (fin := (qs (S55_0 p3 p0 p1) (H55_4 p2 p0 p1 p3) [] [(10, 2)])) (fin2 := (qs (S55_0 p3 p0 p1) (H55_4 p2 p0 p1 p3) [] [(10, 2)])) (a1 := (S55_0 p3 p0 p1)) (h1 := (H55_3 p2 p0 p1 p3)) (a2 := (st 16 [(4, pt 2 0), (5, pt 3 0)])) (h2 := [ab 57 e57 p2, .dead, cl 83 [iv 0, iv (Int.tmod p3 p0)], cl 83 [iv 1, iv (Int.tmod p3 p1)]]) [] (fun e he => by cases he) mixed (by kernel_rfl) rfl 11 (by kernel_rfl) [(10, 2)] ?_ rfl (.inr ⟨?_, (by kernel_rfl)⟩) ?_ [4, 5] [0, 2, 3] (by kernel_rfl) ?_
 · exact QI.run (s1 := (qs (st 16 [(1, iv p3), (2, pt 1 0), (4, pt 2 0), (5, pt 3 0), (6, iv p3), (7, pt 1 0), (8, iv p0)]) (H55_5 p2 p0 p1) [] [])) 3 (by kernel_rfl) (by kernel_rfl) (QI.op (q := { val := iv (Int.tmod p3 p0) }) (s1 := (qs (S55_6 p3 p0) (H55_5 p2 p0 p1) [] [])) (by decide) (q_int (P := Try.prog) (op := .rem) (ty := 3) (ox := (.tmp 6)) (oy := (.tmp 8)) (k := .i64) (k' := .i64) (y := p3) (z := p0) (by kernel_rfl) (rem_ok hg1)) (by kernel_rfl) (QI.run (s1 := (qs (S55_2 p3 p0 p1) (H55_5 p2 p0 p1) [] [])) 4 (by kernel_rfl) (by kernel_rfl) (QI.op (q := { val := iv (Int.tmod p3 p1) }) (s1 := (qs (S55_1 p3 p0 p1) (H55_5 p2 p0 p1) [] [])) (by decide) (q_int (P := Try.prog) (op := .rem) (ty := 3) (ox := (.tmp 11)) (oy := (.tmp 13)) (k := .i64) (k' := .i64) (y := p3) (z := p1) (by kernel_rfl) (rem_ok hg2)) (by kernel_rfl) (QI.run (s1 := (qs (S55_0 p3 p0 p1) (H55_4 p2 p0 p1 p3) [] [(10, 2)])) 2 (by kernel_rfl) (by kernel_rfl) (QI.done (by kernel_rfl))))))
 · exact QI.run (s1 := (qs (st 16 [(1, iv p3), (2, pt 1 0), (4, pt 2 0), (5, pt 3 0), (6, iv p3), (7, pt 1 0), (8, iv p0)]) (H55_5 p2 p0 p1) [] [])) 3 (by kernel_rfl) (by kernel_rfl) (QI.op (q := { val := iv (Int.tmod p3 p0) }) (s1 := (qs (S55_6 p3 p0) (H55_5 p2 p0 p1) [] [])) (by decide) (q_int (P := Try.prog) (op := .rem) (ty := 3) (ox := (.tmp 6)) (oy := (.tmp 8)) (k := .i64) (k' := .i64) (y := p3) (z := p0) (by kernel_rfl) (rem_ok hg1)) (by kernel_rfl) (QI.run (s1 := (qs (S55_2 p3 p0 p1) (H55_5 p2 p0 p1) [] [])) 4 (by kernel_rfl) (by kernel_rfl) (QI.op (q := { val := iv (Int.tmod p3 p1) }) (s1 := (qs (S55_1 p3 p0 p1) (H55_5 p2 p0 p1) [] [])) (by decide) (q_int (P := Try.prog) (op := .rem) (ty := 3) (ox := (.tmp 11)) (oy := (.tmp 13)) (k := .i64) (k' := .i64) (y := p3) (z := p1) (by kernel_rfl) (rem_ok hg2)) (by kernel_rfl) (QI.run (s1 := (qs (S55_0 p3 p0 p1) (H55_4 p2 p0 p1 p3) [] [(10, 2)])) 2 (by kernel_rfl) (by kernel_rfl) (QI.done (by kernel_rfl))))))
 · exact SI.run (a2 := (S55_0 p3 p0 p1)) (h2 := (H55_3 p2 p0 p1 p3)) 1 (by kernel_rfl) (SI.done (by kernel_rfl))
 refine TS.rt ?_
 have hF := sj hF
 subst hF
 exact ⟨.inr rfl, rfl, .tuple ⟨[ag [iv 0, iv (Int.tmod p3 p0)], ag [iv 1, iv (Int.tmod p3 p1)]]⟩, by kernel_rfl, WkV.flat0 (by kernel_rfl) (nl rfl)⟩
theorem C55 (p0 p1 : Int) (p2 : List I2) (p3 : Int) (r : I2 × I2) (hF : F55 p0 p1 p2 p3 = some r) : PureSim Try.prog 55 [ag [iv p0, iv p1, sv 0 p2.length ANY], iv p3] [ab 57 e57 p2] (V55 1 r) (N55 1 r) :=
 PureSim.of_Fin Try.func55 (c := c55) (by kernel_rfl) (by kernel_rfl) 1 rfl [0, 1] [0] (by kernel_rfl) (B55 p0 p1 p2 p3 r hF)
noncomputable def c61 : Code := Try.f61.code
def H61_0 (p10 p11 : Int) (p12 : List I2) (v22 : List (I2 × PL)) (v23 : List (I2 × Bool)) (p0 p1 p2 p3 p4 p5 p6 p7 : Int) (o48 : I2) (r50 : I2 × I2) : List Blk := [cl 76 [.map (some 5)], cl 101 [.map (some 6)], cl 24 [iv p10, iv p11, sv 3 p12.length ANY], ab 57 e57 p12, cl 102 [.func (.func 61) ⟨[]⟩ ⟨[pt 0 0, pt 1 0, pt 2 0, pt 4 0]⟩], mb 83 u83 u85 v22, mb 83 u83 u4 v23, cl 83 [iv p0, iv p1], cl 85 [iv p2, iv p3, iv p4, iv p5, iv p6, iv p7], cl 57 [iv o48.1, iv o48.2], cl 83 [iv r50.1.1, iv r50.1.2], cl 83 [iv r50.2.1, iv r50.2.2]]
def H61_1 (p10 p11 : Int) (p12 : List I2) (v22 : List (I2 × PL)) (v23 : List (I2 × Bool)) (p0 p1 p2 p3 p4 p5 p6 p7 : Int) (o48 : I2) (r50 : I2 × I2) : List Blk := [cl 76 [.map (some 5)], cl 101 [.map (some 6)], cl 24 [iv p10, iv p11, sv 3 p12.length ANY], ab 57 e57 p12, cl 102 [.func (.func 61) ⟨[]⟩ ⟨[pt 0 0, pt 1 0, pt 2 0, pt 4 0]⟩], mb 83 u83 u85 v22, mb 83 u83 u4 v23, cl 83 [iv p0, iv p1], cl 85 [iv p2, iv p3, iv p4, iv p5, iv p6, iv p7], cl 57 [iv o48.1, iv o48.2], cl 83 [iv r50.1.1, iv r50.1.2], .dead]
def H61_2 (p10 p11 : Int) (p12 : List I2) (p8 : List (I2 × PL)) (p0 p1 p2 p3 p4 p5 p6 p7 : Int) (p9 : List (I2 × Bool)) : List Blk := [cl 76 [.map (some 5)], cl 101 [.map (some 6)], cl 24 [iv p10, iv p11, sv 3 p12.length ANY], ab 57 e57 p12, cl 102 [.func (.func 61) ⟨[]⟩ ⟨[pt 0 0, pt 1 0, pt 2 0, pt 4 0]⟩], .map 83 (List.map (mEnc u83 u85) (mput p8 (p0, p1) ((p2, p3), p4, p5, (p6, p7)))), .map 83 (List.map (mEnc u83 u4) (mdel p9 (p0, p1))), cl 83 [iv p0, iv p1], cl 85 [iv p2, iv p3, iv p4, iv p5, iv p6, iv p7]]
def H61_3 (p10 p11 : Int) (p12 : List I2) (p8 : List (I2 × PL)) (p0 p1 p2 p3 p4 p5 p6 p7 : Int) (p9 : List (I2 × Bool)) : List Blk := [cl 76 [.map (some 5)], cl 101 [.map (some 6)], cl 24 [iv p10, iv p11, sv 3 p12.length ANY], ab 57 e57 p12, cl 102 [.func (.func 61) ⟨[]⟩ ⟨[pt 0 0, pt 1 0, pt 2 0, pt 4 0]⟩], .map 83 (List.map (mEnc u83 u85) (mput p8 (p0, p1) ((p2, p3), p4, p5, (p6, p7)))), mb 83 u83 u4 p9, cl 83 [iv p0, iv p1], cl 85 [iv p2, iv p3, iv p4, iv p5, iv p6, iv p7]]
def H61_4 (p10 p11 : Int) (p12 : List I2) (v22 : List (I2 × PL)) (v23 : List (I2 × Bool)) (p0 p1 p2 p3 p4 p5 p6 p7 : Int) : List Blk := [cl 76 [.map (some 5)], cl 101 [.map (some 6)], cl 24 [iv p10, iv p11, sv 3 p12.length ANY], ab 57 e57 p12, cl 102 [.func (.func 61) ⟨[]⟩ ⟨[pt 0 0, pt 1 0, pt 2 0, pt 4 0]⟩], mb 83 u83 u85 v22, mb 83 u83 u4 v23, cl 83 [iv p0, iv p1], cl 85 [iv p2, iv p3, iv p4, iv p5, iv p6, iv p7], .dead, .dead, .dead]
def H61_5 (p10 p11 : Int) (p12 : List I2) (v22 : List (I2 × PL)) (v23 : List (I2 × Bool)) (p0 p1 p2 p3 p4 p5 p6 p7 : Int) : List Blk := [cl 76 [.map (some 5)], cl 101 [.map (some 6)], cl 24 [iv p10, iv p11, sv 3 p12.length ANY], ab 57 e57 p12, cl 102 [.func (.func 61) ⟨[]⟩ ⟨[pt 0 0, pt 1 0, pt 2 0, pt 4 0]⟩], mb 83 u83 u85 v22, mb 83 u83 u4 v23, cl 83 [iv p0, iv p1], cl 85 [iv p2, iv p3, iv p4, iv p5, iv p6, iv p7]]
def S61_6 (v21 : Int) (p12 : List I2) (p0 p1 : Int) (r50 : I2 × I2) : CAct := (st 77 [(3, pt 1 0), (4, pt 2 0), (5, pt 4 0), (6, pt 7 0), (7, pt 8 0), (8, iv v21), (9, pt 9 0), (10, pt 10 0), (11, pt 11 0), (18, sv 3 p12.length ANY), (19, iv (p12.length : Int)), (20, iv v21), (33, ag [iv p0, iv p1]), (34, ag [iv r50.1.1, iv r50.1.2])])
def S61_7 (v21 : Int) (p12 : List I2) (p0 p1 : Int) (r50 : I2 × I2) : CAct := (st 77 [(3, pt 1 0), (4, pt 2 0), (5, pt 4 0), (6, pt 7 0), (7, pt 8 0), (8, iv v21), (9, pt 9 0), (10, pt 10 0), (18, sv 3 p12.length ANY), (19, iv (p12.length : Int)), (20, iv v21), (55, ag [iv p0, iv p1]), (56, ag [iv r50.2.1, iv r50.2.2])])
def H61_8 (p10 p11 : Int) (p12 : List I2) : List Blk := [cl 76 [.map (some 5)], cl 101 [.map (some 6)], cl 24 [iv p10, iv p11, sv 3 p12.length ANY], ab 57 e57 p12, cl 102 [.func (.func 61) ⟨[]⟩ ⟨[pt 0 0, pt 1 0, pt 2 0, pt 4 0]⟩]]
def S61_9 (p12 : List I2) (v21 : Int) : CAct := (st 77 [(3, pt 1 0), (4, pt 2 0), (5, pt 4 0), (6, pt 7 0), (7, pt 8 0), (18, sv 3 p12.length ANY), (19, iv (p12.length : Int)), (20, iv (w64 (v21 + 1)))])
def S61_10 (p12 : List I2) (v21 : Int) : CAct := (st 77 [(3, pt 1 0), (4, pt 2 0), (5, pt 4 0), (6, pt 7 0), (7, pt 8 0), (18, sv 3 p12.length ANY), (19, iv (p12.length : Int)), (20, iv v21)])
def S61_11 (p12 : List I2) : CAct := (st 77 [(3, pt 1 0), (4, pt 2 0), (5, pt 4 0), (6, pt 7 0), (7, pt 8 0), (18, sv 3 p12.length ANY), (19, iv (p12.length : Int)), (20, iv 0)])
def F61l0 (rec61 : Int → Int → Int → Int → Int → Int → Int → Int → (List (I2 × PL)) → (List (I2 × Bool)) → Int → Int → (List I2) → Option ((List (I2 × PL)) × (List (I2 × Bool)))) (p0 p1 p2 p3 p4 p5 p6 p7 p10 p11 : Int) (p12 : List I2) (v21 : Int) (v22 : List (I2 × PL)) (v23 : List (I2 × Bool)) : Option ((List (I2 × PL)) × (List (I2 × Bool))) :=
 if decide (v21 < (p12.length : Int)) then
  if (0 : Int) ≤ v21 ∧ v21 < (p12.length : Int) then
   some (List.getD p12 (Int.toNat v21) (0, 0)) >>= fun o48 =>
   F55 p10 p11 p12 o48.1 >>= fun r50 =>
   (
    if ((p0 == r50.1.1) && ((p1 == r50.1.2) && true)) then
     some (Option.getD (mget v23 (r50.2.1, r50.2.2)) false) >>= fun o53 =>
     some (o53)
    else
     some (false)
   : Option Bool) >>= fun m55 =>
   (
    if m55 then
     rec61 r50.2.1 r50.2.2 p2 p3 (w64 (o48.2 - p4)) v21 p0 p1 v22 v23 p10 p11 p12 >>= fun r69 =>
     some (r69.1, r69.2)
    else
     (
      if ((p0 == r50.2.1) && ((p1 == r50.2.2) && true)) then
       some (Option.getD (mget v23 (r50.1.1, r50.1.2)) false) >>= fun o72 =>
       some (o72)
      else
       some (false)
     : Option Bool) >>= fun m74 =>
     (
      if m74 then
       rec61 r50.1.1 r50.1.2 p2 p3 (w64 (o48.2 - p4)) v21 p0 p1 v22 v23 p10 p11 p12 >>= fun r81 =>
       some (r81.1, r81.2)
      else
       some (v22, v23)
     : Option ((List (I2 × PL)) × (List (I2 × Bool)))) >>= fun m79 =>
     some (m79.1, m79.2)
   : Option ((List (I2 × PL)) × (List (I2 × Bool)))) >>= fun m67 =>
   F61l0 rec61 p0 p1 p2 p3 p4 p5 p6 p7 p10 p11 p12 (w64 (v21 + 1)) m67.1 m67.2
  else none
 else
  some (v22, v23)
 partial_fixpoint
def F61b (rec61 : Int → Int → Int → Int → Int → Int → Int → Int → (List (I2 × PL)) → (List (I2 × Bool)) → Int → Int → (List I2) → Option ((List (I2 × PL)) × (List (I2 × Bool)))) (p0 p1 p2 p3 p4 p5 p6 p7 : Int) (p8 : List (I2 × PL)) (p9 : List (I2 × Bool)) (p10 p11 : Int) (p12 : List I2) : Option ((List (I2 × PL)) × (List (I2 × Bool))) :=
 F61l0 rec61 p0 p1 p2 p3 p4 p5 p6 p7 p10 p11 p12 0 (mput p8 (p0, p1) ((p2, p3), p4, p5, (p6, p7))) (mdel p9 (p0, p1)) >>= fun r85 =>
 some (r85.1, r85.2)
def F61 : Nat → Int → Int → Int → Int → Int → Int → Int → Int → (List (I2 × PL)) → (List (I2 × Bool)) → Int → Int → (List I2) → Option ((List (I2 × PL)) × (List (I2 × Bool)))
 | 0 => fun _ _ _ _ _ _ _ _ _ _ _ _ _ => none
 | k + 1 => F61b (F61 k)
def P61l0 (rec61 : Int → Int → Int → Int → Int → Int → Int → Int → (List (I2 × PL)) → (List (I2 × Bool)) → Int → Int → (List I2) → Option ((List (I2 × PL)) × (List (I2 × Bool)))) (p0 p1 p2 p3 p4 p5 p6 p7 p10 p11 : Int) (p12 : List I2) (r : (List (I2 × PL)) × (List (I2 × Bool))) : Post := fun e a h => e = .exit 0 ∧ Wk Try.prog 5 7 a h (st 77 []) [cl 76 [.map (some 5)], cl 101 [.map (some 6)], cl 24 [iv p10, iv p11, sv 3 p12.length ANY], ab 57 e57 p12, cl 102 [.func (.func 61) ⟨[]⟩ ⟨[pt 0 0, pt 1 0, pt 2 0, pt 4 0]⟩], mb 83 u83 u85 r.1, mb 83 u83 u4 r.2]
theorem L61l0 (rec61 : Int → Int → Int → Int → Int → Int → Int → Int → (List (I2 × PL)) → (List (I2 × Bool)) → Int → Int → (List I2) → Option ((List (I2 × PL)) × (List (I2 × Bool)))) (p0 p1 p2 p3 p4 p5 p6 p7 p10 p11 : Int) (p12 : List I2) (hrec61 : ∀ (p0 : Int) (p1 : Int) (p2 : Int) (p3 : Int) (p4 : Int) (p5 : Int) (p6 : Int) (p7 : Int) (p8 : (List (I2 × PL))) (p9 : (List (I2 × Bool))) (p10 : Int) (p11 : Int) (p12 : List I2) (r : ((List (I2 × PL)) × (List (I2 × Bool)))), rec61 p0 p1 p2 p3 p4 p5 p6 p7 p8 p9 p10 p11 p12 = some r → ImpSim Try.prog 61 [ag [iv p0, iv p1], ag [iv p2, iv p3, iv p4, iv p5, iv p6, iv p7], pt 0 0, pt 1 0, pt 2 0, pt 4 0] 5 ((H61_8 p10 p11 p12) ++ [mb 83 u83 u85 p8, mb 83 u83 u4 p9]) (.tuple ⟨[]⟩) ((H61_8 p10 p11 p12) ++ [mb 83 u83 u85 r.1, mb 83 u83 u4 r.2])) (v21 : Int) (v22 : List (I2 × PL)) (v23 : List (I2 × Bool)) (r : (List (I2 × PL)) × (List (I2 × Bool))) (hF : F61l0 rec61 p0 p1 p2 p3 p4 p5 p6 p7 p10 p11 p12 v21 v22 v23 = some r) : TL Try.prog 5 7 c61.s2.s2.s2.s2.bd.bd (S61_10 p12 v21) (H61_5 p10 p11 p12 v22 v23 p0 p1 p2 p3 p4 p5 p6 p7) (P61l0 rec61 p0 p1 p2 p3 p4 p5 p6 p7 p10 p11 p12 r) := by
 refine F61l0.partial_correctness rec61 p0 p1 p2 p3 p4 p5 p6 p7 p10 p11 p12 (motive := fun v21 v22 v23 r => TL Try.prog 5 7 c61.s2.s2.s2.s2.bd.bd (S61_10 p12 v21) (H61_5 p10 p11 p12 v22 v23 p0 p1 p2 p3 p4 p5 p6 p7) (P61l0 rec61 p0 p1 p2 p3 p4 p5 p6 p7 p10 p11 p12 r)) ?_ v21 v22 v23 r hF
 clear hF r v21 v22 v23
 intro again ih v21 v22 v23 r hF
 refine TL.round (TS.sq (TS.rg (TI.ra 1 [3, 4, 5, 6, 7, 18, 19, 20, 21] (st 77 [(3, pt 1 0), (4, pt 2 0), (5, pt 4 0), (6, pt 7 0), (7, pt 8 0), (18, sv 3 p12.length ANY), (19, iv (p12.length : Int)), (20, iv v21), (21, .bool (decide (v21 < (p12.length : Int))))]) (TI.dn (NX.sq (TS.sq ?_))))))
 refine TS.cd (.tmp 21) (decide (v21 < (p12.length : Int))) (fun hc46 => ?_) (fun hc46 => ?_)
 · replace hF := of_pos hF hc46
   refine TS.sk (NX.sq (TS.sq (TS.bk 1 (TS.sq ?_))))
   obtain ⟨hg47, hF⟩ := of_guard hF
   obtain ⟨o48, h49, hF⟩ := of_do hF
   replace h49 := sj h49
   refine TS.rg (TI.ra 1 [3, 4, 5, 6, 7, 18, 19, 20, 22] (st 77 [(3, pt 1 0), (4, pt 2 0), (5, pt 4 0), (6, pt 7 0), (7, pt 8 0), (18, sv 3 p12.length ANY), (19, iv (p12.length : Int)), (20, iv v21), (22, iv v21)]) (TI.o { val := .pointer (some ⟨3, 0 + (Int.toNat v21) * 2, none⟩) } (q_ixS 3 0 ((Int.toNat v21) * 2) (by kernel_rfl) hg47) [3, 4, 5, 6, 7, 18, 19, 20, 22, 23] [0, 1, 2, 3, 4, 5, 6, 7, 8] (st 77 [(3, pt 1 0), (4, pt 2 0), (5, pt 4 0), (6, pt 7 0), (7, pt 8 0), (18, sv 3 p12.length ANY), (19, iv (p12.length : Int)), (20, iv v21), (22, iv v21), (23, .pointer (some ⟨3, 0 + (Int.toNat v21) * 2, none⟩))]) (H61_5 p10 p11 p12 v22 v23 p0 p1 p2 p3 p4 p5 p6 p7) (TI.o { val := ag [iv o48.1, iv o48.2] } (q_nAa Try.prog (H61_5 p10 p11 p12 v22 v23 p0 p1 p2 p3 p4 p5 p6 p7) 57 3 (0 + (Int.toNat v21) * 2) p12 e57 2 57 (Int.toNat v21) (0, 0) h49) [3, 4, 5, 6, 7, 18, 19, 20, 22, 24] [0, 1, 2, 3, 4, 5, 6, 7, 8] (st 77 [(3, pt 1 0), (4, pt 2 0), (5, pt 4 0), (6, pt 7 0), (7, pt 8 0), (18, sv 3 p12.length ANY), (19, iv (p12.length : Int)), (20, iv v21), (22, iv v21), (24, ag [iv o48.1, iv o48.2])]) (H61_5 p10 p11 p12 v22 v23 p0 p1 p2 p3 p4 p5 p6 p7) (TI.rn 3 [3, 4, 5, 6, 7, 8, 9, 18, 19, 20] [0, 1, 2, 3, 4, 5, 6, 7, 8, 9] (st 77 [(3, pt 1 0), (4, pt 2 0), (5, pt 4 0), (6, pt 7 0), (7, pt 8 0), (8, iv v21), (9, pt 9 0), (18, sv 3 p12.length ANY), (19, iv (p12.length : Int)), (20, iv v21)]) [cl 76 [.map (some 5)], cl 101 [.map (some 6)], cl 24 [iv p10, iv p11, sv 3 p12.length ANY], ab 57 e57 p12, cl 102 [.func (.func 61) ⟨[]⟩ ⟨[pt 0 0, pt 1 0, pt 2 0, pt 4 0]⟩], mb 83 u83 u85 v22, mb 83 u83 u4 v23, cl 83 [iv p0, iv p1], cl 85 [iv p2, iv p3, iv p4, iv p5, iv p6, iv p7], cl 57 [iv o48.1, iv o48.2]] (TI.dn (NX.sq (TS.sq ?_)))))))
   obtain ⟨r50, h51, hF⟩ := of_do hF
   refine TS.rg (TI.ra 3 [3, 4, 5, 6, 7, 8, 9, 18, 19, 20, 26, 28] (st 77 [(3, pt 1 0), (4, pt 2 0), (5, pt 4 0), (6, pt 7 0), (7, pt 8 0), (8, iv v21), (9, pt 9 0), (18, sv 3 p12.length ANY), (19, iv (p12.length : Int)), (20, iv v21), (26, ag [iv p10, iv p11, sv 3 p12.length ANY]), (28, iv o48.1)]) (TI.cp 55 [ag [iv p10, iv p11, sv 3 p12.length ANY], iv o48.1] (.tuple ⟨[ag [iv r50.1.1, iv r50.1.2], ag [iv r50.2.1, iv r50.2.2]]⟩) [] (PureSim.ren (hc := [ab 57 e57 p12]) (fun i => List.getD [(3, 0)] i (0, 0)) (C55 _ _ _ _ _ h51) (.ac (.nil _)) (.cons (Rn.agg' (.fl (.fl (.cons (Rn.any _ _ _ _ _ _ (nl rfl) rfl rfl (by decide)) .nil)))) (.fl .nil)) (.flat (by kernel_rfl)) newflat_nil) (TI.rn 7 [3, 4, 5, 6, 7, 8, 9, 10, 11, 18, 19, 20] [0, 1, 2, 3, 4, 5, 6, 7, 8, 9, 10, 11] (st 77 [(3, pt 1 0), (4, pt 2 0), (5, pt 4 0), (6, pt 7 0), (7, pt 8 0), (8, iv v21), (9, pt 9 0), (10, pt 10 0), (11, pt 11 0), (18, sv 3 p12.length ANY), (19, iv (p12.length : Int)), (20, iv v21)]) (H61_0 p10 p11 p12 v22 v23 p0 p1 p2 p3 p4 p5 p6 p7 o48 r50) (TI.dn (NX.sq (TS.bk 2 (TS.sq ?_)))))))
   obtain ⟨m55, hm84, hF⟩ := of_do hF
   have hK : NX Try.prog 5 7 [.sq c61.s2.s2.s2.s2.bd.bd.s2.s2.s1.bd.s2.s2.bd.s2, .bk 2, .bk 1, .sq c61.s2.s2.s2.s2.bd.bd.s2.s2.s2] (Rd Try.prog 5 7 c61.s2.s2.s2.s2.bd.bd (P61l0 rec61 p0 p1 p2 p3 p4 p5 p6 p7 p10 p11 p12 r)) .normal (st 77 [(3, pt 1 0), (4, pt 2 0), (5, pt 4 0), (6, pt 7 0), (7, pt 8 0), (8, iv v21), (9, pt 9 0), (10, pt 10 0), (11, pt 11 0), (18, sv 3 p12.length ANY), (19, iv (p12.length : Int)), (20, iv v21), (32, .bool m55)]) (H61_0 p10 p11 p12 v22 v23 p0 p1 p2 p3 p4 p5 p6 p7 o48 r50) := by
    refine NX.sq ?_
    obtain ⟨m67, hm68, hF⟩ := of_do hF
    have hK : NX Try.prog 5 7 [.bk 2, .bk 1, .sq c61.s2.s2.s2.s2.bd.bd.s2.s2.s2] (Rd Try.prog 5 7 c61.s2.s2.s2.s2.bd.bd (P61l0 rec61 p0 p1 p2 p3 p4 p5 p6 p7 p10 p11 p12 r)) .normal (S61_10 p12 v21) [cl 76 [.map (some 5)], cl 101 [.map (some 6)], cl 24 [iv p10, iv p11, sv 3 p12.length ANY], ab 57 e57 p12, cl 102 [.func (.func 61) ⟨[]⟩ ⟨[pt 0 0, pt 1 0, pt 2 0, pt 4 0]⟩], mb 83 u83 u85 m67.1, mb 83 u83 u4 m67.2, cl 83 [iv p0, iv p1], cl 85 [iv p2, iv p3, iv p4, iv p5, iv p6, iv p7]] := by
     refine NX.bk (NX.bk (NX.sq (TS.rg (TI.ra 2 [3, 4, 5, 6, 7, 18, 19, 20] (S61_9 p12 v21) (TI.dn ?_)))))
     exact Rd.again (a2 := (S61_9 p12 v21)) (h2 := [cl 76 [.map (some 5)], cl 101 [.map (some 6)], cl 24 [iv p10, iv p11, sv 3 p12.length ANY], ab 57 e57 p12, cl 102 [.func (.func 61) ⟨[]⟩ ⟨[pt 0 0, pt 1 0, pt 2 0, pt 4 0]⟩], mb 83 u83 u85 m67.1, mb 83 u83 u4 m67.2, cl 83 [iv p0, iv p1], cl 85 [iv p2, iv p3, iv p4, iv p5, iv p6, iv p7]]) (Wk.an [7, 8] (.lt (.cons (Rn.map _ (nl rfl)) .nil) (.lt (.cons (Rn.map _ (nl rfl)) .nil) (.lt (.fl (.fl (.sl .nil))) (.ac (.lt (.cons (Rn.func' .nil (.pp (.pp (.pp (.pp .nil))))) .nil) (.cons (At.blk (by kernel_rfl) (RnB.map _ _)) (.cons (At.blk (by kernel_rfl) (RnB.map _ _)) (.lt (.fl (.fl .nil)) (.lt (.fl (.fl (.fl (.fl (.fl (.fl .nil)))))) (.nil _)))))))))) [pt 1 0, pt 2 0, pt 4 0, pt 7 0, pt 8 0, sv 3 p12.length ANY, iv (p12.length : Int), iv (w64 (v21 + 1))] (.pp (.pp (.pp (.pp (.pp (.sl (.fl (.fl .nil))))))))) (ih (w64 (v21 + 1)) m67.1 m67.2 _ hF)
    clear hF
    have hF := hm68
    clear hm68
    refine TS.start ?_
    cases m55 with
    | true =>
     replace hF := of_pos hF rfl
     refine TS.cdT (.tmp 32) ?_
     obtain ⟨r69, h70, hF⟩ := of_do hF
     refine TS.rg (TI.rn 12 [3, 4, 5, 6, 7, 18, 19, 20, 41, 42, 52] [0, 1, 2, 3, 4, 5, 6, 7, 8] (st 77 [(3, pt 1 0), (4, pt 2 0), (5, pt 4 0), (6, pt 7 0), (7, pt 8 0), (18, sv 3 p12.length ANY), (19, iv (p12.length : Int)), (20, iv v21), (41, .func (.func 61) ⟨[]⟩ ⟨[pt 0 0, pt 1 0, pt 2 0, pt 4 0]⟩), (42, ag [iv r50.2.1, iv r50.2.2]), (52, ag [iv p2, iv p3, iv (w64 (o48.2 - p4)), iv v21, iv p0, iv p1])]) (H61_4 p10 p11 p12 v22 v23 p0 p1 p2 p3 p4 p5 p6 p7) (TI.icallM (g := 61) (args := [ag [iv r50.2.1, iv r50.2.2], ag [iv p2, iv p3, iv (w64 (o48.2 - p4)), iv v21, iv p0, iv p1], pt 0 0, pt 1 0, pt 2 0, pt 4 0]) (v := .tuple ⟨[]⟩) (by kernel_rfl) (ImpSim.frameB (n := 7) (h := (H61_4 p10 p11 p12 v22 v23 p0 p1 p2 p3 p4 p5 p6 p7)) (ro := (H61_8 p10 p11 p12)) (wr := [mb 83 u83 u85 v22, mb 83 u83 u4 v23]) (wr' := [mb 83 u83 u85 r69.1, mb 83 u83 u4 r69.2]) (fun i => List.getD [(0, 0), (1, 0), (2, 0), (3, 0), (4, 0), (5, 0), (6, 0)] i (0, 0)) (hrec61 _ _ _ _ _ _ _ _ _ _ _ _ _ _ h70) rfl rfl (.cons (At.blk (b1 := cl 76 [.map (some 5)]) (by kernel_rfl) (RnB.lit (.cons (Rn.map _ (nl rfl)) .nil))) (.cons (At.blk (b1 := cl 101 [.map (some 6)]) (by kernel_rfl) (RnB.lit (.cons (Rn.map _ (nl rfl)) .nil))) (.cons (At.blk (b1 := cl 24 [iv p10, iv p11, sv 3 p12.length ANY]) (by kernel_rfl) (RnB.lit (.fl (.fl (.cons (Rn.any _ _ _ _ _ _ (nl rfl) rfl rfl (by decide)) .nil))))) (.ac (.cons (At.blk (b1 := cl 102 [.func (.func 61) ⟨[]⟩ ⟨[pt 0 0, pt 1 0, pt 2 0, pt 4 0]⟩]) (by kernel_rfl) (RnB.lit (.cons (Rn.func' .nil (.pp (.pp (.pp (.pp .nil))))) .nil))) (.cons (At.blk (by kernel_rfl) (RnB.map _ _)) (.cons (At.blk (by kernel_rfl) (RnB.map _ _)) (.nil _)))))))) (by kernel_rfl) (by kernel_rfl) (by kernel_rfl) (.fl (.fl (.pp (.pp (.pp (.pp .nil)))))) (by kernel_rfl)) [3, 4, 5, 6, 7, 18, 19, 20] [0, 1, 2, 3, 4, 5, 6, 7, 8] (a2 := (S61_10 p12 v21)) (h2 := [cl 76 [.map (some 5)], cl 101 [.map (some 6)], cl 24 [iv p10, iv p11, sv 3 p12.length ANY], ab 57 e57 p12, cl 102 [.func (.func 61) ⟨[]⟩ ⟨[pt 0 0, pt 1 0, pt 2 0, pt 4 0]⟩], mb 83 u83 u85 r69.1, mb 83 u83 u4 r69.2, cl 83 [iv p0, iv p1], cl 85 [iv p2, iv p3, iv p4, iv p5, iv p6, iv p7], .dead, .dead, .dead]) (by kernel_rfl) (TI.dn ?_)))
     have hF := sj hF
     subst hF
     exact TS.weak (by exact (Wk.an [7, 8] (.lt (.cons (Rn.map _ (nl rfl)) .nil) (.lt (.cons (Rn.map _ (nl rfl)) .nil) (.lt (.fl (.fl (.sl .nil))) (.ac (.lt (.cons (Rn.func' .nil (.pp (.pp (.pp (.pp .nil))))) .nil) (.cons (At.blk (by kernel_rfl) (RnB.map _ _)) (.cons (At.blk (by kernel_rfl) (RnB.map _ _)) (.lt (.fl (.fl .nil)) (.lt (.fl (.fl (.fl (.fl (.fl (.fl .nil)))))) (.nil _)))))))))) [pt 1 0, pt 2 0, pt 4 0, pt 7 0, pt 8 0, sv 3 p12.length ANY, iv (p12.length : Int), iv v21] (.pp (.pp (.pp (.pp (.pp (.sl (.fl (.fl .nil)))))))))) hK
    | false =>
     replace hF := of_neg hF rfl
     refine TS.cdF (.tmp 32) (TS.sq ?_)
     obtain ⟨m74, hm83, hF⟩ := of_do hF
     have hK : NX Try.prog 5 7 [.sq c61.s2.s2.s2.s2.bd.bd.s2.s2.s1.bd.s2.s2.bd.s2.el.s2] (NX Try.prog 5 7 [.bk 2, .bk 1, .sq c61.s2.s2.s2.s2.bd.bd.s2.s2.s2] (Rd Try.prog 5 7 c61.s2.s2.s2.s2.bd.bd (P61l0 rec61 p0 p1 p2 p3 p4 p5 p6 p7 p10 p11 p12 r))) .normal (st 77 [(3, pt 1 0), (4, pt 2 0), (5, pt 4 0), (6, pt 7 0), (7, pt 8 0), (8, iv v21), (9, pt 9 0), (10, pt 10 0), (18, sv 3 p12.length ANY), (19, iv (p12.length : Int)), (20, iv v21), (54, .bool m74)]) (H61_1 p10 p11 p12 v22 v23 p0 p1 p2 p3 p4 p5 p6 p7 o48 r50) := by
      refine NX.sq ?_
      obtain ⟨m79, hm80, hF⟩ := of_do hF
      have hK : NX Try.prog 5 7 [] (NX Try.prog 5 7 [.bk 2, .bk 1, .sq c61.s2.s2.s2.s2.bd.bd.s2.s2.s2] (Rd Try.prog 5 7 c61.s2.s2.s2.s2.bd.bd (P61l0 rec61 p0 p1 p2 p3 p4 p5 p6 p7 p10 p11 p12 r))) .normal (S61_10 p12 v21) [cl 76 [.map (some 5)], cl 101 [.map (some 6)], cl 24 [iv p10, iv p11, sv 3 p12.length ANY], ab 57 e57 p12, cl 102 [.func (.func 61) ⟨[]⟩ ⟨[pt 0 0, pt 1 0, pt 2 0, pt 4 0]⟩], mb 83 u83 u85 m79.1, mb 83 u83 u4 m79.2, cl 83 [iv p0, iv p1], cl 85 [iv p2, iv p3, iv p4, iv p5, iv p6, iv p7]] := by
       have hF := sj hF
       subst hF
       exact TS.weak (by exact (Wk.an [7, 8] (.lt (.cons (Rn.map _ (nl rfl)) .nil) (.lt (.cons (Rn.map _ (nl rfl)) .nil) (.lt (.fl (.fl (.sl .nil))) (.ac (.lt (.cons (Rn.func' .nil (.pp (.pp (.pp (.pp .nil))))) .nil) (.cons (At.blk (by kernel_rfl) (RnB.map _ _)) (.cons (At.blk (by kernel_rfl) (RnB.map _ _)) (.lt (.fl (.fl .nil)) (.lt (.fl (.fl (.fl (.fl (.fl (.fl .nil)))))) (.nil _)))))))))) [pt 1 0, pt 2 0, pt 4 0, pt 7 0, pt 8 0, sv 3 p12.length ANY, iv (p12.length : Int), iv v21] (.pp (.pp (.pp (.pp (.pp (.sl (.fl (.fl .nil)))))))))) hK
      clear hF
      have hF := hm80
      clear hm80
      refine TS.start ?_
      cases m74 with
      | true =>
       replace hF := of_pos hF rfl
       refine TS.cdT (.tmp 54) ?_
       obtain ⟨r81, h82, hF⟩ := of_do hF
       refine TS.rg (TI.rn 12 [3, 4, 5, 6, 7, 18, 19, 20, 63, 64, 74] [0, 1, 2, 3, 4, 5, 6, 7, 8] (st 77 [(3, pt 1 0), (4, pt 2 0), (5, pt 4 0), (6, pt 7 0), (7, pt 8 0), (18, sv 3 p12.length ANY), (19, iv (p12.length : Int)), (20, iv v21), (63, .func (.func 61) ⟨[]⟩ ⟨[pt 0 0, pt 1 0, pt 2 0, pt 4 0]⟩), (64, ag [iv r50.1.1, iv r50.1.2]), (74, ag [iv p2, iv p3, iv (w64 (o48.2 - p4)), iv v21, iv p0, iv p1])]) (H61_4 p10 p11 p12 v22 v23 p0 p1 p2 p3 p4 p5 p6 p7) (TI.icallM (g := 61) (args := [ag [iv r50.1.1, iv r50.1.2], ag [iv p2, iv p3, iv (w64 (o48.2 - p4)), iv v21, iv p0, iv p1], pt 0 0, pt 1 0, pt 2 0, pt 4 0]) (v := .tuple ⟨[]⟩) (by kernel_rfl) (ImpSim.frameB (n := 7) (h := (H61_4 p10 p11 p12 v22 v23 p0 p1 p2 p3 p4 p5 p6 p7)) (ro := (H61_8 p10 p11 p12)) (wr := [mb 83 u83 u85 v22, mb 83 u83 u4 v23]) (wr' := [mb 83 u83 u85 r81.1, mb 83 u83 u4 r81.2]) (fun i => List.getD [(0, 0), (1, 0), (2, 0), (3, 0), (4, 0), (5, 0), (6, 0)] i (0, 0)) (hrec61 _ _ _ _ _ _ _ _ _ _ _ _ _ _ h82) rfl rfl (.cons (At.blk (b1 := cl 76 [.map (some 5)]) (by kernel_rfl) (RnB.lit (.cons (Rn.map _ (nl rfl)) .nil))) (.cons (At.blk (b1 := cl 101 [.map (some 6)]) (by kernel_rfl) (RnB.lit (.cons (Rn.map _ (nl rfl)) .nil))) (.cons (At.blk (b1 := cl 24 [iv p10, iv p11, sv 3 p12.length ANY]) (by kernel_rfl) (RnB.lit (.fl (.fl (.cons (Rn.any _ _ _ _ _ _ (nl rfl) rfl rfl (by decide)) .nil))))) (.ac (.cons (At.blk (b1 := cl 102 [.func (.func 61) ⟨[]⟩ ⟨[pt 0 0, pt 1 0, pt 2 0, pt 4 0]⟩]) (by kernel_rfl) (RnB.lit (.cons (Rn.func' .nil (.pp (.pp (.pp (.pp .nil))))) .nil))) (.cons (At.blk (by kernel_rfl) (RnB.map _ _)) (.cons (At.blk (by kernel_rfl) (RnB.map _ _)) (.nil _)))))))) (by kernel_rfl) (by kernel_rfl) (by kernel_rfl) (.fl (.fl (.pp (.pp (.pp (.pp .nil)))))) (by kernel_rfl)) [3, 4, 5, 6, 7, 18, 19, 20] [0, 1, 2, 3, 4, 5, 6, 7, 8] (a2 := (S61_10 p12 v21)) (h2 := [cl 76 [.map (some 5)], cl 101 [.map (some 6)], cl 24 [iv p10, iv p11, sv 3 p12.length ANY], ab 57 e57 p12, cl 102 [.func (.func 61) ⟨[]⟩ ⟨[pt 0 0, pt 1 0, pt 2 0, pt 4 0]⟩], mb 83 u83 u85 r81.1, mb 83 u83 u4 r81.2, cl 83 [iv p0, iv p1], cl 85 [iv p2, iv p3, iv p4, iv p5, iv p6, iv p7], .dead, .dead, .dead]) (by kernel_rfl) (TI.dn ?_)))
       have hF := sj hF
       subst hF
       exact TS.weak (by exact (Wk.an [7, 8] (.lt (.cons (Rn.map _ (nl rfl)) .nil) (.lt (.cons (Rn.map _ (nl rfl)) .nil) (.lt (.fl (.fl (.sl .nil))) (.ac (.lt (.cons (Rn.func' .nil (.pp (.pp (.pp (.pp .nil))))) .nil) (.cons (At.blk (by kernel_rfl) (RnB.map _ _)) (.cons (At.blk (by kernel_rfl) (RnB.map _ _)) (.lt (.fl (.fl .nil)) (.lt (.fl (.fl (.fl (.fl (.fl (.fl .nil)))))) (.nil _)))))))))) [pt 1 0, pt 2 0, pt 4 0, pt 7 0, pt 8 0, sv 3 p12.length ANY, iv (p12.length : Int), iv v21] (.pp (.pp (.pp (.pp (.pp (.sl (.fl (.fl .nil)))))))))) hK
      | false =>
       replace hF := of_neg hF rfl
       refine TS.cdF (.tmp 54) (TS.sk ?_)
       have hF := sj hF
       subst hF
       exact TS.weak (by exact (Wk.an [7, 8] (.lt (.cons (Rn.map _ (nl rfl)) .nil) (.lt (.cons (Rn.map _ (nl rfl)) .nil) (.lt (.fl (.fl (.sl .nil))) (.ac (.lt (.cons (Rn.func' .nil (.pp (.pp (.pp (.pp .nil))))) .nil) (.cons (At.blk (by kernel_rfl) (RnB.map _ _)) (.cons (At.blk (by kernel_rfl) (RnB.map _ _)) (.lt (.fl (.fl .nil)) (.lt (.fl (.fl (.fl (.fl (.fl (.fl .nil)))))) (.nil _)))))))))) [pt 1 0, pt 2 0, pt 4 0, pt 7 0, pt 8 0, sv 3 p12.length ANY, iv (p12.length : Int), iv v21] (.pp (.pp (.pp (.pp (.pp (.sl (.fl (.fl .nil)))))))))) hK
     rcases Bool.eq_false_or_eq_true (((p0 == r50.2.1) && ((p1 == r50.2.2) && true))) with hc71 | hc71
     · replace hm83 := of_pos hm83 hc71
       have hX := of_do hm83
       clear hm83
       obtain ⟨o72, h73, hm83⟩ := hX
       replace h73 := sj h73
       have hm83 := sj hm83
       subst hm83
       exact TS.rg (TI.rn 2 [3, 4, 5, 6, 7, 8, 9, 10, 18, 19, 20, 55, 56] [0, 1, 2, 3, 4, 5, 6, 7, 8, 9, 10] (S61_7 v21 p12 p0 p1 r50) (H61_1 p10 p11 p12 v22 v23 p0 p1 p2 p3 p4 p5 p6 p7 o48 r50) (TI.o { val := .bool true } (q_conv (e := ((p0 == r50.2.1) && ((p1 == r50.2.2) && true))) (b := true) (by kernel_rfl) hc71) [3, 4, 5, 6, 7, 8, 9, 10, 18, 19, 20, 57] [0, 1, 2, 3, 4, 5, 6, 7, 8, 9, 10] (st 77 [(3, pt 1 0), (4, pt 2 0), (5, pt 4 0), (6, pt 7 0), (7, pt 8 0), (8, iv v21), (9, pt 9 0), (10, pt 10 0), (18, sv 3 p12.length ANY), (19, iv (p12.length : Int)), (20, iv v21), (57, .bool true)]) (H61_1 p10 p11 p12 v22 v23 p0 p1 p2 p3 p4 p5 p6 p7 o48 r50) (TI.ra 3 [3, 4, 5, 6, 7, 8, 9, 10, 18, 19, 20, 58, 59, 60] (st 77 [(3, pt 1 0), (4, pt 2 0), (5, pt 4 0), (6, pt 7 0), (7, pt 8 0), (8, iv v21), (9, pt 9 0), (10, pt 10 0), (18, sv 3 p12.length ANY), (19, iv (p12.length : Int)), (20, iv v21), (58, .bool true), (59, .map (some 6)), (60, ag [iv r50.1.1, iv r50.1.2])]) (TI.o { val := .bool o72 } (q_gN Try.prog (H61_1 p10 p11 p12 v22 v23 p0 p1 p2 p3 p4 p5 p6 p7 o48 r50) 101 6 v23 (r50.1.1, r50.1.2) 83 4 u83 u4 (ag [iv r50.1.1, iv r50.1.2]) false u83_fit u83_eq h73) [3, 4, 5, 6, 7, 8, 9, 10, 18, 19, 20, 58, 61] [0, 1, 2, 3, 4, 5, 6, 7, 8, 9, 10] (st 77 [(3, pt 1 0), (4, pt 2 0), (5, pt 4 0), (6, pt 7 0), (7, pt 8 0), (8, iv v21), (9, pt 9 0), (10, pt 10 0), (18, sv 3 p12.length ANY), (19, iv (p12.length : Int)), (20, iv v21), (58, .bool true), (61, .bool o72)]) (H61_1 p10 p11 p12 v22 v23 p0 p1 p2 p3 p4 p5 p6 p7 o48 r50) (TI.ra 2 [3, 4, 5, 6, 7, 8, 9, 10, 18, 19, 20, 54] (st 77 [(3, pt 1 0), (4, pt 2 0), (5, pt 4 0), (6, pt 7 0), (7, pt 8 0), (8, iv v21), (9, pt 9 0), (10, pt 10 0), (18, sv 3 p12.length ANY), (19, iv (p12.length : Int)), (20, iv v21), (54, .bool o72)]) (TI.dn hK))))))
     replace hm83 := of_neg hm83 hc71
     have hm83 := sj hm83
     subst hm83
     exact TS.rg (TI.rn 2 [3, 4, 5, 6, 7, 8, 9, 10, 18, 19, 20, 55, 56] [0, 1, 2, 3, 4, 5, 6, 7, 8, 9, 10] (S61_7 v21 p12 p0 p1 r50) (H61_1 p10 p11 p12 v22 v23 p0 p1 p2 p3 p4 p5 p6 p7 o48 r50) (TI.o { val := .bool false } (q_conv (e := ((p0 == r50.2.1) && ((p1 == r50.2.2) && true))) (b := false) (by kernel_rfl) hc71) [3, 4, 5, 6, 7, 8, 9, 10, 18, 19, 20, 57] [0, 1, 2, 3, 4, 5, 6, 7, 8, 9, 10] (st 77 [(3, pt 1 0), (4, pt 2 0), (5, pt 4 0), (6, pt 7 0), (7, pt 8 0), (8, iv v21), (9, pt 9 0), (10, pt 10 0), (18, sv 3 p12.length ANY), (19, iv (p12.length : Int)), (20, iv v21), (57, .bool false)]) (H61_1 p10 p11 p12 v22 v23 p0 p1 p2 p3 p4 p5 p6 p7 o48 r50) (TI.ra 6 [3, 4, 5, 6, 7, 8, 9, 10, 18, 19, 20, 54] (st 77 [(3, pt 1 0), (4, pt 2 0), (5, pt 4 0), (6, pt 7 0), (7, pt 8 0), (8, iv v21), (9, pt 9 0), (10, pt 10 0), (18, sv 3 p12.length ANY), (19, iv (p12.length : Int)), (20, iv v21), (54, .bool false)]) (TI.dn hK))))
   rcases Bool.eq_false_or_eq_true (((p0 == r50.1.1) && ((p1 == r50.1.2) && true))) with hc52 | hc52
   · replace hm84 := of_pos hm84 hc52
     have hX := of_do hm84
     clear hm84
     obtain ⟨o53, h54, hm84⟩ := hX
     replace h54 := sj h54
     have hm84 := sj hm84
     subst hm84
     exact TS.rg (TI.ra 2 [3, 4, 5, 6, 7, 8, 9, 10, 11, 18, 19, 20, 33, 34] (S61_6 v21 p12 p0 p1 r50) (TI.o { val := .bool true } (q_conv (e := ((p0 == r50.1.1) && ((p1 == r50.1.2) && true))) (b := true) (by kernel_rfl) hc52) [3, 4, 5, 6, 7, 8, 9, 10, 11, 18, 19, 20, 35] [0, 1, 2, 3, 4, 5, 6, 7, 8, 9, 10, 11] (st 77 [(3, pt 1 0), (4, pt 2 0), (5, pt 4 0), (6, pt 7 0), (7, pt 8 0), (8, iv v21), (9, pt 9 0), (10, pt 10 0), (11, pt 11 0), (18, sv 3 p12.length ANY), (19, iv (p12.length : Int)), (20, iv v21), (35, .bool true)]) (H61_0 p10 p11 p12 v22 v23 p0 p1 p2 p3 p4 p5 p6 p7 o48 r50) (TI.ra 3 [3, 4, 5, 6, 7, 8, 9, 10, 11, 18, 19, 20, 36, 37, 38] (st 77 [(3, pt 1 0), (4, pt 2 0), (5, pt 4 0), (6, pt 7 0), (7, pt 8 0), (8, iv v21), (9, pt 9 0), (10, pt 10 0), (11, pt 11 0), (18, sv 3 p12.length ANY), (19, iv (p12.length : Int)), (20, iv v21), (36, .bool true), (37, .map (some 6)), (38, ag [iv r50.2.1, iv r50.2.2])]) (TI.o { val := .bool o53 } (q_gN Try.prog (H61_0 p10 p11 p12 v22 v23 p0 p1 p2 p3 p4 p5 p6 p7 o48 r50) 101 6 v23 (r50.2.1, r50.2.2) 83 4 u83 u4 (ag [iv r50.2.1, iv r50.2.2]) false u83_fit u83_eq h54) [3, 4, 5, 6, 7, 8, 9, 10, 11, 18, 19, 20, 36, 39] [0, 1, 2, 3, 4, 5, 6, 7, 8, 9, 10, 11] (st 77 [(3, pt 1 0), (4, pt 2 0), (5, pt 4 0), (6, pt 7 0), (7, pt 8 0), (8, iv v21), (9, pt 9 0), (10, pt 10 0), (11, pt 11 0), (18, sv 3 p12.length ANY), (19, iv (p12.length : Int)), (20, iv v21), (36, .bool true), (39, .bool o53)]) (H61_0 p10 p11 p12 v22 v23 p0 p1 p2 p3 p4 p5 p6 p7 o48 r50) (TI.ra 2 [3, 4, 5, 6, 7, 8, 9, 10, 11, 18, 19, 20, 32] (st 77 [(3, pt 1 0), (4, pt 2 0), (5, pt 4 0), (6, pt 7 0), (7, pt 8 0), (8, iv v21), (9, pt 9 0), (10, pt 10 0), (11, pt 11 0), (18, sv 3 p12.length ANY), (19, iv (p12.length : Int)), (20, iv v21), (32, .bool o53)]) (TI.dn hK))))))
   replace hm84 := of_neg hm84 hc52
   have hm84 := sj hm84
   subst hm84
   exact TS.rg (TI.ra 2 [3, 4, 5, 6, 7, 8, 9, 10, 11, 18, 19, 20, 33, 34] (S61_6 v21 p12 p0 p1 r50) (TI.o { val := .bool false } (q_conv (e := ((p0 == r50.1.1) && ((p1 == r50.1.2) && true))) (b := false) (by kernel_rfl) hc52) [3, 4, 5, 6, 7, 8, 9, 10, 11, 18, 19, 20, 35] [0, 1, 2, 3, 4, 5, 6, 7, 8, 9, 10, 11] (st 77 [(3, pt 1 0), (4, pt 2 0), (5, pt 4 0), (6, pt 7 0), (7, pt 8 0), (8, iv v21), (9, pt 9 0), (10, pt 10 0), (11, pt 11 0), (18, sv 3 p12.length ANY), (19, iv (p12.length : Int)), (20, iv v21), (35, .bool false)]) (H61_0 p10 p11 p12 v22 v23 p0 p1 p2 p3 p4 p5 p6 p7 o48 r50) (TI.ra 6 [3, 4, 5, 6, 7, 8, 9, 10, 11, 18, 19, 20, 32] (st 77 [(3, pt 1 0), (4, pt 2 0), (5, pt 4 0), (6, pt 7 0), (7, pt 8 0), (8, iv v21), (9, pt 9 0), (10, pt 10 0), (11, pt 11 0), (18, sv 3 p12.length ANY), (19, iv (p12.length : Int)), (20, iv v21), (32, .bool false)]) (TI.dn hK))))
 replace hF := of_neg hF hc46
 refine TS.ex 0 (NX.sqX ?_)
 have hF := sj hF
 subst hF
 exact Rd.out (e := .exit 0) (by intro h; cases h) (And.intro rfl (Wk.an [] (.lt (.cons (Rn.map _ (nl rfl)) .nil) (.lt (.cons (Rn.map _ (nl rfl)) .nil) (.lt (.fl (.fl (.sl .nil))) (.ac (.lt (.cons (Rn.func' .nil (.pp (.pp (.pp (.pp .nil))))) .nil) (.cons (At.blk (by kernel_rfl) (RnB.map _ _)) (.cons (At.blk (by kernel_rfl) (RnB.map _ _)) (.nil _)))))))) [] .nil))
theorem B61 (rec61 : Int → Int → Int → Int → Int → Int → Int → Int → (List (I2 × PL)) → (List (I2 × Bool)) → Int → Int → (List I2) → Option ((List (I2 × PL)) × (List (I2 × Bool)))) (hrec61 : ∀ (p0 : Int) (p1 : Int) (p2 : Int) (p3 : Int) (p4 : Int) (p5 : Int) (p6 : Int) (p7 : Int) (p8 : (List (I2 × PL))) (p9 : (List (I2 × Bool))) (p10 : Int) (p11 : Int) (p12 : List I2) (r : ((List (I2 × PL)) × (List (I2 × Bool)))), rec61 p0 p1 p2 p3 p4 p5 p6 p7 p8 p9 p10 p11 p12 = some r → ImpSim Try.prog 61 [ag [iv p0, iv p1], ag [iv p2, iv p3, iv p4, iv p5, iv p6, iv p7], pt 0 0, pt 1 0, pt 2 0, pt 4 0] 5 ((H61_8 p10 p11 p12) ++ [mb 83 u83 u85 p8, mb 83 u83 u4 p9]) (.tuple ⟨[]⟩) ((H61_8 p10 p11 p12) ++ [mb 83 u83 u85 r.1, mb 83 u83 u4 r.2])) (p0 p1 p2 p3 p4 p5 p6 p7 : Int) (p8 : List (I2 × PL)) (p9 : List (I2 × Bool)) (p10 p11 : Int) (p12 : List I2) (r : (List (I2 × PL)) × (List (I2 × Bool))) (hF : F61b rec61 p0 p1 p2 p3 p4 p5 p6 p7 p8 p9 p10 p11 p12 = some r) : TS Try.prog 5 7 c61 (st 77 [(0, ag [iv p0, iv p1]), (1, ag [iv p2, iv p3, iv p4, iv p5, iv p6, iv p7]), (2, pt 0 0), (3, pt 1 0), (4, pt 2 0), (5, pt 4 0)]) [cl 76 [.map (some 5)], cl 101 [.map (some 6)], cl 24 [iv p10, iv p11, sv 3 p12.length ANY], ab 57 e57 p12, cl 102 [.func (.func 61) ⟨[]⟩ ⟨[pt 0 0, pt 1 0, pt 2 0, pt 4 0]⟩], mb 83 u83 u85 p8, mb 83 u83 u4 p9] (NX Try.prog 5 7 [] (ImpFin [cl 76 [.map (some 5)], cl 101 [.map (some 6)], cl 24 [iv p10, iv p11, sv 3 p12.length ANY], ab 57 e57 p12, cl 102 [.func (.func 61) ⟨[]⟩ ⟨[pt 0 0, pt 1 0, pt 2 0, pt 4 0]⟩], mb 83 u83 u85 r.1, mb 83 u83 u4 r.2])) := by
 unfold F61b at hF
 refine TS.sq (TS.rg (TI.rn 2 [2, 3, 4, 5, 6, 7] [0, 1, 2, 3, 4, 5, 6, 7, 8] (st 77 [(2, pt 0 0), (3, pt 1 0), (4, pt 2 0), (5, pt 4 0), (6, pt 7 0), (7, pt 8 0)]) [cl 76 [.map (some 5)], cl 101 [.map (some 6)], cl 24 [iv p10, iv p11, sv 3 p12.length ANY], ab 57 e57 p12, cl 102 [.func (.func 61) ⟨[]⟩ ⟨[pt 0 0, pt 1 0, pt 2 0, pt 4 0]⟩], mb 83 u83 u85 p8, mb 83 u83 u4 p9, cl 83 [iv p0, iv p1], cl 85 [iv p2, iv p3, iv p4, iv p5, iv p6, iv p7]] (TI.dn (NX.sq (TS.sq (TS.rg (TI.ra 3 [3, 4, 5, 6, 7, 12, 13, 14] (st 77 [(3, pt 1 0), (4, pt 2 0), (5, pt 4 0), (6, pt 7 0), (7, pt 8 0), (12, .map (some 5)), (13, ag [iv p0, iv p1]), (14, ag [iv p2, iv p3, iv p4, iv p5, iv p6, iv p7])]) (TI.o { val := undef, upd := some (5, .map 83 (List.map (mEnc u83 u85) (mput p8 (p0, p1) ((p2, p3), p4, p5, (p6, p7))))) } (q_put (P := Try.prog) (hp := [cl 76 [.map (some 5)], cl 101 [.map (some 6)], cl 24 [iv p10, iv p11, sv 3 p12.length ANY], ab 57 e57 p12, cl 102 [.func (.func 61) ⟨[]⟩ ⟨[pt 0 0, pt 1 0, pt 2 0, pt 4 0]⟩], mb 83 u83 u85 p8, mb 83 u83 u4 p9, cl 83 [iv p0, iv p1], cl 85 [iv p2, iv p3, iv p4, iv p5, iv p6, iv p7]]) (r := 5) (l := p8) (k := (p0, p1)) (kt := 83) (et := 85) (kv := u83) (vv := u85) (key := ag [iv p0, iv p1]) (base := 5) (t := 76) (val := ag [iv p2, iv p3, iv p4, iv p5, iv p6, iv p7]) (y := ((p2, p3), p4, p5, (p6, p7))) (by kernel_rfl) rfl rfl (by decide) (by kernel_rfl) (by kernel_rfl) (by kernel_rfl) u83_fit u83_eq u85_flat) [3, 4, 5, 6, 7] [0, 1, 2, 3, 4, 5, 6, 7, 8] (st 77 [(3, pt 1 0), (4, pt 2 0), (5, pt 4 0), (6, pt 7 0), (7, pt 8 0)]) (H61_3 p10 p11 p12 p8 p0 p1 p2 p3 p4 p5 p6 p7 p9) ?_))))))))
 refine TI.dn (NX.sq (TS.sq (TS.rg (TI.ra 2 [3, 4, 5, 6, 7, 15, 16] (st 77 [(3, pt 1 0), (4, pt 2 0), (5, pt 4 0), (6, pt 7 0), (7, pt 8 0), (15, .map (some 6)), (16, ag [iv p0, iv p1])]) (TI.o { val := .tuple ⟨[]⟩, upd := some (6, .map 83 (List.map (mEnc u83 u4) (mdel p9 (p0, p1)))) } (q_del (P := Try.prog) (hp := (H61_3 p10 p11 p12 p8 p0 p1 p2 p3 p4 p5 p6 p7 p9)) (r := 6) (l := p9) (k := (p0, p1)) (kt := 83) (et := 4) (kv := u83) (vv := u4) (key := ag [iv p0, iv p1]) (base := 5) (t := 101) (by kernel_rfl) rfl (by decide) (by kernel_rfl) (by kernel_rfl) (by kernel_rfl) u83_fit u83_eq) [3, 4, 5, 6, 7] [0, 1, 2, 3, 4, 5, 6, 7, 8] (st 77 [(3, pt 1 0), (4, pt 2 0), (5, pt 4 0), (6, pt 7 0), (7, pt 8 0)]) (H61_2 p10 p11 p12 p8 p0 p1 p2 p3 p4 p5 p6 p7 p9) (TI.dn (NX.sq (TS.sq ?_))))))))
 refine TS.rg (TI.ra 4 [3, 4, 5, 6, 7, 18, 19, 20] (S61_11 p12) (TI.dn (NX.sq (TS.bk 0 ?_))))
 obtain ⟨r85, h86, hF⟩ := of_do hF
 refine TS.lp (TL.weak (a2 := (S61_11 p12)) (h2 := (H61_2 p10 p11 p12 p8 p0 p1 p2 p3 p4 p5 p6 p7 p9)) (Wk.an [7, 8] (.lt (.cons (Rn.map _ (nl rfl)) .nil) (.lt (.cons (Rn.map _ (nl rfl)) .nil) (.lt (.fl (.fl (.sl .nil))) (.ac (.lt (.cons (Rn.func' .nil (.pp (.pp (.pp (.pp .nil))))) .nil) (.cons (At.blk (by kernel_rfl) (RnB.map _ _)) (.cons (At.blk (by kernel_rfl) (RnB.map _ _)) (.lt (.fl (.fl .nil)) (.lt (.fl (.fl (.fl (.fl (.fl (.fl .nil)))))) (.nil _)))))))))) [pt 1 0, pt 2 0, pt 4 0, pt 7 0, pt 8 0, sv 3 p12.length ANY, iv (p12.length : Int), iv 0] (.pp (.pp (.pp (.pp (.pp (.sl (.fl (.fl .nil))))))))) (TL.post (L61l0 rec61 p0 p1 p2 p3 p4 p5 p6 p7 p10 p11 p12 hrec61 0 (mput p8 (p0, p1) ((p2, p3), p4, p5, (p6, p7))) (mdel p9 (p0, p1)) r85 h86) ?_))
 rintro e a1 h1 hp
 obtain ⟨rfl, hw⟩ := hp
 refine ⟨(st 77 []), [cl 76 [.map (some 5)], cl 101 [.map (some 6)], cl 24 [iv p10, iv p11, sv 3 p12.length ANY], ab 57 e57 p12, cl 102 [.func (.func 61) ⟨[]⟩ ⟨[pt 0 0, pt 1 0, pt 2 0, pt 4 0]⟩], mb 83 u83 u85 r85.1, mb 83 u83 u4 r85.2], (NX.bkX ?_), hw⟩
 have hF := sj hF
 subst hF
 exact ⟨.inl rfl, rfl, [], by kernel_rfl⟩
theorem C61 (k : Nat) : ∀ (p0 : Int) (p1 : Int) (p2 : Int) (p3 : Int) (p4 : Int) (p5 : Int) (p6 : Int) (p7 : Int) (p8 : (List (I2 × PL))) (p9 : (List (I2 × Bool))) (p10 : Int) (p11 : Int) (p12 : List I2) (r : ((List (I2 × PL)) × (List (I2 × Bool)))), F61 k p0 p1 p2 p3 p4 p5 p6 p7 p8 p9 p10 p11 p12 = some r → ImpSim Try.prog 61 [ag [iv p0, iv p1], ag [iv p2, iv p3, iv p4, iv p5, iv p6, iv p7], pt 0 0, pt 1 0, pt 2 0, pt 4 0] 5 ((H61_8 p10 p11 p12) ++ [mb 83 u83 u85 p8, mb 83 u83 u4 p9]) (.tuple ⟨[]⟩) ((H61_8 p10 p11 p12) ++ [mb 83 u83 u85 r.1, mb 83 u83 u4 r.2]) := by
 induction k with
 | zero => intro p0 p1 p2 p3 p4 p5 p6 p7 p8 p9 p10 p11 p12 r hF; cases (show (none : Option ((List (I2 × PL)) × (List (I2 × Bool)))) = some r from hF)
 | succ k ih =>
  intro p0 p1 p2 p3 p4 p5 p6 p7 p8 p9 p10 p11 p12 r hF
  exact ImpSim.of_Fin Try.func61 (c := c61) (by kernel_rfl) (by kernel_rfl) rfl 5 7 rfl rfl (by decide) (selfOk_cons (fun n hn => .inr (RnB.lit (.cons (Rn.map _ (Nat.lt_of_lt_of_le (nl rfl) hn)) .nil))) (selfOk_cons (fun n hn => .inr (RnB.lit (.cons (Rn.map _ (Nat.lt_of_lt_of_le (nl rfl) hn)) .nil))) (selfOk_cons (fun n hn => .inr (RnB.lit (.fl (.fl (.cons (Rn.slice0 _ _ _ _ (Nat.lt_of_lt_of_le (nl rfl) hn) rfl) .nil))))) (selfOk_cons (selfOk_flat (accB_flat (fun _ => rfl))) (selfOk_cons (fun n hn => .inr (RnB.lit (.cons (Rn.func' .nil (.cons (Rn.ptr _ _ _ (Nat.lt_of_lt_of_le (nl rfl) hn) rfl) (.cons (Rn.ptr _ _ _ (Nat.lt_of_lt_of_le (nl rfl) hn) rfl) (.cons (Rn.ptr _ _ _ (Nat.lt_of_lt_of_le (nl rfl) hn) rfl) (.cons (Rn.ptr _ _ _ (Nat.lt_of_lt_of_le (nl rfl) hn) rfl) .nil))))) .nil))) (selfOk_cons (selfOk_flat (.inr rfl)) (selfOk_cons (selfOk_flat (.inr rfl)) selfOk_nil))))))) [0, 1, 2, 3, 4, 5] (by kernel_rfl) (B61 (F61 k) ih p0 p1 p2 p3 p4 p5 p6 p7 p8 p9 p10 p11 p12 r hF)
noncomputable def c49 : Code := Try.f49.code
noncomputable def H49_0 (p2 : List I2) (p0 p1 : Int) (r15 : List (I2 × Bool)) : List Blk := [ab 57 e57 p2, cl 24 [iv p0, iv p1, sv 0 p2.length ANY], mb 83 u83 u4 r15, .map 83 (List.map (mEnc u83 u85) ([] : (List (I2 × PL)))), cl 101 [.map (some 2)], cl 76 [.map (some 3)], .dead, .mark, .dead, cl 102 [.func (.func 61) ⟨[]⟩ ⟨[pt 5 0, pt 4 0, pt 1 0, pt 9 0]⟩], cl 24 [iv p0, iv p1, sv 0 p2.length ANY], .mark, .loop (st 29 [(2, .map none), (3, pt 4 0), (4, pt 5 0), (6, pt 9 0), (17, .func (.func 60) ⟨[]⟩ ⟨[pt 10 0]⟩)]).tmps [18] c49.s2.s2.s2.s2.s2.s1.s2.bd.ras c49.s2.s2.s2.s2.s2.s1.s2.bd.rbd .ready none]
noncomputable def H49_1 (p2 : List I2) (p0 p1 : Int) (v23 : List (I2 × Bool)) (v24 : List (I2 × PL)) (v22 : Int) : List Blk := [ab 57 e57 p2, cl 24 [iv p0, iv p1, sv 0 p2.length ANY], mb 83 u83 u4 v23, mb 83 u83 u85 v24, cl 101 [.map (some 2)], cl 76 [.map (some 3)], .dead, .mark, .dead, cl 102 [.func (.func 61) ⟨[]⟩ ⟨[pt 5 0, pt 4 0, pt 1 0, pt 9 0]⟩], cl 24 [iv p0, iv p1, sv 0 p2.length ANY], .mark, .loop (st 29 [(2, .map none), (3, pt 4 0), (4, pt 5 0), (6, pt 9 0), (17, .func (.func 60) ⟨[]⟩ ⟨[pt 10 0]⟩)]).tmps [18] c49.s2.s2.s2.s2.s2.s1.s2.bd.ras c49.s2.s2.s2.s2.s2.s1.s2.bd.rbd .ready none, cl 83 [iv 0, iv v22]]
noncomputable def H49_2 (p2 : List I2) (p0 p1 : Int) (v45 : List (I2 × Bool)) (v46 : List (I2 × PL)) (v44 : Int) : List Blk := [ab 57 e57 p2, cl 24 [iv p0, iv p1, sv 0 p2.length ANY], mb 83 u83 u4 v45, mb 83 u83 u85 v46, cl 101 [.map (some 2)], cl 76 [.map (some 3)], .dead, .mark, .dead, cl 102 [.func (.func 61) ⟨[]⟩ ⟨[pt 5 0, pt 4 0, pt 1 0, pt 9 0]⟩], cl 24 [iv p0, iv p1, sv 0 p2.length ANY], .mark, .loop (st 29 [(2, .map none), (3, pt 4 0), (4, pt 5 0), (6, pt 9 0), (17, .func (.func 60) ⟨[]⟩ ⟨[pt 10 0]⟩)]).tmps [18] c49.s2.s2.s2.s2.s2.s1.s2.bd.ras c49.s2.s2.s2.s2.s2.s1.s2.bd.rbd .ready none, cl 83 [iv 1, iv v44]]
noncomputable def H49_3 (p2 : List I2) (p0 p1 : Int) (v23 : List (I2 × Bool)) (v24 : List (I2 × PL)) (v22 : Int) : List Blk := [ab 57 e57 p2, cl 24 [iv p0, iv p1, sv 0 p2.length ANY], mb 83 u83 u4 v23, mb 83 u83 u85 v24, cl 101 [.map (some 2)], cl 76 [.map (some 3)], .dead, .mark, .dead, cl 102 [.func (.func 61) ⟨[]⟩ ⟨[pt 5 0, pt 4 0, pt 1 0, pt 9 0]⟩], cl 24 [iv p0, iv p1, sv 0 p2.length ANY], .mark, .loop (st 29 [(2, .map none), (3, pt 4 0), (4, pt 5 0), (6, pt 9 0), (17, .func (.func 60) ⟨[]⟩ ⟨[pt 10 0]⟩)]).tmps [18] c49.s2.s2.s2.s2.s2.s1.s2.bd.ras c49.s2.s2.s2.s2.s2.s1.s2.bd.rbd .busy none, cl 83 [iv 0, iv v22]]
noncomputable def H49_4 (p2 : List I2) (p0 p1 : Int) (v45 : List (I2 × Bool)) (v46 : List (I2 × PL)) (v44 : Int) : List Blk := [ab 57 e57 p2, cl 24 [iv p0, iv p1, sv 0 p2.length ANY], mb 83 u83 u4 v45, mb 83 u83 u85 v46, cl 101 [.map (some 2)], cl 76 [.map (some 3)], .dead, .mark, .dead, cl 102 [.func (.func 61) ⟨[]⟩ ⟨[pt 5 0, pt 4 0, pt 1 0, pt 9 0]⟩], cl 24 [iv p0, iv p1, sv 0 p2.length ANY], .mark, .loop (st 29 [(2, .map none), (3, pt 4 0), (4, pt 5 0), (6, pt 9 0), (17, .func (.func 60) ⟨[]⟩ ⟨[pt 10 0]⟩)]).tmps [18] c49.s2.s2.s2.s2.s2.s1.s2.bd.ras c49.s2.s2.s2.s2.s2.s1.s2.bd.rbd .busy none, cl 83 [iv 1, iv v44]]
noncomputable def H49_5 (p2 : List I2) (p0 p1 : Int) (r35 : (List (I2 × PL)) × (List (I2 × Bool))) : List Blk := [ab 57 e57 p2, cl 24 [iv p0, iv p1, sv 0 p2.length ANY], mb 83 u83 u4 r35.2, mb 83 u83 u85 r35.1, cl 101 [.map (some 2)], cl 76 [.map (some 3)], .dead, .mark, .dead, cl 102 [.func (.func 61) ⟨[]⟩ ⟨[pt 5 0, pt 4 0, pt 1 0, pt 9 0]⟩], cl 24 [iv p0, iv p1, sv 0 p2.length ANY], .mark, .loop (st 29 [(2, .map none), (3, pt 4 0), (4, pt 5 0), (6, pt 9 0), (17, .func (.func 60) ⟨[]⟩ ⟨[pt 10 0]⟩)]).tmps [18] c49.s2.s2.s2.s2.s2.s1.s2.bd.ras c49.s2.s2.s2.s2.s2.s1.s2.bd.rbd .ready none, .dead]
noncomputable def H49_6 (p2 : List I2) (p0 p1 : Int) (r57 : (List (I2 × PL)) × (List (I2 × Bool))) : List Blk := [ab 57 e57 p2, cl 24 [iv p0, iv p1, sv 0 p2.length ANY], mb 83 u83 u4 r57.2, mb 83 u83 u85 r57.1, cl 101 [.map (some 2)], cl 76 [.map (some 3)], .dead, .mark, .dead, cl 102 [.func (.func 61) ⟨[]⟩ ⟨[pt 5 0, pt 4 0, pt 1 0, pt 9 0]⟩], cl 24 [iv p0, iv p1, sv 0 p2.length ANY], .mark, .loop (st 29 [(2, .map none), (3, pt 4 0), (4, pt 5 0), (6, pt 9 0), (17, .func (.func 60) ⟨[]⟩ ⟨[pt 10 0]⟩)]).tmps [18] c49.s2.s2.s2.s2.s2.s1.s2.bd.ras c49.s2.s2.s2.s2.s2.s1.s2.bd.rbd .ready none, .dead]
noncomputable def H49_7 (p2 : List I2) (p0 p1 : Int) (v23 : List (I2 × Bool)) (v24 : List (I2 × PL)) : List Blk := [ab 57 e57 p2, cl 24 [iv p0, iv p1, sv 0 p2.length ANY], mb 83 u83 u4 v23, mb 83 u83 u85 v24, cl 101 [.map (some 2)], cl 76 [.map (some 3)], .dead, .mark, .dead, cl 102 [.func (.func 61) ⟨[]⟩ ⟨[pt 5 0, pt 4 0, pt 1 0, pt 9 0]⟩], cl 24 [iv p0, iv p1, sv 0 p2.length ANY], .mark, .loop (st 29 [(2, .map none), (3, pt 4 0), (4, pt 5 0), (6, pt 9 0), (17, .func (.func 60) ⟨[]⟩ ⟨[pt 10 0]⟩)]).tmps [18] c49.s2.s2.s2.s2.s2.s1.s2.bd.ras c49.s2.s2.s2.s2.s2.s1.s2.bd.rbd .busy none, .dead]
noncomputable def H49_8 (p2 : List I2) (p0 p1 : Int) (v45 : List (I2 × Bool)) (v46 : List (I2 × PL)) : List Blk := [ab 57 e57 p2, cl 24 [iv p0, iv p1, sv 0 p2.length ANY], mb 83 u83 u4 v45, mb 83 u83 u85 v46, cl 101 [.map (some 2)], cl 76 [.map (some 3)], .dead, .mark, .dead, cl 102 [.func (.func 61) ⟨[]⟩ ⟨[pt 5 0, pt 4 0, pt 1 0, pt 9 0]⟩], cl 24 [iv p0, iv p1, sv 0 p2.length ANY], .mark, .loop (st 29 [(2, .map none), (3, pt 4 0), (4, pt 5 0), (6, pt 9 0), (17, .func (.func 60) ⟨[]⟩ ⟨[pt 10 0]⟩)]).tmps [18] c49.s2.s2.s2.s2.s2.s1.s2.bd.ras c49.s2.s2.s2.s2.s2.s1.s2.bd.rbd .busy none, .dead]
noncomputable def H49_9 (p2 : List I2) (p0 p1 : Int) (r37 : (List (I2 × Bool)) × (List (I2 × PL))) : List Blk := [ab 57 e57 p2, cl 24 [iv p0, iv p1, sv 0 p2.length ANY], mb 83 u83 u4 r37.1, mb 83 u83 u85 r37.2, cl 101 [.map (some 2)], cl 76 [.map (some 3)], .dead, .mark, .dead, cl 102 [.func (.func 61) ⟨[]⟩ ⟨[pt 5 0, pt 4 0, pt 1 0, pt 9 0]⟩], cl 24 [iv p0, iv p1, sv 0 p2.length ANY], .mark, .loop (st 29 [(2, .map none), (3, pt 4 0), (4, pt 5 0), (6, pt 9 0), (17, .func (.func 60) ⟨[]⟩ ⟨[pt 10 0]⟩)]).tmps [18] c49.s2.s2.s2.s2.s2.s1.s2.bd.ras c49.s2.s2.s2.s2.s2.s1.s2.bd.rbd .ready none]
noncomputable def H49_10 (p2 : List I2) (p0 p1 : Int) (v23 : List (I2 × Bool)) (v24 : List (I2 × PL)) : List Blk := [ab 57 e57 p2, cl 24 [iv p0, iv p1, sv 0 p2.length ANY], mb 83 u83 u4 v23, mb 83 u83 u85 v24, cl 101 [.map (some 2)], cl 76 [.map (some 3)], .dead, .mark, .dead, cl 102 [.func (.func 61) ⟨[]⟩ ⟨[pt 5 0, pt 4 0, pt 1 0, pt 9 0]⟩], cl 24 [iv p0, iv p1, sv 0 p2.length ANY], .mark, .loop (st 29 [(2, .map none), (3, pt 4 0), (4, pt 5 0), (6, pt 9 0), (17, .func (.func 60) ⟨[]⟩ ⟨[pt 10 0]⟩)]).tmps [18] c49.s2.s2.s2.s2.s2.s1.s2.bd.ras c49.s2.s2.s2.s2.s2.s1.s2.bd.rbd .ready none]
noncomputable def H49_11 (p2 : List I2) (p0 p1 : Int) (v45 : List (I2 × Bool)) (v46 : List (I2 × PL)) : List Blk := [ab 57 e57 p2, cl 24 [iv p0, iv p1, sv 0 p2.length ANY], mb 83 u83 u4 v45, mb 83 u83 u85 v46, cl 101 [.map (some 2)], cl 76 [.map (some 3)], .dead, .mark, .dead, cl 102 [.func (.func 61) ⟨[]⟩ ⟨[pt 5 0, pt 4 0, pt 1 0, pt 9 0]⟩], cl 24 [iv p0, iv p1, sv 0 p2.length ANY], .mark, .loop (st 29 [(2, .map none), (3, pt 4 0), (4, pt 5 0), (6, pt 9 0), (17, .func (.func 60) ⟨[]⟩ ⟨[pt 10 0]⟩)]).tmps [18] c49.s2.s2.s2.s2.s2.s1.s2.bd.ras c49.s2.s2.s2.s2.s2.s1.s2.bd.rbd .ready none]
noncomputable def H49_12 (p2 : List I2) (p0 p1 : Int) : List Blk := [ab 57 e57 p2, cl 24 [iv p0, iv p1, sv 0 p2.length ANY], .map 83 (List.map (mEnc u83 u4) ([] : (List (I2 × Bool)))), .map 83 (List.map (mEnc u83 u85) ([] : (List (I2 × PL)))), cl 101 [.map (some 2)], cl 76 [.map (some 3)], cl 24 [iv p0, iv p1, sv 0 p2.length ANY], .mark, .loop (st 29 [(1, pt 1 0), (2, .map none), (3, pt 4 0), (4, pt 5 0), (11, .func (.func 60) ⟨[]⟩ ⟨[pt 6 0]⟩)]).tmps [12] c49.s2.s2.s1.s2.bd.ras c49.s2.s2.s1.s2.bd.rbd .ready none]
noncomputable def H49_13 (p2 : List I2) (p0 p1 : Int) (v11 : List (I2 × Bool)) (v10 : Int) : List Blk := [ab 57 e57 p2, cl 24 [iv p0, iv p1, sv 0 p2.length ANY], .map 83 (List.map (mEnc u83 u4) (mput v11 (1, v10) true)), .map 83 (List.map (mEnc u83 u85) ([] : (List (I2 × PL)))), cl 101 [.map (some 2)], cl 76 [.map (some 3)], cl 24 [iv p0, iv p1, sv 0 p2.length ANY], .mark, .loop (st 29 [(1, pt 1 0), (2, .map none), (3, pt 4 0), (4, pt 5 0), (11, .func (.func 60) ⟨[]⟩ ⟨[pt 6 0]⟩)]).tmps [12] c49.s2.s2.s1.s2.bd.ras c49.s2.s2.s1.s2.bd.rbd .ready none, .dead]
noncomputable def H49_14 (p2 : List I2) (p0 p1 : Int) (v3 : List (I2 × Bool)) (v2 : Int) : List Blk := [ab 57 e57 p2, cl 24 [iv p0, iv p1, sv 0 p2.length ANY], .map 83 (List.map (mEnc u83 u4) (mput v3 (0, v2) true)), .map 83 (List.map (mEnc u83 u85) ([] : (List (I2 × PL)))), cl 101 [.map (some 2)], cl 76 [.map (some 3)], cl 24 [iv p0, iv p1, sv 0 p2.length ANY], .mark, .loop (st 29 [(1, pt 1 0), (2, .map none), (3, pt 4 0), (4, pt 5 0), (11, .func (.func 60) ⟨[]⟩ ⟨[pt 6 0]⟩)]).tmps [12] c49.s2.s2.s1.s2.bd.ras c49.s2.s2.s1.s2.bd.rbd .ready none, .dead]
noncomputable def H49_15 (p2 : List I2) (p0 p1 : Int) (v11 : List (I2 × Bool)) : List Blk := [ab 57 e57 p2, cl 24 [iv p0, iv p1, sv 0 p2.length ANY], mb 83 u83 u4 v11, .map 83 (List.map (mEnc u83 u85) ([] : (List (I2 × PL)))), cl 101 [.map (some 2)], cl 76 [.map (some 3)], cl 24 [iv p0, iv p1, sv 0 p2.length ANY], .mark, .loop (st 29 [(1, pt 1 0), (2, .map none), (3, pt 4 0), (4, pt 5 0), (11, .func (.func 60) ⟨[]⟩ ⟨[pt 6 0]⟩)]).tmps [12] c49.s2.s2.s1.s2.bd.ras c49.s2.s2.s1.s2.bd.rbd .busy none, .dead]
noncomputable def H49_16 (p2 : List I2) (p0 p1 : Int) (v3 : List (I2 × Bool)) : List Blk := [ab 57 e57 p2, cl 24 [iv p0, iv p1, sv 0 p2.length ANY], mb 83 u83 u4 v3, .map 83 (List.map (mEnc u83 u85) ([] : (List (I2 × PL)))), cl 101 [.map (some 2)], cl 76 [.map (some 3)], cl 24 [iv p0, iv p1, sv 0 p2.length ANY], .mark, .loop (st 29 [(1, pt 1 0), (2, .map none), (3, pt 4 0), (4, pt 5 0), (11, .func (.func 60) ⟨[]⟩ ⟨[pt 6 0]⟩)]).tmps [12] c49.s2.s2.s1.s2.bd.ras c49.s2.s2.s1.s2.bd.rbd .busy none, .dead]
noncomputable def H49_17 (p2 : List I2) (p0 p1 : Int) (v11 : List (I2 × Bool)) : List Blk := [ab 57 e57 p2, cl 24 [iv p0, iv p1, sv 0 p2.length ANY], mb 83 u83 u4 v11, .map 83 (List.map (mEnc u83 u85) ([] : (List (I2 × PL)))), cl 101 [.map (some 2)], cl 76 [.map (some 3)], cl 24 [iv p0, iv p1, sv 0 p2.length ANY], .mark, .loop (st 29 [(1, pt 1 0), (2, .map none), (3, pt 4 0), (4, pt 5 0), (11, .func (.func 60) ⟨[]⟩ ⟨[pt 6 0]⟩)]).tmps [12] c49.s2.s2.s1.s2.bd.ras c49.s2.s2.s1.s2.bd.rbd .ready none]
noncomputable def H49_18 (p2 : List I2) (p0 p1 : Int) (v3 : List (I2 × Bool)) : List Blk := [ab 57 e57 p2, cl 24 [iv p0, iv p1, sv 0 p2.length ANY], mb 83 u83 u4 v3, .map 83 (List.map (mEnc u83 u85) ([] : (List (I2 × PL)))), cl 101 [.map (some 2)], cl 76 [.map (some 3)], cl 24 [iv p0, iv p1, sv 0 p2.length ANY], .mark, .loop (st 29 [(1, pt 1 0), (2, .map none), (3, pt 4 0), (4, pt 5 0), (11, .func (.func 60) ⟨[]⟩ ⟨[pt 6 0]⟩)]).tmps [12] c49.s2.s2.s1.s2.bd.ras c49.s2.s2.s1.s2.bd.rbd .ready none]
noncomputable def H49_19 (p2 : List I2) (p0 p1 : Int) (r7 : List (I2 × Bool)) : List Blk := [ab 57 e57 p2, cl 24 [iv p0, iv p1, sv 0 p2.length ANY], mb 83 u83 u4 r7, .map 83 (List.map (mEnc u83 u85) ([] : (List (I2 × PL)))), cl 101 [.map (some 2)], cl 76 [.map (some 3)], cl 24 [iv p0, iv p1, sv 0 p2.length ANY], .mark, .loop (st 29 [(1, pt 1 0), (2, .map none), (3, pt 4 0), (4, pt 5 0), (11, .func (.func 60) ⟨[]⟩ ⟨[pt 6 0]⟩)]).tmps [12] c49.s2.s2.s1.s2.bd.ras c49.s2.s2.s1.s2.bd.rbd .ready none]
def H49_20 (p2 : List I2) (p0 p1 : Int) (r15 : List (I2 × Bool)) : List Blk := [ab 57 e57 p2, cl 24 [iv p0, iv p1, sv 0 p2.length ANY], mb 83 u83 u4 r15, .map 83 (List.map (mEnc u83 u85) ([] : (List (I2 × PL)))), cl 101 [.map (some 2)], cl 76 [.map (some 3)], .dead, .mark, .dead, cl 102 [.func (.func 61) ⟨[]⟩ ⟨[pt 5 0, pt 4 0, pt 1 0, pt 9 0]⟩], cl 24 [iv p0, iv p1, sv 0 p2.length ANY]]
def H49_21 (p2 : List I2) (p0 p1 : Int) : List Blk := [ab 57 e57 p2, cl 24 [iv p0, iv p1, sv 0 p2.length ANY], .map 83 (List.map (mEnc u83 u4) ([] : (List (I2 × Bool)))), .map 83 (List.map (mEnc u83 u85) ([] : (List (I2 × PL)))), cl 101 [.map (some 2)], cl 76 [.map (some 3)], cl 24 [iv p0, iv p1, sv 0 p2.length ANY]]
def H49_22 (p0 p1 : Int) (p2 : List I2) : List Blk := [cl 76 [.map (some 5)], cl 101 [.map (some 6)], cl 24 [iv p0, iv p1, sv 3 p2.length ANY], ab 57 e57 p2, cl 102 [.func (.func 61) ⟨[]⟩ ⟨[pt 0 0, pt 1 0, pt 2 0, pt 4 0]⟩]]
def S49_23  : CAct := (st 29 [(2, .map none), (3, pt 4 0), (4, pt 5 0), (6, pt 9 0), (17, .func (.func 60) ⟨[]⟩ ⟨[pt 10 0]⟩)])
def S49_24  : CAct := (st 29 [(1, pt 1 0), (2, .map none), (3, pt 4 0), (4, pt 5 0), (11, .func (.func 60) ⟨[]⟩ ⟨[pt 6 0]⟩)])
def S49_25 (p0 v22 : Int) : CAct := (st 27 [(0, .func (.yield 12) #[] #[]), (1, pt 10 0), (6, iv p0), (7, iv (w64 (v22 + 1)))])
def S49_26 (p1 v44 : Int) : CAct := (st 27 [(0, .func (.yield 12) #[] #[]), (17, iv p1), (18, iv (w64 (v44 + 1)))])
noncomputable def c49f47 : Code := Try.f47.code
noncomputable def c49f60 : Code := Try.f60.code
def F49l0 (p0 p1 : Int) (p2 : List I2) (v2 : Int) (v3 : List (I2 × Bool)) : Option (List (I2 × Bool)) :=
 if decide (v2 < p0) then
  F49l0 p0 p1 p2 (w64 (v2 + 1)) (mput v3 (0, v2) true)
 else
  some v3
 partial_fixpoint
def F49l1 (p0 p1 : Int) (p2 : List I2) (v10 : Int) (v11 : List (I2 × Bool)) : Option (List (I2 × Bool)) :=
 if decide (v10 < p1) then
  F49l1 p0 p1 p2 (w64 (v10 + 1)) (mput v11 (1, v10) true)
 else
  some v11
 partial_fixpoint
def F49l2 (p0 p1 : Int) (p2 : List I2) (v22 : Int) (v23 : List (I2 × Bool)) (v24 : List (I2 × PL)) : Option ((List (I2 × Bool)) × (List (I2 × PL))) :=
 if decide (v22 < p0) then
  some (Option.getD (mget v23 (0, v22)) false) >>= fun o33 =>
  if o33 then
   F61 64 0 v22 0 v22 0 (-1) 0 v22 v24 v23 p0 p1 p2 >>= fun r35 =>
   F49l2 p0 p1 p2 (w64 (v22 + 1)) r35.2 r35.1
  else
   F49l2 p0 p1 p2 (w64 (v22 + 1)) v23 v24
 else
  some (v23, v24)
 partial_fixpoint
def F49l3 (p0 p1 : Int) (p2 : List I2) (v44 : Int) (v45 : List (I2 × Bool)) (v46 : List (I2 × PL)) : Option ((List (I2 × Bool)) × (List (I2 × PL))) :=
 if decide (v44 < p1) then
  some (Option.getD (mget v45 (1, v44)) false) >>= fun o55 =>
  if o55 then
   F61 64 1 v44 1 v44 0 (-1) 1 v44 v46 v45 p0 p1 p2 >>= fun r57 =>
   F49l3 p0 p1 p2 (w64 (v44 + 1)) r57.2 r57.1
  else
   F49l3 p0 p1 p2 (w64 (v44 + 1)) v45 v46
 else
  some (v45, v46)
 partial_fixpoint
def F49 (p0 p1 : Int) (p2 : List I2) : Option (List (I2 × PL)) :=
 F49l0 p0 p1 p2 0 ([] : (List (I2 × Bool))) >>= fun r7 =>
 F49l1 p0 p1 p2 0 r7 >>= fun r15 =>
 F49l2 p0 p1 p2 0 r15 ([] : (List (I2 × PL))) >>= fun r37 =>
 F49l3 p0 p1 p2 0 r37.1 r37.2 >>= fun r59 =>
 some r59.2
def V49 (b : Nat) (r : List (I2 × PL)) : Value := .map (some (b + 0))
def N49 (b : Nat) (r : List (I2 × PL)) : List Blk := [mb 83 u83 u85 r]
def P49l0 (p0 p1 : Int) (p2 : List I2) (r : List (I2 × Bool)) : Post := fun e a h => e = .exit 0 ∧ Wk Try.prog 1 9 a h (st 27 [(0, .func (.yield 8) #[] #[]), (1, pt 6 0)]) [ab 57 e57 p2, cl 24 [iv p0, iv p1, sv 0 p2.length ANY], mb 83 u83 u4 r, .map 83 (List.map (mEnc u83 u85) ([] : (List (I2 × PL)))), cl 101 [.map (some 2)], cl 76 [.map (some 3)], cl 24 [iv p0, iv p1, sv 0 p2.length ANY], .mark, .loop (S49_24).tmps [12] c49.s2.s2.s1.s2.bd.ras c49.s2.s2.s1.s2.bd.rbd .ready none]
theorem L49l0 (p0 p1 : Int) (p2 : List I2) (v2 : Int) (v3 r : List (I2 × Bool)) (hF : F49l0 p0 p1 p2 v2 v3 = some r) : TL Try.prog 1 9 c49f60.s1.s2.bd.bd (st 27 [(0, .func (.yield 8) #[] #[]), (1, pt 6 0), (6, iv p0), (7, iv v2)]) (H49_18 p2 p0 p1 v3) (P49l0 p0 p1 p2 r) := by
 refine F49l0.partial_correctness p0 p1 p2 (motive := fun v2 v3 r => TL Try.prog 1 9 c49f60.s1.s2.bd.bd (st 27 [(0, .func (.yield 8) #[] #[]), (1, pt 6 0), (6, iv p0), (7, iv v2)]) (H49_18 p2 p0 p1 v3) (P49l0 p0 p1 p2 r)) ?_ v2 v3 r hF
 clear hF r v2 v3
 intro again ih v2 v3 r hF
 refine TL.round (TS.sq (TS.rg (TI.ra 1 [0, 1, 6, 7, 8] (st 27 [(0, .func (.yield 8) #[] #[]), (1, pt 6 0), (6, iv p0), (7, iv v2), (8, .bool (decide (v2 < p0)))]) (TI.dn (NX.sq (TS.sq ?_))))))
 refine TS.cd (.tmp 8) (decide (v2 < p0)) (fun hc6 => ?_) (fun hc6 => ?_)
 · replace hF := of_pos hF hc6
   refine TS.sk (NX.sq (TS.sq (TS.bk 1 (TS.sq (TS.rg (TI.ra 2 [0, 1, 3, 6, 7] (st 27 [(0, .func (.yield 8) #[] #[]), (1, pt 6 0), (3, iv v2), (6, iv p0), (7, iv v2)]) (TI.dn (NX.sq ?_))))))))
   refine TS.sq (TS.rg (TI.ra 3 [0, 1, 6, 7, 10, 12] (st 27 [(0, .func (.yield 8) #[] #[]), (1, pt 6 0), (6, iv p0), (7, iv v2), (10, .func (.yield 8) #[] #[]), (12, ag [iv 0, iv v2])]) (TI.yield (l := 8) (n := 9) (args := [ag [iv 0, iv v2]]) (t := (S49_24).tmps) (p := [12]) («as» := c49.s2.s2.s1.s2.bd.ras) (bd := c49.s2.s2.s1.s2.bd.rbd) (a2 := (st 29 [(1, pt 1 0), (2, .map none), (3, pt 4 0), (4, pt 5 0), (11, .func (.func 60) ⟨[]⟩ ⟨[pt 6 0]⟩), (12, ag [iv 0, iv v2])])) (by kernel_rfl) (by kernel_rfl) (by decide) rfl (by kernel_rfl) (by kernel_rfl) (TS.rg (TI.rn 2 [3, 5] [0, 1, 2, 3, 4, 5, 6, 7, 8, 9] (st 29 [(3, pt 4 0), (5, pt 9 0)]) [ab 57 e57 p2, cl 24 [iv p0, iv p1, sv 0 p2.length ANY], mb 83 u83 u4 v3, .map 83 (List.map (mEnc u83 u85) ([] : (List (I2 × PL)))), cl 101 [.map (some 2)], cl 76 [.map (some 3)], cl 24 [iv p0, iv p1, sv 0 p2.length ANY], .mark, .loop (S49_24).tmps [12] c49.s2.s2.s1.s2.bd.ras c49.s2.s2.s1.s2.bd.rbd .ready none, cl 83 [iv 0, iv v2]] (TI.dn ?_))))))
   refine ⟨rfl, (S49_24).tmps, [12], c49.s2.s2.s1.s2.bd.ras, c49.s2.s2.s1.s2.bd.rbd, by kernel_rfl, (TS.bk 1 (TS.rg (TI.rn 2 [13, 14] [0, 1, 2, 3, 4, 5, 6, 7, 8] (st 29 [(13, .map (some 2)), (14, ag [iv 0, iv v2])]) (H49_16 p2 p0 p1 v3) (TI.o { val := undef, upd := some (2, .map 83 (List.map (mEnc u83 u4) (mput v3 (0, v2) true))) } (q_put (P := Try.prog) (hp := (H49_16 p2 p0 p1 v3)) (r := 2) (l := v3) (k := (0, v2)) (kt := 83) (et := 4) (kv := u83) (vv := u4) (key := ag [iv 0, iv v2]) (base := 1) (t := 101) (val := .bool true) (y := true) (by kernel_rfl) rfl rfl (by decide) (by kernel_rfl) (by kernel_rfl) (by kernel_rfl) u83_fit u83_eq u4_flat) [] [0, 1, 2, 3, 4, 5, 6, 7, 8] (st 29 []) [ab 57 e57 p2, cl 24 [iv p0, iv p1, sv 0 p2.length ANY], .map 83 (List.map (mEnc u83 u4) (mput v3 (0, v2) true)), .map 83 (List.map (mEnc u83 u85) ([] : (List (I2 × PL)))), cl 101 [.map (some 2)], cl 76 [.map (some 3)], cl 24 [iv p0, iv p1, sv 0 p2.length ANY], .mark, .loop (S49_24).tmps [12] c49.s2.s2.s1.s2.bd.ras c49.s2.s2.s1.s2.bd.rbd .busy none, .dead] (TI.dn (NX.bk ?_))))))⟩
   refine ⟨.bool true, (H49_14 p2 p0 p1 v3 v2), by kernel_rfl, (TI.rn 0 [0, 1, 6, 7, 13] [0, 1, 2, 3, 4, 5, 6, 7, 8] (st 27 [(0, .func (.yield 8) #[] #[]), (1, pt 6 0), (6, iv p0), (7, iv v2), (13, .bool true)]) (H49_14 p2 p0 p1 v3 v2) (TI.ra 1 [0, 1, 6, 7, 14] (st 27 [(0, .func (.yield 8) #[] #[]), (1, pt 6 0), (6, iv p0), (7, iv v2), (14, .bool false)]) (TI.dn (NX.sq (TS.cdF (.tmp 14) (TS.sk (NX.bk (NX.sq ?_))))))))⟩
   refine TS.rg (TI.ra 2 [0, 1, 6, 7] (st 27 [(0, .func (.yield 8) #[] #[]), (1, pt 6 0), (6, iv p0), (7, iv (w64 (v2 + 1)))]) (TI.dn ?_))
   exact Rd.again (a2 := (st 27 [(0, .func (.yield 8) #[] #[]), (1, pt 6 0), (6, iv p0), (7, iv (w64 (v2 + 1)))])) (h2 := [ab 57 e57 p2, cl 24 [iv p0, iv p1, sv 0 p2.length ANY], .map 83 (List.map (mEnc u83 u4) (mput v3 (0, v2) true)), .map 83 (List.map (mEnc u83 u85) ([] : (List (I2 × PL)))), cl 101 [.map (some 2)], cl 76 [.map (some 3)], cl 24 [iv p0, iv p1, sv 0 p2.length ANY], .mark, .loop (S49_24).tmps [12] c49.s2.s2.s1.s2.bd.ras c49.s2.s2.s1.s2.bd.rbd .ready none]) (Wk.an [] (.ac (.lt (.fl (.fl (.sl .nil))) (.cons (At.blk (by kernel_rfl) (RnB.map _ _)) (.cons (At.blk (by kernel_rfl) (RnB.map _ _)) (.lt (.cons (Rn.map _ (nl rfl)) .nil) (.lt (.cons (Rn.map _ (nl rfl)) .nil) (.lt (.fl (.fl (.sl .nil))) (.cons (At.blk (by kernel_rfl) RnB.mark) (.cons (At.blk (b1 := .loop (S49_24).tmps [12] c49.s2.s2.s1.s2.bd.ras c49.s2.s2.s1.s2.bd.rbd .ready none) (by kernel_rfl) (RnB.loop _ _ _ _ _ _ _ (LRn.stx [1, 2, 3, 4, 11] [pt 1 0, .map none, pt 4 0, pt 5 0, .func (.func 60) ⟨[]⟩ ⟨[pt 6 0]⟩] [pt 1 0, .map none, pt 4 0, pt 5 0, .func (.func 60) ⟨[]⟩ ⟨[pt 6 0]⟩] (.pp (.fl (.pp (.pp (.cons (Rn.func' .nil (.pp .nil)) .nil))))) (by kernel_rfl) (by kernel_rfl) rfl))) (.nil _)))))))))) [.func (.yield 8) #[] #[], pt 6 0, iv p0, iv (w64 (v2 + 1))] (.cons (Rn.yield _ (nl rfl)) (.pp (.fl (.fl .nil))))) (ih (w64 (v2 + 1)) (mput v3 (0, v2) true) _ hF)
 replace hF := of_neg hF hc6
 refine TS.ex 0 (NX.sqX ?_)
 have hF := sj hF
 subst hF
 exact Rd.out (e := .exit 0) (by intro h; cases h) (And.intro rfl (Wk.an [] (.ac (.lt (.fl (.fl (.sl .nil))) (.cons (At.blk (by kernel_rfl) (RnB.map _ _)) (.cons (At.blk (by kernel_rfl) (RnB.map _ _)) (.lt (.cons (Rn.map _ (nl rfl)) .nil) (.lt (.cons (Rn.map _ (nl rfl)) .nil) (.lt (.fl (.fl (.sl .nil))) (.cons (At.blk (by kernel_rfl) RnB.mark) (.cons (At.blk (b1 := .loop (S49_24).tmps [12] c49.s2.s2.s1.s2.bd.ras c49.s2.s2.s1.s2.bd.rbd .ready none) (by kernel_rfl) (RnB.loop _ _ _ _ _ _ _ (LRn.stx [1, 2, 3, 4, 11] [pt 1 0, .map none, pt 4 0, pt 5 0, .func (.func 60) ⟨[]⟩ ⟨[pt 6 0]⟩] [pt 1 0, .map none, pt 4 0, pt 5 0, .func (.func 60) ⟨[]⟩ ⟨[pt 6 0]⟩] (.pp (.fl (.pp (.pp (.cons (Rn.func' .nil (.pp .nil)) .nil))))) (by kernel_rfl) (by kernel_rfl) rfl))) (.nil _)))))))))) [.func (.yield 8) #[] #[], pt 6 0] (.cons (Rn.yield _ (nl rfl)) (.pp .nil))))
def P49l1 (p0 p1 : Int) (p2 : List I2) (r : List (I2 × Bool)) : Post := fun e a h => e = .exit 2 ∧ Wk Try.prog 1 9 a h (st 27 []) [ab 57 e57 p2, cl 24 [iv p0, iv p1, sv 0 p2.length ANY], mb 83 u83 u4 r, .map 83 (List.map (mEnc u83 u85) ([] : (List (I2 × PL)))), cl 101 [.map (some 2)], cl 76 [.map (some 3)], cl 24 [iv p0, iv p1, sv 0 p2.length ANY], .mark, .loop (S49_24).tmps [12] c49.s2.s2.s1.s2.bd.ras c49.s2.s2.s1.s2.bd.rbd .ready none]
theorem L49l1 (p0 p1 : Int) (p2 : List I2) (v10 : Int) (v11 r : List (I2 × Bool)) (hF : F49l1 p0 p1 p2 v10 v11 = some r) : TL Try.prog 1 9 c49f60.s2.s2.bd.bd (st 27 [(0, .func (.yield 8) #[] #[]), (17, iv p1), (18, iv v10)]) (H49_17 p2 p0 p1 v11) (P49l1 p0 p1 p2 r) := by
 refine F49l1.partial_correctness p0 p1 p2 (motive := fun v10 v11 r => TL Try.prog 1 9 c49f60.s2.s2.bd.bd (st 27 [(0, .func (.yield 8) #[] #[]), (17, iv p1), (18, iv v10)]) (H49_17 p2 p0 p1 v11) (P49l1 p0 p1 p2 r)) ?_ v10 v11 r hF
 clear hF r v10 v11
 intro again ih v10 v11 r hF
 refine TL.round (TS.sq (TS.rg (TI.ra 1 [0, 17, 18, 19] (st 27 [(0, .func (.yield 8) #[] #[]), (17, iv p1), (18, iv v10), (19, .bool (decide (v10 < p1)))]) (TI.dn (NX.sq (TS.sq ?_))))))
 refine TS.cd (.tmp 19) (decide (v10 < p1)) (fun hc14 => ?_) (fun hc14 => ?_)
 · replace hF := of_pos hF hc14
   refine TS.sk (NX.sq (TS.sq (TS.bk 3 (TS.sq (TS.rg (TI.ra 2 [0, 4, 17, 18] (st 27 [(0, .func (.yield 8) #[] #[]), (4, iv v10), (17, iv p1), (18, iv v10)]) (TI.dn (NX.sq ?_))))))))
   refine TS.sq (TS.rg (TI.ra 3 [0, 17, 18, 21, 23] (st 27 [(0, .func (.yield 8) #[] #[]), (17, iv p1), (18, iv v10), (21, .func (.yield 8) #[] #[]), (23, ag [iv 1, iv v10])]) (TI.yield (l := 8) (n := 9) (args := [ag [iv 1, iv v10]]) (t := (S49_24).tmps) (p := [12]) («as» := c49.s2.s2.s1.s2.bd.ras) (bd := c49.s2.s2.s1.s2.bd.rbd) (a2 := (st 29 [(1, pt 1 0), (2, .map none), (3, pt 4 0), (4, pt 5 0), (11, .func (.func 60) ⟨[]⟩ ⟨[pt 6 0]⟩), (12, ag [iv 1, iv v10])])) (by kernel_rfl) (by kernel_rfl) (by decide) rfl (by kernel_rfl) (by kernel_rfl) (TS.rg (TI.rn 2 [3, 5] [0, 1, 2, 3, 4, 5, 6, 7, 8, 9] (st 29 [(3, pt 4 0), (5, pt 9 0)]) [ab 57 e57 p2, cl 24 [iv p0, iv p1, sv 0 p2.length ANY], mb 83 u83 u4 v11, .map 83 (List.map (mEnc u83 u85) ([] : (List (I2 × PL)))), cl 101 [.map (some 2)], cl 76 [.map (some 3)], cl 24 [iv p0, iv p1, sv 0 p2.length ANY], .mark, .loop (S49_24).tmps [12] c49.s2.s2.s1.s2.bd.ras c49.s2.s2.s1.s2.bd.rbd .ready none, cl 83 [iv 1, iv v10]] (TI.dn ?_))))))
   refine ⟨rfl, (S49_24).tmps, [12], c49.s2.s2.s1.s2.bd.ras, c49.s2.s2.s1.s2.bd.rbd, by kernel_rfl, (TS.bk 1 (TS.rg (TI.rn 2 [13, 14] [0, 1, 2, 3, 4, 5, 6, 7, 8] (st 29 [(13, .map (some 2)), (14, ag [iv 1, iv v10])]) (H49_15 p2 p0 p1 v11) (TI.o { val := undef, upd := some (2, .map 83 (List.map (mEnc u83 u4) (mput v11 (1, v10) true))) } (q_put (P := Try.prog) (hp := (H49_15 p2 p0 p1 v11)) (r := 2) (l := v11) (k := (1, v10)) (kt := 83) (et := 4) (kv := u83) (vv := u4) (key := ag [iv 1, iv v10]) (base := 1) (t := 101) (val := .bool true) (y := true) (by kernel_rfl) rfl rfl (by decide) (by kernel_rfl) (by kernel_rfl) (by kernel_rfl) u83_fit u83_eq u4_flat) [] [0, 1, 2, 3, 4, 5, 6, 7, 8] (st 29 []) [ab 57 e57 p2, cl 24 [iv p0, iv p1, sv 0 p2.length ANY], .map 83 (List.map (mEnc u83 u4) (mput v11 (1, v10) true)), .map 83 (List.map (mEnc u83 u85) ([] : (List (I2 × PL)))), cl 101 [.map (some 2)], cl 76 [.map (some 3)], cl 24 [iv p0, iv p1, sv 0 p2.length ANY], .mark, .loop (S49_24).tmps [12] c49.s2.s2.s1.s2.bd.ras c49.s2.s2.s1.s2.bd.rbd .busy none, .dead] (TI.dn (NX.bk ?_))))))⟩
   refine ⟨.bool true, (H49_13 p2 p0 p1 v11 v10), by kernel_rfl, (TI.rn 0 [0, 17, 18, 24] [0, 1, 2, 3, 4, 5, 6, 7, 8] (st 27 [(0, .func (.yield 8) #[] #[]), (17, iv p1), (18, iv v10), (24, .bool true)]) (H49_13 p2 p0 p1 v11 v10) (TI.ra 1 [0, 17, 18, 25] (st 27 [(0, .func (.yield 8) #[] #[]), (17, iv p1), (18, iv v10), (25, .bool false)]) (TI.dn (NX.sq (TS.cdF (.tmp 25) (TS.sk (NX.bk (NX.sq ?_))))))))⟩
   refine TS.rg (TI.ra 2 [0, 17, 18] (st 27 [(0, .func (.yield 8) #[] #[]), (17, iv p1), (18, iv (w64 (v10 + 1)))]) (TI.dn ?_))
   exact Rd.again (a2 := (st 27 [(0, .func (.yield 8) #[] #[]), (17, iv p1), (18, iv (w64 (v10 + 1)))])) (h2 := [ab 57 e57 p2, cl 24 [iv p0, iv p1, sv 0 p2.length ANY], .map 83 (List.map (mEnc u83 u4) (mput v11 (1, v10) true)), .map 83 (List.map (mEnc u83 u85) ([] : (List (I2 × PL)))), cl 101 [.map (some 2)], cl 76 [.map (some 3)], cl 24 [iv p0, iv p1, sv 0 p2.length ANY], .mark, .loop (S49_24).tmps [12] c49.s2.s2.s1.s2.bd.ras c49.s2.s2.s1.s2.bd.rbd .ready none]) (Wk.an [] (.ac (.lt (.fl (.fl (.sl .nil))) (.cons (At.blk (by kernel_rfl) (RnB.map _ _)) (.cons (At.blk (by kernel_rfl) (RnB.map _ _)) (.lt (.cons (Rn.map _ (nl rfl)) .nil) (.lt (.cons (Rn.map _ (nl rfl)) .nil) (.lt (.fl (.fl (.sl .nil))) (.cons (At.blk (by kernel_rfl) RnB.mark) (.cons (At.blk (b1 := .loop (S49_24).tmps [12] c49.s2.s2.s1.s2.bd.ras c49.s2.s2.s1.s2.bd.rbd .ready none) (by kernel_rfl) (RnB.loop _ _ _ _ _ _ _ (LRn.stx [1, 2, 3, 4, 11] [pt 1 0, .map none, pt 4 0, pt 5 0, .func (.func 60) ⟨[]⟩ ⟨[pt 6 0]⟩] [pt 1 0, .map none, pt 4 0, pt 5 0, .func (.func 60) ⟨[]⟩ ⟨[pt 6 0]⟩] (.pp (.fl (.pp (.pp (.cons (Rn.func' .nil (.pp .nil)) .nil))))) (by kernel_rfl) (by kernel_rfl) rfl))) (.nil _)))))))))) [.func (.yield 8) #[] #[], iv p1, iv (w64 (v10 + 1))] (.cons (Rn.yield _ (nl rfl)) (.fl (.fl .nil)))) (ih (w64 (v10 + 1)) (mput v11 (1, v10) true) _ hF)
 replace hF := of_neg hF hc14
 refine TS.ex 2 (NX.sqX ?_)
 have hF := sj hF
 subst hF
 exact Rd.out (e := .exit 2) (by intro h; cases h) (And.intro rfl (Wk.an [] (.ac (.lt (.fl (.fl (.sl .nil))) (.cons (At.blk (by kernel_rfl) (RnB.map _ _)) (.cons (At.blk (by kernel_rfl) (RnB.map _ _)) (.lt (.cons (Rn.map _ (nl rfl)) .nil) (.lt (.cons (Rn.map _ (nl rfl)) .nil) (.lt (.fl (.fl (.sl .nil))) (.cons (At.blk (by kernel_rfl) RnB.mark) (.cons (At.blk (b1 := .loop (S49_24).tmps [12] c49.s2.s2.s1.s2.bd.ras c49.s2.s2.s1.s2.bd.rbd .ready none) (by kernel_rfl) (RnB.loop _ _ _ _ _ _ _ (LRn.stx [1, 2, 3, 4, 11] [pt 1 0, .map none, pt 4 0, pt 5 0, .func (.func 60) ⟨[]⟩ ⟨[pt 6 0]⟩] [pt 1 0, .map none, pt 4 0, pt 5 0, .func (.func 60) ⟨[]⟩ ⟨[pt 6 0]⟩] (.pp (.fl (.pp (.pp (.cons (Rn.func' .nil (.pp .nil)) .nil))))) (by kernel_rfl) (by kernel_rfl) rfl))) (.nil _)))))))))) [] .nil))
def P49l2 (p0 p1 : Int) (p2 : List I2) (r : (List (I2 × Bool)) × (List (I2 × PL))) : Post := fun e a h => e = .exit 0 ∧ Wk Try.prog 1 13 a h (st 27 [(0, .func (.yield 12) #[] #[]), (1, pt 10 0)]) [ab 57 e57 p2, cl 24 [iv p0, iv p1, sv 0 p2.length ANY], mb 83 u83 u4 r.1, mb 83 u83 u85 r.2, cl 101 [.map (some 2)], cl 76 [.map (some 3)], .dead, .mark, .dead, cl 102 [.func (.func 61) ⟨[]⟩ ⟨[pt 5 0, pt 4 0, pt 1 0, pt 9 0]⟩], cl 24 [iv p0, iv p1, sv 0 p2.length ANY], .mark, .loop (S49_23).tmps [18] c49.s2.s2.s2.s2.s2.s1.s2.bd.ras c49.s2.s2.s2.s2.s2.s1.s2.bd.rbd .ready none]
theorem L49l2 (p0 p1 : Int) (p2 : List I2) (v22 : Int) (v23 : List (I2 × Bool)) (v24 : List (I2 × PL)) (r : (List (I2 × Bool)) × (List (I2 × PL))) (hF : F49l2 p0 p1 p2 v22 v23 v24 = some r) : TL Try.prog 1 13 c49f60.s1.s2.bd.bd (st 27 [(0, .func (.yield 12) #[] #[]), (1, pt 10 0), (6, iv p0), (7, iv v22)]) (H49_10 p2 p0 p1 v23 v24) (P49l2 p0 p1 p2 r) := by
 refine F49l2.partial_correctness p0 p1 p2 (motive := fun v22 v23 v24 r => TL Try.prog 1 13 c49f60.s1.s2.bd.bd (st 27 [(0, .func (.yield 12) #[] #[]), (1, pt 10 0), (6, iv p0), (7, iv v22)]) (H49_10 p2 p0 p1 v23 v24) (P49l2 p0 p1 p2 r)) ?_ v22 v23 v24 r hF
 clear hF r v22 v23 v24
 intro again ih v22 v23 v24 r hF
 refine TL.round (TS.sq (TS.rg (TI.ra 1 [0, 1, 6, 7, 8] (st 27 [(0, .func (.yield 12) #[] #[]), (1, pt 10 0), (6, iv p0), (7, iv v22), (8, .bool (decide (v22 < p0)))]) (TI.dn (NX.sq (TS.sq ?_))))))
 refine TS.cd (.tmp 8) (decide (v22 < p0)) (fun hc32 => ?_) (fun hc32 => ?_)
 · replace hF := of_pos hF hc32
   refine TS.sk (NX.sq (TS.sq (TS.bk 1 (TS.sq (TS.rg (TI.ra 2 [0, 1, 3, 6, 7] (st 27 [(0, .func (.yield 12) #[] #[]), (1, pt 10 0), (3, iv v22), (6, iv p0), (7, iv v22)]) (TI.dn (NX.sq ?_))))))))
   refine TS.sq (TS.rg (TI.ra 3 [0, 1, 6, 7, 10, 12] (st 27 [(0, .func (.yield 12) #[] #[]), (1, pt 10 0), (6, iv p0), (7, iv v22), (10, .func (.yield 12) #[] #[]), (12, ag [iv 0, iv v22])]) (TI.yield (l := 12) (n := 13) (args := [ag [iv 0, iv v22]]) (t := (S49_23).tmps) (p := [18]) («as» := c49.s2.s2.s2.s2.s2.s1.s2.bd.ras) (bd := c49.s2.s2.s2.s2.s2.s1.s2.bd.rbd) (a2 := (st 29 [(2, .map none), (3, pt 4 0), (4, pt 5 0), (6, pt 9 0), (17, .func (.func 60) ⟨[]⟩ ⟨[pt 10 0]⟩), (18, ag [iv 0, iv v22])])) (by kernel_rfl) (by kernel_rfl) (by decide) rfl (by kernel_rfl) (by kernel_rfl) (TS.rg (TI.rn 2 [3, 6, 7] [0, 1, 2, 3, 4, 5, 7, 9, 10, 11, 12, 13] (st 29 [(3, pt 4 0), (6, pt 9 0), (7, pt 13 0)]) (H49_1 p2 p0 p1 v23 v24 v22) (TI.dn ?_))))))
   refine ⟨rfl, (S49_23).tmps, [18], c49.s2.s2.s2.s2.s2.s1.s2.bd.ras, c49.s2.s2.s2.s2.s2.s1.s2.bd.rbd, by kernel_rfl, (TS.bk 3 (TS.sq ?_))⟩
   obtain ⟨o33, h34, hF⟩ := of_do hF
   replace h34 := sj h34
   refine TS.rg (TI.ra 2 [6, 7, 19, 20] (st 29 [(6, pt 9 0), (7, pt 13 0), (19, .map (some 2)), (20, ag [iv 0, iv v22])]) (TI.o { val := .bool o33 } (q_gN Try.prog (H49_3 p2 p0 p1 v23 v24 v22) 101 2 v23 (0, v22) 83 4 u83 u4 (ag [iv 0, iv v22]) false u83_fit u83_eq h34) [6, 7, 21] [0, 1, 2, 3, 4, 5, 7, 9, 10, 11, 12, 13] (st 29 [(6, pt 9 0), (7, pt 13 0), (21, .bool o33)]) (H49_3 p2 p0 p1 v23 v24 v22) (TI.dn (NX.sq ?_))))
   cases o33 with
   | true =>
    replace hF := of_pos hF rfl
    refine TS.cdT (.tmp 21) ?_
    obtain ⟨r35, h36, hF⟩ := of_do hF
    refine TS.rg (TI.rn 5 [22, 23, 26] [0, 1, 2, 3, 4, 5, 7, 9, 10, 11, 12] (st 29 [(22, .func (.func 61) ⟨[]⟩ ⟨[pt 5 0, pt 4 0, pt 1 0, pt 9 0]⟩), (23, ag [iv 0, iv v22]), (26, ag [iv 0, iv v22, iv 0, iv (-1), iv 0, iv v22])]) (H49_7 p2 p0 p1 v23 v24) (TI.icallM (g := 61) (args := [ag [iv 0, iv v22], ag [iv 0, iv v22, iv 0, iv (-1), iv 0, iv v22], pt 5 0, pt 4 0, pt 1 0, pt 9 0]) (v := .tuple ⟨[]⟩) (by kernel_rfl) (ImpSim.frameB (n := 7) (h := (H49_7 p2 p0 p1 v23 v24)) (ro := (H49_22 p0 p1 p2)) (wr := [mb 83 u83 u85 v24, mb 83 u83 u4 v23]) (wr' := [mb 83 u83 u85 r35.1, mb 83 u83 u4 r35.2]) (fun i => List.getD [(5, 0), (4, 0), (1, 0), (0, 0), (9, 0), (3, 0), (2, 0)] i (0, 0)) (C61 64 _ _ _ _ _ _ _ _ _ _ _ _ _ _ h36) rfl rfl (.cons (At.blk (b1 := cl 76 [.map (some 3)]) (by kernel_rfl) (RnB.lit (.cons (Rn.map _ (nl rfl)) .nil))) (.cons (At.blk (b1 := cl 101 [.map (some 2)]) (by kernel_rfl) (RnB.lit (.cons (Rn.map _ (nl rfl)) .nil))) (.cons (At.blk (b1 := cl 24 [iv p0, iv p1, sv 0 p2.length ANY]) (by kernel_rfl) (RnB.lit (.fl (.fl (.cons (Rn.any _ _ _ _ _ _ (nl rfl) rfl rfl (by decide)) .nil))))) (.ac (.cons (At.blk (b1 := cl 102 [.func (.func 61) ⟨[]⟩ ⟨[pt 5 0, pt 4 0, pt 1 0, pt 9 0]⟩]) (by kernel_rfl) (RnB.lit (.cons (Rn.func' .nil (.pp (.pp (.pp (.pp .nil))))) .nil))) (.cons (At.blk (by kernel_rfl) (RnB.map _ _)) (.cons (At.blk (by kernel_rfl) (RnB.map _ _)) (.nil _)))))))) (by kernel_rfl) (by kernel_rfl) (by kernel_rfl) (.fl (.fl (.pp (.pp (.pp (.pp .nil)))))) (by kernel_rfl)) [] [0, 1, 2, 3, 4, 5, 7, 9, 10, 11, 12] (a2 := (st 29 [])) (h2 := [ab 57 e57 p2, cl 24 [iv p0, iv p1, sv 0 p2.length ANY], mb 83 u83 u4 r35.2, mb 83 u83 u85 r35.1, cl 101 [.map (some 2)], cl 76 [.map (some 3)], .dead, .mark, .dead, cl 102 [.func (.func 61) ⟨[]⟩ ⟨[pt 5 0, pt 4 0, pt 1 0, pt 9 0]⟩], cl 24 [iv p0, iv p1, sv 0 p2.length ANY], .mark, .loop (S49_23).tmps [18] c49.s2.s2.s2.s2.s2.s1.s2.bd.ras c49.s2.s2.s2.s2.s2.s1.s2.bd.rbd .busy none, .dead]) (by kernel_rfl) (TI.dn (NX.bk ?_))))
    refine ⟨.bool true, (H49_5 p2 p0 p1 r35), by kernel_rfl, (TI.rn 0 [0, 1, 6, 7, 13] [0, 1, 2, 3, 4, 5, 7, 9, 10, 11, 12] (st 27 [(0, .func (.yield 12) #[] #[]), (1, pt 10 0), (6, iv p0), (7, iv v22), (13, .bool true)]) (H49_5 p2 p0 p1 r35) (TI.ra 1 [0, 1, 6, 7, 14] (st 27 [(0, .func (.yield 12) #[] #[]), (1, pt 10 0), (6, iv p0), (7, iv v22), (14, .bool false)]) (TI.dn (NX.sq (TS.cdF (.tmp 14) (TS.sk (NX.bk (NX.sq ?_))))))))⟩
    refine TS.rg (TI.ra 2 [0, 1, 6, 7] (S49_25 p0 v22) (TI.dn ?_))
    exact Rd.again (a2 := (S49_25 p0 v22)) (h2 := [ab 57 e57 p2, cl 24 [iv p0, iv p1, sv 0 p2.length ANY], mb 83 u83 u4 r35.2, mb 83 u83 u85 r35.1, cl 101 [.map (some 2)], cl 76 [.map (some 3)], .dead, .mark, .dead, cl 102 [.func (.func 61) ⟨[]⟩ ⟨[pt 5 0, pt 4 0, pt 1 0, pt 9 0]⟩], cl 24 [iv p0, iv p1, sv 0 p2.length ANY], .mark, .loop (S49_23).tmps [18] c49.s2.s2.s2.s2.s2.s1.s2.bd.ras c49.s2.s2.s2.s2.s2.s1.s2.bd.rbd .ready none]) (Wk.an [] (.ac (.lt (.fl (.fl (.sl .nil))) (.cons (At.blk (by kernel_rfl) (RnB.map _ _)) (.cons (At.blk (by kernel_rfl) (RnB.map _ _)) (.lt (.cons (Rn.map _ (nl rfl)) .nil) (.lt (.cons (Rn.map _ (nl rfl)) .nil) (.cons (.inl rfl) (.cons (At.blk (by kernel_rfl) RnB.mark) (.cons (.inl rfl) (.lt (.cons (Rn.func' .nil (.pp (.pp (.pp (.pp .nil))))) .nil) (.lt (.fl (.fl (.sl .nil))) (.cons (At.blk (by kernel_rfl) RnB.mark) (.cons (At.blk (b1 := .loop (S49_23).tmps [18] c49.s2.s2.s2.s2.s2.s1.s2.bd.ras c49.s2.s2.s2.s2.s2.s1.s2.bd.rbd .ready none) (by kernel_rfl) (RnB.loop _ _ _ _ _ _ _ (LRn.stx [2, 3, 4, 6, 17] [.map none, pt 4 0, pt 5 0, pt 9 0, .func (.func 60) ⟨[]⟩ ⟨[pt 10 0]⟩] [.map none, pt 4 0, pt 5 0, pt 9 0, .func (.func 60) ⟨[]⟩ ⟨[pt 10 0]⟩] (.fl (.pp (.pp (.pp (.cons (Rn.func' .nil (.pp .nil)) .nil))))) (by kernel_rfl) (by kernel_rfl) rfl))) (.nil _)))))))))))))) [.func (.yield 12) #[] #[], pt 10 0, iv p0, iv (w64 (v22 + 1))] (.cons (Rn.yield _ (nl rfl)) (.pp (.fl (.fl .nil))))) (ih (w64 (v22 + 1)) r35.2 r35.1 _ hF)
   | false =>
    replace hF := of_neg hF rfl
    refine TS.cdF (.tmp 21) (TS.sk (NX.bk ?_))
    refine ⟨.bool true, (H49_1 p2 p0 p1 v23 v24 v22), by kernel_rfl, (TI.rn 0 [0, 1, 6, 7, 13] [0, 1, 2, 3, 4, 5, 7, 9, 10, 11, 12] (st 27 [(0, .func (.yield 12) #[] #[]), (1, pt 10 0), (6, iv p0), (7, iv v22), (13, .bool true)]) [ab 57 e57 p2, cl 24 [iv p0, iv p1, sv 0 p2.length ANY], mb 83 u83 u4 v23, mb 83 u83 u85 v24, cl 101 [.map (some 2)], cl 76 [.map (some 3)], .dead, .mark, .dead, cl 102 [.func (.func 61) ⟨[]⟩ ⟨[pt 5 0, pt 4 0, pt 1 0, pt 9 0]⟩], cl 24 [iv p0, iv p1, sv 0 p2.length ANY], .mark, .loop (S49_23).tmps [18] c49.s2.s2.s2.s2.s2.s1.s2.bd.ras c49.s2.s2.s2.s2.s2.s1.s2.bd.rbd .ready none, .dead] (TI.ra 1 [0, 1, 6, 7, 14] (st 27 [(0, .func (.yield 12) #[] #[]), (1, pt 10 0), (6, iv p0), (7, iv v22), (14, .bool false)]) (TI.dn (NX.sq (TS.cdF (.tmp 14) (TS.sk (NX.bk (NX.sq ?_))))))))⟩
    refine TS.rg (TI.ra 2 [0, 1, 6, 7] (S49_25 p0 v22) (TI.dn ?_))
    exact Rd.again (a2 := (S49_25 p0 v22)) (h2 := (H49_10 p2 p0 p1 v23 v24)) (Wk.an [] (.ac (.lt (.fl (.fl (.sl .nil))) (.cons (At.blk (by kernel_rfl) (RnB.map _ _)) (.cons (At.blk (by kernel_rfl) (RnB.map _ _)) (.lt (.cons (Rn.map _ (nl rfl)) .nil) (.lt (.cons (Rn.map _ (nl rfl)) .nil) (.cons (.inl rfl) (.cons (At.blk (by kernel_rfl) RnB.mark) (.cons (.inl rfl) (.lt (.cons (Rn.func' .nil (.pp (.pp (.pp (.pp .nil))))) .nil) (.lt (.fl (.fl (.sl .nil))) (.cons (At.blk (by kernel_rfl) RnB.mark) (.cons (At.blk (b1 := .loop (S49_23).tmps [18] c49.s2.s2.s2.s2.s2.s1.s2.bd.ras c49.s2.s2.s2.s2.s2.s1.s2.bd.rbd .ready none) (by kernel_rfl) (RnB.loop _ _ _ _ _ _ _ (LRn.stx [2, 3, 4, 6, 17] [.map none, pt 4 0, pt 5 0, pt 9 0, .func (.func 60) ⟨[]⟩ ⟨[pt 10 0]⟩] [.map none, pt 4 0, pt 5 0, pt 9 0, .func (.func 60) ⟨[]⟩ ⟨[pt 10 0]⟩] (.fl (.pp (.pp (.pp (.cons (Rn.func' .nil (.pp .nil)) .nil))))) (by kernel_rfl) (by kernel_rfl) rfl))) (.nil _)))))))))))))) [.func (.yield 12) #[] #[], pt 10 0, iv p0, iv (w64 (v22 + 1))] (.cons (Rn.yield _ (nl rfl)) (.pp (.fl (.fl .nil))))) (ih (w64 (v22 + 1)) v23 v24 _ hF)
 replace hF := of_neg hF hc32
 refine TS.ex 0 (NX.sqX ?_)
 have hF := sj hF
 subst hF
 exact Rd.out (e := .exit 0) (by intro h; cases h) (And.intro rfl (Wk.an [] (.ac (.lt (.fl (.fl (.sl .nil))) (.cons (At.blk (by kernel_rfl) (RnB.map _ _)) (.cons (At.blk (by kernel_rfl) (RnB.map _ _)) (.lt (.cons (Rn.map _ (nl rfl)) .nil) (.lt (.cons (Rn.map _ (nl rfl)) .nil) (.cons (.inl rfl) (.cons (At.blk (by kernel_rfl) RnB.mark) (.cons (.inl rfl) (.lt (.cons (Rn.func' .nil (.pp (.pp (.pp (.pp .nil))))) .nil) (.lt (.fl (.fl (.sl .nil))) (.cons (At.blk (by kernel_rfl) RnB.mark) (.cons (At.blk (b1 := .loop (S49_23).tmps [18] c49.s2.s2.s2.s2.s2.s1.s2.bd.ras c49.s2.s2.s2.s2.s2.s1.s2.bd.rbd .ready none) (by kernel_rfl) (RnB.loop _ _ _ _ _ _ _ (LRn.stx [2, 3, 4, 6, 17] [.map none, pt 4 0, pt 5 0, pt 9 0, .func (.func 60) ⟨[]⟩ ⟨[pt 10 0]⟩] [.map none, pt 4 0, pt 5 0, pt 9 0, .func (.func 60) ⟨[]⟩ ⟨[pt 10 0]⟩] (.fl (.pp (.pp (.pp (.cons (Rn.func' .nil (.pp .nil)) .nil))))) (by kernel_rfl) (by kernel_rfl) rfl))) (.nil _)))))))))))))) [.func (.yield 12) #[] #[], pt 10 0] (.cons (Rn.yield _ (nl rfl)) (.pp .nil))))
def P49l3 (p0 p1 : Int) (p2 : List I2) (r : (List (I2 × Bool)) × (List (I2 × PL))) : Post := fun e a h => e = .exit 2 ∧ Wk Try.prog 1 13 a h (st 27 []) [ab 57 e57 p2, cl 24 [iv p0, iv p1, sv 0 p2.length ANY], mb 83 u83 u4 r.1, mb 83 u83 u85 r.2, cl 101 [.map (some 2)], cl 76 [.map (some 3)], .dead, .mark, .dead, cl 102 [.func (.func 61) ⟨[]⟩ ⟨[pt 5 0, pt 4 0, pt 1 0, pt 9 0]⟩], cl 24 [iv p0, iv p1, sv 0 p2.length ANY], .mark, .loop (S49_23).tmps [18] c49.s2.s2.s2.s2.s2.s1.s2.bd.ras c49.s2.s2.s2.s2.s2.s1.s2.bd.rbd .ready none]
theorem L49l3 (p0 p1 : Int) (p2 : List I2) (v44 : Int) (v45 : List (I2 × Bool)) (v46 : List (I2 × PL)) (r : (List (I2 × Bool)) × (List (I2 × PL))) (hF : F49l3 p0 p1 p2 v44 v45 v46 = some r) : TL Try.prog 1 13 c49f60.s2.s2.bd.bd (st 27 [(0, .func (.yield 12) #[] #[]), (17, iv p1), (18, iv v44)]) (H49_11 p2 p0 p1 v45 v46) (P49l3 p0 p1 p2 r) := by
 refine F49l3.partial_correctness p0 p1 p2 (motive := fun v44 v45 v46 r => TL Try.prog 1 13 c49f60.s2.s2.bd.bd (st 27 [(0, .func (.yield 12) #[] #[]), (17, iv p1), (18, iv v44)]) (H49_11 p2 p0 p1 v45 v46) (P49l3 p0 p1 p2 r)) ?_ v44 v45 v46 r hF
 clear hF r v44 v45 v46
 intro again ih v44 v45 v46 r hF
 refine TL.round (TS.sq (TS.rg (TI.ra 1 [0, 17, 18, 19] (st 27 [(0, .func (.yield 12) #[] #[]), (17, iv p1), (18, iv v44), (19, .bool (decide (v44 < p1)))]) (TI.dn (NX.sq (TS.sq ?_))))))
 refine TS.cd (.tmp 19) (decide (v44 < p1)) (fun hc54 => ?_) (fun hc54 => ?_)
 · replace hF := of_pos hF hc54
   refine TS.sk (NX.sq (TS.sq (TS.bk 3 (TS.sq (TS.rg (TI.ra 2 [0, 4, 17, 18] (st 27 [(0, .func (.yield 12) #[] #[]), (4, iv v44), (17, iv p1), (18, iv v44)]) (TI.dn (NX.sq ?_))))))))
   refine TS.sq (TS.rg (TI.ra 3 [0, 17, 18, 21, 23] (st 27 [(0, .func (.yield 12) #[] #[]), (17, iv p1), (18, iv v44), (21, .func (.yield 12) #[] #[]), (23, ag [iv 1, iv v44])]) (TI.yield (l := 12) (n := 13) (args := [ag [iv 1, iv v44]]) (t := (S49_23).tmps) (p := [18]) («as» := c49.s2.s2.s2.s2.s2.s1.s2.bd.ras) (bd := c49.s2.s2.s2.s2.s2.s1.s2.bd.rbd) (a2 := (st 29 [(2, .map none), (3, pt 4 0), (4, pt 5 0), (6, pt 9 0), (17, .func (.func 60) ⟨[]⟩ ⟨[pt 10 0]⟩), (18, ag [iv 1, iv v44])])) (by kernel_rfl) (by kernel_rfl) (by decide) rfl (by kernel_rfl) (by kernel_rfl) (TS.rg (TI.rn 2 [3, 6, 7] [0, 1, 2, 3, 4, 5, 7, 9, 10, 11, 12, 13] (st 29 [(3, pt 4 0), (6, pt 9 0), (7, pt 13 0)]) (H49_2 p2 p0 p1 v45 v46 v44) (TI.dn ?_))))))
   refine ⟨rfl, (S49_23).tmps, [18], c49.s2.s2.s2.s2.s2.s1.s2.bd.ras, c49.s2.s2.s2.s2.s2.s1.s2.bd.rbd, by kernel_rfl, (TS.bk 3 (TS.sq ?_))⟩
   obtain ⟨o55, h56, hF⟩ := of_do hF
   replace h56 := sj h56
   refine TS.rg (TI.ra 2 [6, 7, 19, 20] (st 29 [(6, pt 9 0), (7, pt 13 0), (19, .map (some 2)), (20, ag [iv 1, iv v44])]) (TI.o { val := .bool o55 } (q_gN Try.prog (H49_4 p2 p0 p1 v45 v46 v44) 101 2 v45 (1, v44) 83 4 u83 u4 (ag [iv 1, iv v44]) false u83_fit u83_eq h56) [6, 7, 21] [0, 1, 2, 3, 4, 5, 7, 9, 10, 11, 12, 13] (st 29 [(6, pt 9 0), (7, pt 13 0), (21, .bool o55)]) (H49_4 p2 p0 p1 v45 v46 v44) (TI.dn (NX.sq ?_))))
   cases o55 with
   | true =>
    replace hF := of_pos hF rfl
    refine TS.cdT (.tmp 21) ?_
    obtain ⟨r57, h58, hF⟩ := of_do hF
    refine TS.rg (TI.rn 5 [22, 23, 26] [0, 1, 2, 3, 4, 5, 7, 9, 10, 11, 12] (st 29 [(22, .func (.func 61) ⟨[]⟩ ⟨[pt 5 0, pt 4 0, pt 1 0, pt 9 0]⟩), (23, ag [iv 1, iv v44]), (26, ag [iv 1, iv v44, iv 0, iv (-1), iv 1, iv v44])]) (H49_8 p2 p0 p1 v45 v46) (TI.icallM (g := 61) (args := [ag [iv 1, iv v44], ag [iv 1, iv v44, iv 0, iv (-1), iv 1, iv v44], pt 5 0, pt 4 0, pt 1 0, pt 9 0]) (v := .tuple ⟨[]⟩) (by kernel_rfl) (ImpSim.frameB (n := 7) (h := (H49_8 p2 p0 p1 v45 v46)) (ro := (H49_22 p0 p1 p2)) (wr := [mb 83 u83 u85 v46, mb 83 u83 u4 v45]) (wr' := [mb 83 u83 u85 r57.1, mb 83 u83 u4 r57.2]) (fun i => List.getD [(5, 0), (4, 0), (1, 0), (0, 0), (9, 0), (3, 0), (2, 0)] i (0, 0)) (C61 64 _ _ _ _ _ _ _ _ _ _ _ _ _ _ h58) rfl rfl (.cons (At.blk (b1 := cl 76 [.map (some 3)]) (by kernel_rfl) (RnB.lit (.cons (Rn.map _ (nl rfl)) .nil))) (.cons (At.blk (b1 := cl 101 [.map (some 2)]) (by kernel_rfl) (RnB.lit (.cons (Rn.map _ (nl rfl)) .nil))) (.cons (At.blk (b1 := cl 24 [iv p0, iv p1, sv 0 p2.length ANY]) (by kernel_rfl) (RnB.lit (.fl (.fl (.cons (Rn.any _ _ _ _ _ _ (nl rfl) rfl rfl (by decide)) .nil))))) (.ac (.cons (At.blk (b1 := cl 102 [.func (.func 61) ⟨[]⟩ ⟨[pt 5 0, pt 4 0, pt 1 0, pt 9 0]⟩]) (by kernel_rfl) (RnB.lit (.cons (Rn.func' .nil (.pp (.pp (.pp (.pp .nil))))) .nil))) (.cons (At.blk (by kernel_rfl) (RnB.map _ _)) (.cons (At.blk (by kernel_rfl) (RnB.map _ _)) (.nil _)))))))) (by kernel_rfl) (by kernel_rfl) (by kernel_rfl) (.fl (.fl (.pp (.pp (.pp (.pp .nil)))))) (by kernel_rfl)) [] [0, 1, 2, 3, 4, 5, 7, 9, 10, 11, 12] (a2 := (st 29 [])) (h2 := [ab 57 e57 p2, cl 24 [iv p0, iv p1, sv 0 p2.length ANY], mb 83 u83 u4 r57.2, mb 83 u83 u85 r57.1, cl 101 [.map (some 2)], cl 76 [.map (some 3)], .dead, .mark, .dead, cl 102 [.func (.func 61) ⟨[]⟩ ⟨[pt 5 0, pt 4 0, pt 1 0, pt 9 0]⟩], cl 24 [iv p0, iv p1, sv 0 p2.length ANY], .mark, .loop (S49_23).tmps [18] c49.s2.s2.s2.s2.s2.s1.s2.bd.ras c49.s2.s2.s2.s2.s2.s1.s2.bd.rbd .busy none, .dead]) (by kernel_rfl) (TI.dn (NX.bk ?_))))
    refine ⟨.bool true, (H49_6 p2 p0 p1 r57), by kernel_rfl, (TI.rn 0 [0, 17, 18, 24] [0, 1, 2, 3, 4, 5, 7, 9, 10, 11, 12] (st 27 [(0, .func (.yield 12) #[] #[]), (17, iv p1), (18, iv v44), (24, .bool true)]) (H49_6 p2 p0 p1 r57) (TI.ra 1 [0, 17, 18, 25] (st 27 [(0, .func (.yield 12) #[] #[]), (17, iv p1), (18, iv v44), (25, .bool false)]) (TI.dn (NX.sq (TS.cdF (.tmp 25) (TS.sk (NX.bk (NX.sq ?_))))))))⟩
    refine TS.rg (TI.ra 2 [0, 17, 18] (S49_26 p1 v44) (TI.dn ?_))
    exact Rd.again (a2 := (S49_26 p1 v44)) (h2 := [ab 57 e57 p2, cl 24 [iv p0, iv p1, sv 0 p2.length ANY], mb 83 u83 u4 r57.2, mb 83 u83 u85 r57.1, cl 101 [.map (some 2)], cl 76 [.map (some 3)], .dead, .mark, .dead, cl 102 [.func (.func 61) ⟨[]⟩ ⟨[pt 5 0, pt 4 0, pt 1 0, pt 9 0]⟩], cl 24 [iv p0, iv p1, sv 0 p2.length ANY], .mark, .loop (S49_23).tmps [18] c49.s2.s2.s2.s2.s2.s1.s2.bd.ras c49.s2.s2.s2.s2.s2.s1.s2.bd.rbd .ready none]) (Wk.an [] (.ac (.lt (.fl (.fl (.sl .nil))) (.cons (At.blk (by kernel_rfl) (RnB.map _ _)) (.cons (At.blk (by kernel_rfl) (RnB.map _ _)) (.lt (.cons (Rn.map _ (nl rfl)) .nil) (.lt (.cons (Rn.map _ (nl rfl)) .nil) (.cons (.inl rfl) (.cons (At.blk (by kernel_rfl) RnB.mark) (.cons (.inl rfl) (.lt (.cons (Rn.func' .nil (.pp (.pp (.pp (.pp .nil))))) .nil) (.lt (.fl (.fl (.sl .nil))) (.cons (At.blk (by kernel_rfl) RnB.mark) (.cons (At.blk (b1 := .loop (S49_23).tmps [18] c49.s2.s2.s2.s2.s2.s1.s2.bd.ras c49.s2.s2.s2.s2.s2.s1.s2.bd.rbd .ready none) (by kernel_rfl) (RnB.loop _ _ _ _ _ _ _ (LRn.stx [2, 3, 4, 6, 17] [.map none, pt 4 0, pt 5 0, pt 9 0, .func (.func 60) ⟨[]⟩ ⟨[pt 10 0]⟩] [.map none, pt 4 0, pt 5 0, pt 9 0, .func (.func 60) ⟨[]⟩ ⟨[pt 10 0]⟩] (.fl (.pp (.pp (.pp (.cons (Rn.func' .nil (.pp .nil)) .nil))))) (by kernel_rfl) (by kernel_rfl) rfl))) (.nil _)))))))))))))) [.func (.yield 12) #[] #[], iv p1, iv (w64 (v44 + 1))] (.cons (Rn.yield _ (nl rfl)) (.fl (.fl .nil)))) (ih (w64 (v44 + 1)) r57.2 r57.1 _ hF)
   | false =>
    replace hF := of_neg hF rfl
    refine TS.cdF (.tmp 21) (TS.sk (NX.bk ?_))
    refine ⟨.bool true, (H49_2 p2 p0 p1 v45 v46 v44), by kernel_rfl, (TI.rn 0 [0, 17, 18, 24] [0, 1, 2, 3, 4, 5, 7, 9, 10, 11, 12] (st 27 [(0, .func (.yield 12) #[] #[]), (17, iv p1), (18, iv v44), (24, .bool true)]) [ab 57 e57 p2, cl 24 [iv p0, iv p1, sv 0 p2.length ANY], mb 83 u83 u4 v45, mb 83 u83 u85 v46, cl 101 [.map (some 2)], cl 76 [.map (some 3)], .dead, .mark, .dead, cl 102 [.func (.func 61) ⟨[]⟩ ⟨[pt 5 0, pt 4 0, pt 1 0, pt 9 0]⟩], cl 24 [iv p0, iv p1, sv 0 p2.length ANY], .mark, .loop (S49_23).tmps [18] c49.s2.s2.s2.s2.s2.s1.s2.bd.ras c49.s2.s2.s2.s2.s2.s1.s2.bd.rbd .ready none, .dead] (TI.ra 1 [0, 17, 18, 25] (st 27 [(0, .func (.yield 12) #[] #[]), (17, iv p1), (18, iv v44), (25, .bool false)]) (TI.dn (NX.sq (TS.cdF (.tmp 25) (TS.sk (NX.bk (NX.sq ?_))))))))⟩
    refine TS.rg (TI.ra 2 [0, 17, 18] (S49_26 p1 v44) (TI.dn ?_))
    exact Rd.again (a2 := (S49_26 p1 v44)) (h2 := (H49_11 p2 p0 p1 v45 v46)) (Wk.an [] (.ac (.lt (.fl (.fl (.sl .nil))) (.cons (At.blk (by kernel_rfl) (RnB.map _ _)) (.cons (At.blk (by kernel_rfl) (RnB.map _ _)) (.lt (.cons (Rn.map _ (nl rfl)) .nil) (.lt (.cons (Rn.map _ (nl rfl)) .nil) (.cons (.inl rfl) (.cons (At.blk (by kernel_rfl) RnB.mark) (.cons (.inl rfl) (.lt (.cons (Rn.func' .nil (.pp (.pp (.pp (.pp .nil))))) .nil) (.lt (.fl (.fl (.sl .nil))) (.cons (At.blk (by kernel_rfl) RnB.mark) (.cons (At.blk (b1 := .loop (S49_23).tmps [18] c49.s2.s2.s2.s2.s2.s1.s2.bd.ras c49.s2.s2.s2.s2.s2.s1.s2.bd.rbd .ready none) (by kernel_rfl) (RnB.loop _ _ _ _ _ _ _ (LRn.stx [2, 3, 4, 6, 17] [.map none, pt 4 0, pt 5 0, pt 9 0, .func (.func 60) ⟨[]⟩ ⟨[pt 10 0]⟩] [.map none, pt 4 0, pt 5 0, pt 9 0, .func (.func 60) ⟨[]⟩ ⟨[pt 10 0]⟩] (.fl (.pp (.pp (.pp (.cons (Rn.func' .nil (.pp .nil)) .nil))))) (by kernel_rfl) (by kernel_rfl) rfl))) (.nil _)))))))))))))) [.func (.yield 12) #[] #[], iv p1, iv (w64 (v44 + 1))] (.cons (Rn.yield _ (nl rfl)) (.fl (.fl .nil)))) (ih (w64 (v44 + 1)) v45 v46 _ hF)
 replace hF := of_neg hF hc54
 refine TS.ex 2 (NX.sqX ?_)
 have hF := sj hF
 subst hF
 exact Rd.out (e := .exit 2) (by intro h; cases h) (And.intro rfl (Wk.an [] (.ac (.lt (.fl (.fl (.sl .nil))) (.cons (At.blk (by kernel_rfl) (RnB.map _ _)) (.cons (At.blk (by kernel_rfl) (RnB.map _ _)) (.lt (.cons (Rn.map _ (nl rfl)) .nil) (.lt (.cons (Rn.map _ (nl rfl)) .nil) (.cons (.inl rfl) (.cons (At.blk (by kernel_rfl) RnB.mark) (.cons (.inl rfl) (.lt (.cons (Rn.func' .nil (.pp (.pp (.pp (.pp .nil))))) .nil) (.lt (.fl (.fl (.sl .nil))) (.cons (At.blk (by kernel_rfl) RnB.mark) (.cons (At.blk (b1 := .loop (S49_23).tmps [18] c49.s2.s2.s2.s2.s2.s1.s2.bd.ras c49.s2.s2.s2.s2.s2.s1.s2.bd.rbd .ready none) (by kernel_rfl) (RnB.loop _ _ _ _ _ _ _ (LRn.stx [2, 3, 4, 6, 17] [.map none, pt 4 0, pt 5 0, pt 9 0, .func (.func 60) ⟨[]⟩ ⟨[pt 10 0]⟩] [.map none, pt 4 0, pt 5 0, pt 9 0, .func (.func 60) ⟨[]⟩ ⟨[pt 10 0]⟩] (.fl (.pp (.pp (.pp (.cons (Rn.func' .nil (.pp .nil)) .nil))))) (by kernel_rfl) (by kernel_rfl) rfl))) (.nil _)))))))))))))) [] .nil))
theorem B49 (p0 p1 : Int) (p2 : List I2) (r : List (I2 × PL)) (hF : F49 p0 p1 p2 = some r) : TS0 Try.prog 1 1 c49 (st 29 [(0, ag [iv p0, iv p1, sv 0 p2.length ANY])]) [ab 57 e57 p2] (NX0 Try.prog 1 1 [] (FinM Try.prog Try.f49 1 (V49 1 r) (N49 1 r))) := by
 unfold F49 at hF
 refine TS0.sqP (by kernel_rfl) (TS0.piece (TS.rg (TI.rn 2 [1, 2] [0, 1] (st 29 [(1, pt 1 0), (2, .map none)]) [ab 57 e57 p2, cl 24 [iv p0, iv p1, sv 0 p2.length ANY]] (TI.dn (NX.z (NX0.sq (TS0.sqP (by kernel_rfl) (TS0.piece ?_))))))))
 refine TS.rg (TI.rn 6 [1, 2, 3, 4] [0, 1, 2, 3, 4, 5] (st 29 [(1, pt 1 0), (2, .map none), (3, pt 4 0), (4, pt 5 0)]) [ab 57 e57 p2, cl 24 [iv p0, iv p1, sv 0 p2.length ANY], .map 83 (List.map (mEnc u83 u4) ([] : (List (I2 × Bool)))), .map 83 (List.map (mEnc u83 u85) ([] : (List (I2 × PL)))), cl 101 [.map (some 2)], cl 76 [.map (some 3)]] (TI.dn (NX.z (NX0.sq (TS0.sqP (by kernel_rfl) (TS0.sqP (by kernel_rfl) (TS0.piece (TS.rg ?_))))))))
 refine TI.ra 1 [1, 2, 3, 4, 10] (st 29 [(1, pt 1 0), (2, .map none), (3, pt 4 0), (4, pt 5 0), (10, ag [iv p0, iv p1, sv 0 p2.length ANY])]) (TI.inline (g := 47) (args := [ag [iv p0, iv p1, sv 0 p2.length ANY]]) (fn := Try.f47) (c := c49f47) (n := 6) (by kernel_rfl) (by kernel_rfl) (by kernel_rfl) (by kernel_rfl) (by kernel_rfl) [0] (a2 := (st 4 [(0, ag [iv p0, iv p1, sv 0 p2.length ANY])])) (by kernel_rfl) (TS.sq (TS.rg (TI.rn 2 [1] [0, 1, 2, 3, 4, 5, 6] (st 4 [(1, pt 6 0)]) (H49_21 p2 p0 p1) (TI.dn (NX.sq (TS.sq (TS.rg ?_))))))))
 refine TI.ra 2 [2] (st 4 [(2, .func (.func 60) ⟨[]⟩ ⟨[pt 6 0]⟩)]) (TI.dn (NX.sq (TS.rt ?_)))
 refine ⟨.inr rfl, rfl, .func (.func 60) ⟨[]⟩ ⟨[pt 6 0]⟩, .func (.func 60) ⟨[]⟩ ⟨[pt 6 0]⟩, (H49_21 p2 p0 p1), by kernel_rfl, WkV.refl, (TI.rn 0 [1, 2, 3, 4, 11] [0, 1, 2, 3, 4, 5, 6] (S49_24) (H49_21 p2 p0 p1) (TI.dn (NX.z (NX0.sq (TS0.bkP (id := 0) (by kernel_rfl) (TS0.rgP (g := (.tmp 11)) (ps := #[12]) (f := 60) (first := #[]) (captured := #[pt 6 0]) (fn := Try.f60) (ci := c49f60) (n := 7) (by kernel_rfl) (by kernel_rfl) (by kernel_rfl) (by kernel_rfl) (by kernel_rfl) (by kernel_rfl) [0, 1] (a2 := (st 27 [(0, .func (.yield 8) #[] #[]), (1, pt 6 0)])) (h2 := (H49_12 p2 p0 p1)) (by kernel_rfl) (by kernel_rfl) (TS.sq (TS.sq ?_))))))))⟩
 refine TS.rg (TI.ra 3 [0, 1, 6, 7] (st 27 [(0, .func (.yield 8) #[] #[]), (1, pt 6 0), (6, iv p0), (7, iv 0)]) (TI.dn (NX.sq (TS.bk 0 ?_))))
 obtain ⟨r7, h8, hF⟩ := of_do hF
 refine TS.lp (TL.weak (a2 := (st 27 [(0, .func (.yield 8) #[] #[]), (1, pt 6 0), (6, iv p0), (7, iv 0)])) (h2 := (H49_12 p2 p0 p1)) (Wk.an [] (.ac (.lt (.fl (.fl (.sl .nil))) (.cons (At.blk (by kernel_rfl) (RnB.map _ _)) (.cons (At.blk (by kernel_rfl) (RnB.map _ _)) (.lt (.cons (Rn.map _ (nl rfl)) .nil) (.lt (.cons (Rn.map _ (nl rfl)) .nil) (.lt (.fl (.fl (.sl .nil))) (.cons (At.blk (by kernel_rfl) RnB.mark) (.cons (At.blk (b1 := .loop (S49_24).tmps [12] c49.s2.s2.s1.s2.bd.ras c49.s2.s2.s1.s2.bd.rbd .ready none) (by kernel_rfl) (RnB.loop _ _ _ _ _ _ _ (LRn.stx [1, 2, 3, 4, 11] [pt 1 0, .map none, pt 4 0, pt 5 0, .func (.func 60) ⟨[]⟩ ⟨[pt 6 0]⟩] [pt 1 0, .map none, pt 4 0, pt 5 0, .func (.func 60) ⟨[]⟩ ⟨[pt 6 0]⟩] (.pp (.fl (.pp (.pp (.cons (Rn.func' .nil (.pp .nil)) .nil))))) (by kernel_rfl) (by kernel_rfl) rfl))) (.nil _)))))))))) [.func (.yield 8) #[] #[], pt 6 0, iv p0, iv 0] (.cons (Rn.yield _ (nl rfl)) (.pp (.fl (.fl .nil))))) (TL.post (L49l0 p0 p1 p2 0 ([] : (List (I2 × Bool))) r7 h8) ?_))
 rintro e a1 h1 hp
 obtain ⟨rfl, hw⟩ := hp
 refine ⟨(st 27 [(0, .func (.yield 8) #[] #[]), (1, pt 6 0)]), (H49_19 p2 p0 p1 r7), (NX.bkX (NX.sq (TS.sq (TS.rg (TI.ra 3 [0, 17, 18] (st 27 [(0, .func (.yield 8) #[] #[]), (17, iv p1), (18, iv 0)]) (TI.dn (NX.sq (TS.bk 2 ?_)))))))), hw⟩
 obtain ⟨r15, h16, hF⟩ := of_do hF
 refine TS.lp (TL.weak (a2 := (st 27 [(0, .func (.yield 8) #[] #[]), (17, iv p1), (18, iv 0)])) (h2 := (H49_19 p2 p0 p1 r7)) (Wk.an [] (.ac (.lt (.fl (.fl (.sl .nil))) (.cons (At.blk (by kernel_rfl) (RnB.map _ _)) (.cons (At.blk (by kernel_rfl) (RnB.map _ _)) (.lt (.cons (Rn.map _ (nl rfl)) .nil) (.lt (.cons (Rn.map _ (nl rfl)) .nil) (.lt (.fl (.fl (.sl .nil))) (.cons (At.blk (by kernel_rfl) RnB.mark) (.cons (At.blk (b1 := .loop (S49_24).tmps [12] c49.s2.s2.s1.s2.bd.ras c49.s2.s2.s1.s2.bd.rbd .ready none) (by kernel_rfl) (RnB.loop _ _ _ _ _ _ _ (LRn.stx [1, 2, 3, 4, 11] [pt 1 0, .map none, pt 4 0, pt 5 0, .func (.func 60) ⟨[]⟩ ⟨[pt 6 0]⟩] [pt 1 0, .map none, pt 4 0, pt 5 0, .func (.func 60) ⟨[]⟩ ⟨[pt 6 0]⟩] (.pp (.fl (.pp (.pp (.cons (Rn.func' .nil (.pp .nil)) .nil))))) (by kernel_rfl) (by kernel_rfl) rfl))) (.nil _)))))))))) [.func (.yield 8) #[] #[], iv p1, iv 0] (.cons (Rn.yield _ (nl rfl)) (.fl (.fl .nil)))) (TL.post (L49l1 p0 p1 p2 0 r7 r15 h16) ?_))
 rintro e a1 h1 hp
 obtain ⟨rfl, hw⟩ := hp
 refine ⟨(st 27 []), [ab 57 e57 p2, cl 24 [iv p0, iv p1, sv 0 p2.length ANY], mb 83 u83 u4 r15, .map 83 (List.map (mEnc u83 u85) ([] : (List (I2 × PL)))), cl 101 [.map (some 2)], cl 76 [.map (some 3)], cl 24 [iv p0, iv p1, sv 0 p2.length ANY], .mark, .loop (S49_24).tmps [12] c49.s2.s2.s1.s2.bd.ras c49.s2.s2.s1.s2.bd.rbd .ready none], (NX.bkX ?_), hw⟩
 refine ⟨.inl rfl, rfl, ⟨.tuple ⟨[]⟩, by kernel_rfl⟩, .inl ⟨(S49_24).tmps, [12], c49.s2.s2.s1.s2.bd.ras, c49.s2.s2.s1.s2.bd.rbd, by kernel_rfl, (NX0.bk (NX0.sq (TS0.startM [1, 2, 3, 4] [0, 1, 2, 3, 4, 5, 7] (a2 := (stm 29 [7] [(1, pt 1 0), (2, .map none), (3, pt 4 0), (4, pt 5 0)])) (h2 := [ab 57 e57 p2, cl 24 [iv p0, iv p1, sv 0 p2.length ANY], mb 83 u83 u4 r15, .map 83 (List.map (mEnc u83 u85) ([] : (List (I2 × PL)))), cl 101 [.map (some 2)], cl 76 [.map (some 3)], .dead, .mark, .dead]) (by kernel_rfl) (TS0.sqP (by kernel_rfl) (TS0.piece (TS.rg (TI.rn 1 [1, 2, 3, 4, 6] [0, 1, 2, 3, 4, 5, 7, 9] (stm 29 [7] [(1, pt 1 0), (2, .map none), (3, pt 4 0), (4, pt 5 0), (6, pt 9 0)]) [ab 57 e57 p2, cl 24 [iv p0, iv p1, sv 0 p2.length ANY], mb 83 u83 u4 r15, .map 83 (List.map (mEnc u83 u85) ([] : (List (I2 × PL)))), cl 101 [.map (some 2)], cl 76 [.map (some 3)], .dead, .mark, .dead, cl 102 [.nilFunc]] (TI.dn (NX.z ?_)))))))))⟩⟩
 refine NX0.sq (TS0.sqP (by kernel_rfl) (TS0.piece (TS.rg (TI.rn 2 [1, 2, 3, 4, 6] [0, 1, 2, 3, 4, 5, 7, 9] (stm 29 [7] [(1, pt 1 0), (2, .map none), (3, pt 4 0), (4, pt 5 0), (6, pt 9 0)]) [ab 57 e57 p2, cl 24 [iv p0, iv p1, sv 0 p2.length ANY], mb 83 u83 u4 r15, .map 83 (List.map (mEnc u83 u85) ([] : (List (I2 × PL)))), cl 101 [.map (some 2)], cl 76 [.map (some 3)], .dead, .mark, .dead, cl 102 [.func (.func 61) ⟨[]⟩ ⟨[pt 5 0, pt 4 0, pt 1 0, pt 9 0]⟩]] (TI.dn (NX.z (NX0.sq (TS0.sqP (by kernel_rfl) ?_))))))))
 refine TS0.sqP (by kernel_rfl) (TS0.piece (TS.rg (TI.ra 1 [2, 3, 4, 6, 16] (stm 29 [7] [(2, .map none), (3, pt 4 0), (4, pt 5 0), (6, pt 9 0), (16, ag [iv p0, iv p1, sv 0 p2.length ANY])]) (TI.inline (g := 47) (args := [ag [iv p0, iv p1, sv 0 p2.length ANY]]) (fn := Try.f47) (c := c49f47) (n := 10) (by kernel_rfl) (by kernel_rfl) (by kernel_rfl) (by kernel_rfl) (by kernel_rfl) [0] (a2 := (st 4 [(0, ag [iv p0, iv p1, sv 0 p2.length ANY])])) (by kernel_rfl) (TS.sq (TS.rg (TI.rn 2 [1] [0, 1, 2, 3, 4, 5, 7, 9, 10] (st 4 [(1, pt 10 0)]) (H49_20 p2 p0 p1 r15) (TI.dn ?_))))))))
 refine NX.sq (TS.sq (TS.rg (TI.ra 2 [2] (st 4 [(2, .func (.func 60) ⟨[]⟩ ⟨[pt 10 0]⟩)]) (TI.dn (NX.sq (TS.rt ?_))))))
 refine ⟨.inr rfl, rfl, .func (.func 60) ⟨[]⟩ ⟨[pt 10 0]⟩, .func (.func 60) ⟨[]⟩ ⟨[pt 10 0]⟩, (H49_20 p2 p0 p1 r15), by kernel_rfl, WkV.refl, (TI.rn 0 [2, 3, 4, 6, 17] [0, 1, 2, 3, 4, 5, 7, 9, 10] (stm 29 [7] [(2, .map none), (3, pt 4 0), (4, pt 5 0), (6, pt 9 0), (17, .func (.func 60) ⟨[]⟩ ⟨[pt 10 0]⟩)]) (H49_20 p2 p0 p1 r15) (TI.dn (NX.z (NX0.sq (TS0.bkP (id := 2) (by kernel_rfl) (TS0.rgP (g := (.tmp 17)) (ps := #[18]) (f := 60) (first := #[]) (captured := #[pt 10 0]) (fn := Try.f60) (ci := c49f60) (n := 11) (by kernel_rfl) (by kernel_rfl) (by kernel_rfl) (by kernel_rfl) (by kernel_rfl) (by kernel_rfl) [0, 1] (a2 := (st 27 [(0, .func (.yield 12) #[] #[]), (1, pt 10 0)])) (h2 := (H49_0 p2 p0 p1 r15)) (by kernel_rfl) (by kernel_rfl) (TS.sq (TS.sq ?_))))))))⟩
 refine TS.rg (TI.ra 3 [0, 1, 6, 7] (st 27 [(0, .func (.yield 12) #[] #[]), (1, pt 10 0), (6, iv p0), (7, iv 0)]) (TI.dn (NX.sq (TS.bk 0 ?_))))
 obtain ⟨r37, h38, hF⟩ := of_do hF
 refine TS.lp (TL.weak (a2 := (st 27 [(0, .func (.yield 12) #[] #[]), (1, pt 10 0), (6, iv p0), (7, iv 0)])) (h2 := (H49_0 p2 p0 p1 r15)) (Wk.an [] (.ac (.lt (.fl (.fl (.sl .nil))) (.cons (At.blk (by kernel_rfl) (RnB.map _ _)) (.cons (At.blk (by kernel_rfl) (RnB.map _ _)) (.lt (.cons (Rn.map _ (nl rfl)) .nil) (.lt (.cons (Rn.map _ (nl rfl)) .nil) (.cons (.inl rfl) (.cons (At.blk (by kernel_rfl) RnB.mark) (.cons (.inl rfl) (.lt (.cons (Rn.func' .nil (.pp (.pp (.pp (.pp .nil))))) .nil) (.lt (.fl (.fl (.sl .nil))) (.cons (At.blk (by kernel_rfl) RnB.mark) (.cons (At.blk (b1 := .loop (S49_23).tmps [18] c49.s2.s2.s2.s2.s2.s1.s2.bd.ras c49.s2.s2.s2.s2.s2.s1.s2.bd.rbd .ready none) (by kernel_rfl) (RnB.loop _ _ _ _ _ _ _ (LRn.stx [2, 3, 4, 6, 17] [.map none, pt 4 0, pt 5 0, pt 9 0, .func (.func 60) ⟨[]⟩ ⟨[pt 10 0]⟩] [.map none, pt 4 0, pt 5 0, pt 9 0, .func (.func 60) ⟨[]⟩ ⟨[pt 10 0]⟩] (.fl (.pp (.pp (.pp (.cons (Rn.func' .nil (.pp .nil)) .nil))))) (by kernel_rfl) (by kernel_rfl) rfl))) (.nil _)))))))))))))) [.func (.yield 12) #[] #[], pt 10 0, iv p0, iv 0] (.cons (Rn.yield _ (nl rfl)) (.pp (.fl (.fl .nil))))) (TL.post (L49l2 p0 p1 p2 0 r15 ([] : (List (I2 × PL))) r37 h38) ?_))
 rintro e a1 h1 hp
 obtain ⟨rfl, hw⟩ := hp
 refine ⟨(st 27 [(0, .func (.yield 12) #[] #[]), (1, pt 10 0)]), (H49_9 p2 p0 p1 r37), (NX.bkX (NX.sq (TS.sq (TS.rg (TI.ra 3 [0, 17, 18] (st 27 [(0, .func (.yield 12) #[] #[]), (17, iv p1), (18, iv 0)]) (TI.dn (NX.sq (TS.bk 2 ?_)))))))), hw⟩
 obtain ⟨r59, h60, hF⟩ := of_do hF
 refine TS.lp (TL.weak (a2 := (st 27 [(0, .func (.yield 12) #[] #[]), (17, iv p1), (18, iv 0)])) (h2 := (H49_9 p2 p0 p1 r37)) (Wk.an [] (.ac (.lt (.fl (.fl (.sl .nil))) (.cons (At.blk (by kernel_rfl) (RnB.map _ _)) (.cons (At.blk (by kernel_rfl) (RnB.map _ _)) (.lt (.cons (Rn.map _ (nl rfl)) .nil) (.lt (.cons (Rn.map _ (nl rfl)) .nil) (.cons (.inl rfl) (.cons (At.blk (by kernel_rfl) RnB.mark) (.cons (.inl rfl) (.lt (.cons (Rn.func' .nil (.pp (.pp (.pp (.pp .nil))))) .nil) (.lt (.fl (.fl (.sl .nil))) (.cons (At.blk (by kernel_rfl) RnB.mark) (.cons (At.blk (b1 := .loop (S49_23).tmps [18] c49.s2.s2.s2.s2.s2.s1.s2.bd.ras c49.s2.s2.s2.s2.s2.s1.s2.bd.rbd .ready none) (by kernel_rfl) (RnB.loop _ _ _ _ _ _ _ (LRn.stx [2, 3, 4, 6, 17] [.map none, pt 4 0, pt 5 0, pt 9 0, .func (.func 60) ⟨[]⟩ ⟨[pt 10 0]⟩] [.map none, pt 4 0, pt 5 0, pt 9 0, .func (.func 60) ⟨[]⟩ ⟨[pt 10 0]⟩] (.fl (.pp (.pp (.pp (.cons (Rn.func' .nil (.pp .nil)) .nil))))) (by kernel_rfl) (by kernel_rfl) rfl))) (.nil _)))))))))))))) [.func (.yield 12) #[] #[], iv p1, iv 0] (.cons (Rn.yield _ (nl rfl)) (.fl (.fl .nil)))) (TL.post (L49l3 p0 p1 p2 0 r37.1 r37.2 r59 h60) ?_))
 rintro e a1 h1 hp
 obtain ⟨rfl, hw⟩ := hp
 refine ⟨(st 27 []), [ab 57 e57 p2, cl 24 [iv p0, iv p1, sv 0 p2.length ANY], mb 83 u83 u4 r59.1, mb 83 u83 u85 r59.2, cl 101 [.map (some 2)], cl 76 [.map (some 3)], .dead, .mark, .dead, cl 102 [.func (.func 61) ⟨[]⟩ ⟨[pt 5 0, pt 4 0, pt 1 0, pt 9 0]⟩], cl 24 [iv p0, iv p1, sv 0 p2.length ANY], .mark, .loop (S49_23).tmps [18] c49.s2.s2.s2.s2.s2.s1.s2.bd.ras c49.s2.s2.s2.s2.s2.s1.s2.bd.rbd .ready none], (NX.bkX ?_), hw⟩
 refine ⟨.inl rfl, rfl, ⟨.tuple ⟨[]⟩, by kernel_rfl⟩, .inl ⟨(S49_23).tmps, [18], c49.s2.s2.s2.s2.s2.s1.s2.bd.ras, c49.s2.s2.s2.s2.s2.s1.s2.bd.rbd, by kernel_rfl, (NX0.bk (NX0.sq (TS0.startM [4] [0, 3, 5, 7, 11] (a2 := (stm 29 [11, 7] [(4, pt 5 0)])) (h2 := [ab 57 e57 p2, .dead, .dead, mb 83 u83 u85 r59.2, .dead, cl 76 [.map (some 3)], .dead, .mark, .dead, .dead, .dead, .mark, .dead]) (by kernel_rfl) (TS0.piece (TS.sq (TS.rg (TI.rn 2 [2] [0, 3, 7, 11] (stm 29 [11, 7] [(2, .map (some 3))]) [ab 57 e57 p2, .dead, .dead, mb 83 u83 u85 r59.2, .dead, .dead, .dead, .mark, .dead, .dead, .dead, .mark, .dead] (TI.dn (NX.sq ?_)))))))))⟩⟩
 refine TS.rt (NX.z ?_)
 have hF := sj hF
 subst hF
 exact ⟨.inr rfl, [ab 57 e57 p2, .dead, .dead, mb 83 u83 u85 r59.2, .dead, .dead, .dead, .dead, .dead, .dead, .dead, .dead, .dead], by kernel_rfl, .map (some 3), by kernel_rfl, WkV.made (L := 1) (f := [3]) (by decide) (by decide) rfl (.cons (At.blk (by kernel_rfl) (RnB.map _ _)) (.nil _)) (Rn.map _ (nl rfl))⟩
theorem C49 (p0 p1 : Int) (p2 : List I2) (r : List (I2 × PL)) (hF : F49 p0 p1 p2 = some r) : PureSim Try.prog 49 [ag [iv p0, iv p1, sv 0 p2.length ANY]] [ab 57 e57 p2] (V49 1 r) (N49 1 r) :=
 PureSim.of_FinM Try.func49 (c := c49) (by kernel_rfl) (by kernel_rfl) 1 rfl [0] [0] (by kernel_rfl) (B49 p0 p1 p2 r hF)
noncomputable def c64 : Code := Try.f64.code
def H64_0 (p2 p3 : Int) (p4 : List I2) (p5 : List (I2 × PL)) (p0 p1 : Int) (r1 : I2 × I2) : List Blk := [cl 24 [iv p2, iv p3, sv 1 p4.length ANY], ab 57 e57 p4, cl 76 [.map (some 3)], mb 83 u83 u85 p5, cl 57 [iv p0, iv p1], cl 83 [iv r1.1.1, iv r1.1.2], cl 83 [iv r1.2.1, iv r1.2.2]]
def F64 (p0 p1 p2 p3 : Int) (p4 : List I2) (p5 : List (I2 × PL)) : Option Bool :=
 F55 p2 p3 p4 p0 >>= fun r1 =>
 some (Option.getD (mget p5 (r1.1.1, r1.1.2)) ((0, 0), 0, 0, (0, 0))) >>= fun o3 =>
 some (Option.getD (mget p5 (r1.2.1, r1.2.2)) ((0, 0), 0, 0, (0, 0))) >>= fun o5 =>
 some ((w64 (o3.2.1 + o5.2.1)) != p1)
def V64 (b : Nat) (r : Bool) : Value := .bool r
def N64 (b : Nat) (r : Bool) : List Blk := []
theorem B64 (p0 p1 p2 p3 : Int) (p4 : List I2) (p5 : List (I2 × PL)) (r : Bool) (hF : F64 p0 p1 p2 p3 p4 p5 = some r) : TS Try.prog 4 4 c64 (st 26 [(0, ag [iv p0, iv p1]), (1, pt 0 0), (2, pt 2 0)]) [cl 24 [iv p2, iv p3, sv 1 p4.length ANY], ab 57 e57 p4, cl 76 [.map (some 3)], mb 83 u83 u85 p5] (NX Try.prog 4 4 [] (FinP Try.prog Try.f64 4 (V64 4 r) (N64 4 r))) := by
 unfold F64 at hF
 refine TS.sq (TS.rg (TI.rn 2 [1, 2, 3] [0, 1, 2, 3, 4] (st 26 [(1, pt 0 0), (2, pt 2 0), (3, pt 4 0)]) [cl 24 [iv p2, iv p3, sv 1 p4.length ANY], ab 57 e57 p4, cl 76 [.map (some 3)], mb 83 u83 u85 p5, cl 57 [iv p0, iv p1]] (TI.dn (NX.sq (TS.sq ?_)))))
 obtain ⟨r1, h2, hF⟩ := of_do hF
 refine TS.rg (TI.ra 3 [2, 3, 8, 10] (st 26 [(2, pt 2 0), (3, pt 4 0), (8, ag [iv p2, iv p3, sv 1 p4.length ANY]), (10, iv p0)]) (TI.cp 55 [ag [iv p2, iv p3, sv 1 p4.length ANY], iv p0] (.tuple ⟨[ag [iv r1.1.1, iv r1.1.2], ag [iv r1.2.1, iv r1.2.2]]⟩) [] (PureSim.ren (hc := [ab 57 e57 p4]) (fun i => List.getD [(1, 0)] i (0, 0)) (C55 _ _ _ _ _ h2) (.ac (.nil _)) (.cons (Rn.agg' (.fl (.fl (.cons (Rn.any _ _ _ _ _ _ (nl rfl) rfl rfl (by decide)) .nil)))) (.fl .nil)) (.flat (by kernel_rfl)) newflat_nil) (TI.rn 7 [2, 3, 5, 6] [0, 1, 2, 3, 4, 5, 6] (st 26 [(2, pt 2 0), (3, pt 4 0), (5, pt 5 0), (6, pt 6 0)]) (H64_0 p2 p3 p4 p5 p0 p1 r1) (TI.dn (NX.sq (TS.sq ?_))))))
 obtain ⟨o3, h4, hF⟩ := of_do hF
 replace h4 := sj h4
 obtain ⟨o5, h6, hF⟩ := of_do hF
 replace h6 := sj h6
 refine TS.dp [] (fun e he => by cases he) mixed 11 [4] [0, 1, 2, 3] (st 26 [(4, .bool ((w64 (o3.2.1 + o5.2.1)) != p1))]) [cl 24 [iv p2, iv p3, sv 1 p4.length ANY], ab 57 e57 p4, cl 76 [.map (some 3)], mb 83 u83 u85 p5, .dead, .dead, .dead] ?_ ?_
 · exact QJ.rn (qs (st 26 [(2, pt 2 0), (3, pt 4 0), (5, pt 5 0), (6, pt 6 0), (14, .map (some 3)), (15, ag [iv r1.1.1, iv r1.1.2])]) (H64_0 p2 p3 p4 p5 p0 p1 r1) [] []) 2 (QJ.o { val := ag [iv o3.1.1, iv o3.1.2, iv o3.2.1, iv o3.2.2.1, iv o3.2.2.2.1, iv o3.2.2.2.2] } (q_gN Try.prog (H64_0 p2 p3 p4 p5 p0 p1 r1) 76 3 p5 (r1.1.1, r1.1.2) 83 85 u83 u85 (ag [iv r1.1.1, iv r1.1.2]) ((0, 0), 0, 0, (0, 0)) u83_fit u83_eq h4) (QJ.rn (qs (st 26 [(2, pt 2 0), (3, pt 4 0), (5, pt 5 0), (6, pt 6 0), (14, .map (some 3)), (15, ag [iv r1.1.1, iv r1.1.2]), (16, ag [iv o3.1.1, iv o3.1.2, iv o3.2.1, iv o3.2.2.1, iv o3.2.2.2.1, iv o3.2.2.2.2]), (17, iv o3.2.1), (18, .map (some 3)), (19, ag [iv r1.2.1, iv r1.2.2])]) (H64_0 p2 p3 p4 p5 p0 p1 r1) [] []) 3 (QJ.o { val := ag [iv o5.1.1, iv o5.1.2, iv o5.2.1, iv o5.2.2.1, iv o5.2.2.2.1, iv o5.2.2.2.2] } (q_gN Try.prog (H64_0 p2 p3 p4 p5 p0 p1 r1) 76 3 p5 (r1.2.1, r1.2.2) 83 85 u83 u85 (ag [iv r1.2.1, iv r1.2.2]) ((0, 0), 0, 0, (0, 0)) u83_fit u83_eq h6) (QJ.rn (qs (st 26 [(2, pt 2 0), (3, pt 4 0), (5, pt 5 0), (6, pt 6 0), (14, .map (some 3)), (15, ag [iv r1.1.1, iv r1.1.2]), (16, ag [iv o3.1.1, iv o3.1.2, iv o3.2.1, iv o3.2.2.1, iv o3.2.2.2.1, iv o3.2.2.2.2]), (17, iv o3.2.1), (18, .map (some 3)), (19, ag [iv r1.2.1, iv r1.2.2]), (20, ag [iv o5.1.1, iv o5.1.2, iv o5.2.1, iv o5.2.2.1, iv o5.2.2.2.1, iv o5.2.2.2.2]), (21, iv o5.2.1), (22, iv (w64 (o3.2.1 + o5.2.1))), (23, pt 4 1), (24, iv p1)]) (H64_0 p2 p3 p4 p5 p0 p1 r1) [] []) 4 (QJ.dn ⟨rfl, SJ.la⟩)))))
 refine TS.rt ?_
 have hF := sj hF
 subst hF
 exact ⟨.inr rfl, rfl, .bool ((w64 (o3.2.1 + o5.2.1)) != p1), by kernel_rfl, WkV.flat0 (by kernel_rfl) (nl rfl)⟩
theorem C64 (p0 p1 p2 p3 : Int) (p4 : List I2) (p5 : List (I2 × PL)) (r : Bool) (hF : F64 p0 p1 p2 p3 p4 p5 = some r) : PureSim Try.prog 64 [ag [iv p0, iv p1], pt 0 0, pt 2 0] [cl 24 [iv p2, iv p3, sv 1 p4.length ANY], ab 57 e57 p4, cl 76 [.map (some 3)], mb 83 u83 u85 p5] (V64 4 r) (N64 4 r) :=
 PureSim.of_Fin Try.func64 (c := c64) (by kernel_rfl) (by kernel_rfl) 4 rfl [0, 1, 2] [0, 1, 2, 3] (by kernel_rfl) (B64 p0 p1 p2 p3 p4 p5 r hF)
noncomputable def c63 : Code := Try.f63.code
def H63_0 (p0 : List I2) (p1 p2 : Int) (p3 : List I2) (p4 : List (I2 × PL)) : List Blk := [ab 57 e57 p0, cl 24 [iv p1, iv p2, sv 2 p3.length ANY], ab 57 e57 p3, cl 76 [.map (some 4)], mb 83 u83 u85 p4]
def S63_1 (p0 : List I2) (v7 : Int) : CAct := (st 19 [(0, sv 0 p0.length ANY), (1, .func (.func 64) ⟨[]⟩ ⟨[pt 1 0, pt 3 0]⟩), (7, iv (p0.length : Int)), (8, iv (w64 (v7 + 1)))])
def S63_2 (p0 : List I2) (v7 : Int) : CAct := (st 19 [(0, sv 0 p0.length ANY), (1, .func (.func 64) ⟨[]⟩ ⟨[pt 1 0, pt 3 0]⟩), (7, iv (p0.length : Int)), (8, iv v7)])
def S63_3 (p0 : List I2) : CAct := (st 19 [(0, sv 0 p0.length ANY), (1, .func (.func 64) ⟨[]⟩ ⟨[pt 1 0, pt 3 0]⟩), (7, iv (p0.length : Int)), (8, iv 0)])
def S63_4 (p0 : List I2) : CAct := (st 19 [(0, sv 0 p0.length ANY), (1, .func (.func 64) ⟨[]⟩ ⟨[pt 1 0, pt 3 0]⟩)])
def F63l0 (p0 : List I2) (p1 p2 : Int) (p3 : List I2) (p4 : List (I2 × PL)) (v7 : Int) : Option (Int ⊕ Unit) :=
 if decide (v7 < (p0.length : Int)) then
  if (0 : Int) ≤ v7 ∧ v7 < (p0.length : Int) then
   some (List.getD p0 (Int.toNat v7) (0, 0)) >>= fun o17 =>
   F64 o17.1 o17.2 p1 p2 p3 p4 >>= fun r19 =>
   if r19 then
    some (.inl v7)
   else
    F63l0 p0 p1 p2 p3 p4 (w64 (v7 + 1))
  else none
 else
  some (.inr ())
 partial_fixpoint
def F63 (p0 : List I2) (p1 p2 : Int) (p3 : List I2) (p4 : List (I2 × PL)) : Option Int :=
 F63l0 p0 p1 p2 p3 p4 0 >>= fun r21 =>
 match r21 with
 | .inl o23 =>
  some o23
 | .inr o24 =>
  some (-1)
def V63 (b : Nat) (r : Int) : Value := iv r
def N63 (b : Nat) (r : Int) : List Blk := []
def P63l0 (p0 : List I2) (p1 p2 : Int) (p3 : List I2) (p4 : List (I2 × PL)) (r : Int ⊕ Unit) : Post := fun e a h => (match r with | .inl q0 => e = .ret ∧ Wk Try.prog 5 5 a h (st 19 [(4, iv q0)]) (H63_0 p0 p1 p2 p3 p4) | .inr q0 => e = .exit 0 ∧ Wk Try.prog 5 5 a h (st 19 []) (H63_0 p0 p1 p2 p3 p4))
theorem L63l0 (p0 : List I2) (p1 p2 : Int) (p3 : List I2) (p4 : List (I2 × PL)) (v7 : Int) (r : Int ⊕ Unit) (hF : F63l0 p0 p1 p2 p3 p4 v7 = some r) : TL Try.prog 5 5 c63.s2.s1.s2.bd.bd (S63_2 p0 v7) (H63_0 p0 p1 p2 p3 p4) (P63l0 p0 p1 p2 p3 p4 r) := by
 refine F63l0.partial_correctness p0 p1 p2 p3 p4 (motive := fun v7 r => TL Try.prog 5 5 c63.s2.s1.s2.bd.bd (S63_2 p0 v7) (H63_0 p0 p1 p2 p3 p4) (P63l0 p0 p1 p2 p3 p4 r)) ?_ v7 r hF
 clear hF r v7
 intro again ih v7 r hF
 refine TL.round (TS.sq (TS.rg (TI.ra 1 [0, 1, 7, 8, 9] (st 19 [(0, sv 0 p0.length ANY), (1, .func (.func 64) ⟨[]⟩ ⟨[pt 1 0, pt 3 0]⟩), (7, iv (p0.length : Int)), (8, iv v7), (9, .bool (decide (v7 < (p0.length : Int))))]) (TI.dn (NX.sq (TS.sq ?_))))))
 refine TS.cd (.tmp 9) (decide (v7 < (p0.length : Int))) (fun hc15 => ?_) (fun hc15 => ?_)
 · replace hF := of_pos hF hc15
   refine TS.sk (NX.sq (TS.sq (TS.bk 1 (TS.sq (TS.rg (TI.ra 2 [0, 1, 5, 7, 8] (st 19 [(0, sv 0 p0.length ANY), (1, .func (.func 64) ⟨[]⟩ ⟨[pt 1 0, pt 3 0]⟩), (5, iv v7), (7, iv (p0.length : Int)), (8, iv v7)]) (TI.dn (NX.sq ?_))))))))
   refine TS.sq ?_
   obtain ⟨hg16, hF⟩ := of_guard hF
   obtain ⟨o17, h18, hF⟩ := of_do hF
   replace h18 := sj h18
   obtain ⟨r19, h20, hF⟩ := of_do hF
   refine TS.rg (TI.ra 3 [0, 1, 5, 7, 8, 11, 12, 13] (st 19 [(0, sv 0 p0.length ANY), (1, .func (.func 64) ⟨[]⟩ ⟨[pt 1 0, pt 3 0]⟩), (5, iv v7), (7, iv (p0.length : Int)), (8, iv v7), (11, .func (.func 64) ⟨[]⟩ ⟨[pt 1 0, pt 3 0]⟩), (12, sv 0 p0.length ANY), (13, iv v7)]) (TI.o { val := .pointer (some ⟨0, 0 + (Int.toNat v7) * 2, none⟩) } (q_ixS 0 0 ((Int.toNat v7) * 2) (by kernel_rfl) hg16) [0, 1, 5, 7, 8, 11, 14] [0, 1, 2, 3, 4] (st 19 [(0, sv 0 p0.length ANY), (1, .func (.func 64) ⟨[]⟩ ⟨[pt 1 0, pt 3 0]⟩), (5, iv v7), (7, iv (p0.length : Int)), (8, iv v7), (11, .func (.func 64) ⟨[]⟩ ⟨[pt 1 0, pt 3 0]⟩), (14, .pointer (some ⟨0, 0 + (Int.toNat v7) * 2, none⟩))]) (H63_0 p0 p1 p2 p3 p4) (TI.o { val := ag [iv o17.1, iv o17.2] } (q_nAa Try.prog (H63_0 p0 p1 p2 p3 p4) 57 0 (0 + (Int.toNat v7) * 2) p0 e57 2 57 (Int.toNat v7) (0, 0) h18) [0, 1, 5, 7, 8, 11, 15] [0, 1, 2, 3, 4] (st 19 [(0, sv 0 p0.length ANY), (1, .func (.func 64) ⟨[]⟩ ⟨[pt 1 0, pt 3 0]⟩), (5, iv v7), (7, iv (p0.length : Int)), (8, iv v7), (11, .func (.func 64) ⟨[]⟩ ⟨[pt 1 0, pt 3 0]⟩), (15, ag [iv o17.1, iv o17.2])]) (H63_0 p0 p1 p2 p3 p4) (TI.callM (g := 64) (args := [ag [iv o17.1, iv o17.2], pt 1 0, pt 3 0]) (v := .bool r19) (new := []) (by kernel_rfl) (PureSim.ren (hc := [cl 24 [iv p1, iv p2, sv 1 p3.length ANY], ab 57 e57 p3, cl 76 [.map (some 3)], mb 83 u83 u85 p4]) (fun i => List.getD [(1, 0), (2, 0), (3, 0), (4, 0)] i (0, 0)) (C64 _ _ _ _ _ _ _ h20) (.cons (At.blk (b1 := cl 24 [iv p1, iv p2, sv 2 p3.length ANY]) (by kernel_rfl) (RnB.lit (.fl (.fl (.cons (Rn.any _ _ _ _ _ _ (nl rfl) rfl rfl (by decide)) .nil))))) (.ac (.cons (At.blk (b1 := cl 76 [.map (some 4)]) (by kernel_rfl) (RnB.lit (.cons (Rn.map _ (nl rfl)) .nil))) (.cons (At.blk (by kernel_rfl) (RnB.map _ _)) (.nil _))))) (.fl (.pp (.pp .nil))) (.flat (by kernel_rfl)) newflat_nil) [0, 1, 5, 7, 8, 16] [0, 1, 2, 3, 4] (a2 := (st 19 [(0, sv 0 p0.length ANY), (1, .func (.func 64) ⟨[]⟩ ⟨[pt 1 0, pt 3 0]⟩), (5, iv v7), (7, iv (p0.length : Int)), (8, iv v7), (16, .bool r19)])) (h2 := (H63_0 p0 p1 p2 p3 p4)) (by kernel_rfl) (TI.dn (NX.sq ?_))))))
   cases r19 with
   | true =>
    replace hF := of_pos hF rfl
    refine TS.cdT (.tmp 16) (TS.sq (TS.rg (TI.ra 2 [4] (st 19 [(4, iv v7)]) (TI.dn (NX.sq (TS.rt (NX.bkR (NX.sqR ?_))))))))
    have hF := sj hF
    subst hF
    exact Rd.out (e := .ret) (by intro h; cases h) (And.intro rfl (Wk.an [] (.ac (.lt (.fl (.fl (.sl .nil))) (.ac (.lt (.cons (Rn.map _ (nl rfl)) .nil) (.cons (At.blk (by kernel_rfl) (RnB.map _ _)) (.nil _)))))) [iv v7] (.fl .nil)))
   | false =>
    replace hF := of_neg hF rfl
    refine TS.cdF (.tmp 16) (TS.sk (NX.bk (NX.sq (TS.rg (TI.ra 2 [0, 1, 7, 8] (S63_1 p0 v7) (TI.dn ?_))))))
    exact Rd.again (a2 := (S63_1 p0 v7)) (h2 := (H63_0 p0 p1 p2 p3 p4)) (Wk.an [] (.ac (.lt (.fl (.fl (.sl .nil))) (.ac (.lt (.cons (Rn.map _ (nl rfl)) .nil) (.cons (At.blk (by kernel_rfl) (RnB.map _ _)) (.nil _)))))) [sv 0 p0.length ANY, .func (.func 64) ⟨[]⟩ ⟨[pt 1 0, pt 3 0]⟩, iv (p0.length : Int), iv (w64 (v7 + 1))] (.sl (.cons (Rn.func' .nil (.pp (.pp .nil))) (.fl (.fl .nil))))) (ih (w64 (v7 + 1)) _ hF)
 replace hF := of_neg hF hc15
 refine TS.ex 0 (NX.sqX ?_)
 have hF := sj hF
 subst hF
 exact Rd.out (e := .exit 0) (by intro h; cases h) (And.intro rfl (Wk.an [] (.ac (.lt (.fl (.fl (.sl .nil))) (.ac (.lt (.cons (Rn.map _ (nl rfl)) .nil) (.cons (At.blk (by kernel_rfl) (RnB.map _ _)) (.nil _)))))) [] .nil))
theorem B63 (p0 : List I2) (p1 p2 : Int) (p3 : List I2) (p4 : List (I2 × PL)) (r : Int) (hF : F63 p0 p1 p2 p3 p4 = some r) : TS Try.prog 5 5 c63 (S63_4 p0) (H63_0 p0 p1 p2 p3 p4) (NX Try.prog 5 5 [] (FinP Try.prog Try.f63 5 (V63 5 r) (N63 5 r))) := by
 unfold F63 at hF
 refine TS.sq (TS.rg (TI.ra 1 [0, 1] (S63_4 p0) (TI.dn (NX.sq (TS.sq (TS.sq (TS.rg (TI.ra 3 [0, 1, 7, 8] (S63_3 p0) ?_))))))))
 refine TI.dn (NX.sq (TS.bk 0 ?_))
 obtain ⟨r21, h22, hF⟩ := of_do hF
 refine TS.lp (TL.weak (a2 := (S63_3 p0)) (h2 := (H63_0 p0 p1 p2 p3 p4)) (Wk.an [] (.ac (.lt (.fl (.fl (.sl .nil))) (.ac (.lt (.cons (Rn.map _ (nl rfl)) .nil) (.cons (At.blk (by kernel_rfl) (RnB.map _ _)) (.nil _)))))) [sv 0 p0.length ANY, .func (.func 64) ⟨[]⟩ ⟨[pt 1 0, pt 3 0]⟩, iv (p0.length : Int), iv 0] (.sl (.cons (Rn.func' .nil (.pp (.pp .nil))) (.fl (.fl .nil))))) (TL.post (L63l0 p0 p1 p2 p3 p4 0 r21 h22) ?_))
 rintro e a1 h1 hp
 rcases r21 with o23 | o24
 · skip
   obtain ⟨rfl, hw⟩ := hp
   refine ⟨(st 19 [(4, iv o23)]), (H63_0 p0 p1 p2 p3 p4), (NX.bkR (NX.sqR ?_)), hw⟩
   have hF := sj hF
   subst hF
   exact ⟨.inr rfl, rfl, iv o23, by kernel_rfl, WkV.flat0 (by kernel_rfl) (nl rfl)⟩
 skip
 obtain ⟨rfl, hw⟩ := hp
 refine ⟨(st 19 []), (H63_0 p0 p1 p2 p3 p4), (NX.bkX (NX.sq (TS.sq (TS.rg (TI.ra 1 [4] (st 19 [(4, iv (-1))]) (TI.dn (NX.sq (TS.rt ?_)))))))), hw⟩
 have hF := sj hF
 subst hF
 exact ⟨.inr rfl, rfl, iv (-1), by kernel_rfl, WkV.flat0 (by kernel_rfl) (nl rfl)⟩
theorem C63 (p0 : List I2) (p1 p2 : Int) (p3 : List I2) (p4 : List (I2 × PL)) (r : Int) (hF : F63 p0 p1 p2 p3 p4 = some r) : PureSim Try.prog 63 [sv 0 p0.length ANY, .func (.func 64) ⟨[]⟩ ⟨[pt 1 0, pt 3 0]⟩] (H63_0 p0 p1 p2 p3 p4) (V63 5 r) (N63 5 r) :=
 PureSim.of_Fin Try.func63 (c := c63) (by kernel_rfl) (by kernel_rfl) 5 rfl [0, 1] [0, 1, 2, 3, 4] (by kernel_rfl) (B63 p0 p1 p2 p3 p4 r hF)
noncomputable def c54 : Code := Try.f54.code
def F54 (p0 p1 : Int) (p2 : List I2) (p3 : List (I2 × PL)) : Option Int :=
 F63 p2 p0 p1 p2 p3 >>= fun r1 =>
 some r1
def V54 (b : Nat) (r : Int) : Value := iv r
def N54 (b : Nat) (r : Int) : List Blk := []
theorem B54 (p0 p1 : Int) (p2 : List I2) (p3 : List (I2 × PL)) (r : Int) (hF : F54 p0 p1 p2 p3 = some r) : TS Try.prog 2 2 c54 (st 9 [(0, ag [iv p0, iv p1, sv 0 p2.length ANY]), (1, .map (some 1))]) [ab 57 e57 p2, mb 83 u83 u85 p3] (NX Try.prog 2 2 [] (FinP Try.prog Try.f54 2 (V54 2 r) (N54 2 r))) := by
 unfold F54 at hF
 refine TS.sq (TS.rg (TI.rn 3 [2, 3] [0, 1, 2, 3] (st 9 [(2, pt 2 0), (3, pt 3 0)]) [ab 57 e57 p2, mb 83 u83 u85 p3, cl 24 [iv p0, iv p1, sv 0 p2.length ANY], cl 76 [.map (some 1)]] (TI.dn (NX.sq (TS.sq ?_)))))
 obtain ⟨r1, h2, hF⟩ := of_do hF
 refine TS.rg (TI.ra 3 [6, 7] (st 9 [(6, sv 0 p2.length ANY), (7, .func (.func 64) ⟨[]⟩ ⟨[pt 2 0, pt 3 0]⟩)]) (TI.cp 63 [sv 0 p2.length ANY, .func (.func 64) ⟨[]⟩ ⟨[pt 2 0, pt 3 0]⟩] (iv r1) [] (PureSim.ren (hc := [ab 57 e57 p2, cl 24 [iv p0, iv p1, sv 2 p2.length ANY], ab 57 e57 p2, cl 76 [.map (some 4)], mb 83 u83 u85 p3]) (fun i => List.getD [(0, 0), (2, 0), (0, 0), (3, 0), (1, 0)] i (0, 0)) (C63 _ _ _ _ _ _ h2) (.ac (.cons (At.blk (b1 := cl 24 [iv p0, iv p1, sv 0 p2.length ANY]) (by kernel_rfl) (RnB.lit (.fl (.fl (.cons (Rn.any _ _ _ _ _ _ (nl rfl) rfl rfl (by decide)) .nil))))) (.ac (.cons (At.blk (b1 := cl 76 [.map (some 1)]) (by kernel_rfl) (RnB.lit (.cons (Rn.map _ (nl rfl)) .nil))) (.cons (At.blk (by kernel_rfl) (RnB.map _ _)) (.nil _)))))) (.cons (Rn.any _ _ _ _ _ _ (nl rfl) rfl rfl (by decide)) (.cons (Rn.func' .nil (.pp (.pp .nil))) .nil)) (.flat (by kernel_rfl)) newflat_nil) (TI.rn 1 [4] [0, 1] (st 9 [(4, iv r1)]) [ab 57 e57 p2, mb 83 u83 u85 p3, .dead, .dead] (TI.dn (NX.sq (TS.rt ?_))))))
 have hF := sj hF
 subst hF
 exact ⟨.inr rfl, rfl, iv r1, by kernel_rfl, WkV.flat0 (by kernel_rfl) (nl rfl)⟩
theorem C54 (p0 p1 : Int) (p2 : List I2) (p3 : List (I2 × PL)) (r : Int) (hF : F54 p0 p1 p2 p3 = some r) : PureSim Try.prog 54 [ag [iv p0, iv p1, sv 0 p2.length ANY], .map (some 1)] [ab 57 e57 p2, mb 83 u83 u85 p3] (V54 2 r) (N54 2 r) :=
 PureSim.of_Fin Try.func54 (c := c54) (by kernel_rfl) (by kernel_rfl) 2 rfl [0, 1] [0, 1] (by kernel_rfl) (B54 p0 p1 p2 p3 r hF)
end
end Go.Proofs.Ytdekbjfjbbdjgaa
