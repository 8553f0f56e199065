/- What functions of the program compute, and that they do. -/
import Derived.Test.YtiaippkjgmccoaaKQ
import Derived.Test.YtiaippkjgmccoaaGiven
set_option linter.unusedVariables false
set_option linter.unusedSimpArgs false
set_option maxRecDepth 100000
set_option maxHeartbeats 4000000
namespace Go.Proofs.Ytiaippkjgmccoaa
open Go Go.Cl
noncomputable section
def e5 (x : Int) : List Value := [.int .u8 x]
noncomputable def c11 : Code := Try.f11.code
def S11_0 (p2 : List Int) (v12 : List (Int × Bool)) (v11 : Int) (r1 : Int × (List ((Int × Bool) × (Int × Bool)))) (o26 : Int) (r28 : Int × Bool) : CAct := (st 132 [(1, sv 1 p2.length ANY), (5, pt 2 0), (6, accV 4 v12.length), (7, iv v11), (29, .bool true), (32, accV 4 v12.length), (33, ag [iv r1.1, accV 3 r1.2.length]), (34, sv 1 p2.length ANY), (35, iv v11), (36, .pointer (some ⟨1, 0 + (Int.toNat v11) * 1, none⟩)), (37, .int .u8 o26), (38, ag [iv r28.1, .bool r28.2]), (39, sv 5 1 1)])
def H11_1 (p1 : List I2) (p2 : List Int) (r1 : Int × (List ((Int × Bool) × (Int × Bool)))) (r163 : (List Bool) × Int) (r32 : List (Int × Bool)) (o195 : Int × Bool) : List Blk := [ab 84 e84 p1, ab 5 e5 p2, cl 24 [iv r1.1, accV 3 r1.2.length], ab 86 e86 r1.2, ab 4 e4 r163.1, ab 50 e50 r32, cl 50 [iv o195.1, .bool o195.2]]
def H11_2 (p1 : List I2) (p2 : List Int) (r1 : Int × (List ((Int × Bool) × (Int × Bool)))) (r32 : List (Int × Bool)) (o123 o151 : Int × Bool) : List Blk := [ab 84 e84 p1, ab 5 e5 p2, cl 24 [iv r1.1, accV 3 r1.2.length], ab 86 e86 r1.2, ab 50 e50 r32, cl 50 [iv o123.1, .bool o123.2], cl 50 [iv o151.1, .bool o151.2]]
def H11_3 (p1 : List I2) (p2 : List Int) (r1 : Int × (List ((Int × Bool) × (Int × Bool)))) (r163 : (List Bool) × Int) (r32 : List (Int × Bool)) : List Blk := [ab 84 e84 p1, ab 5 e5 p2, cl 24 [iv r1.1, accV 3 r1.2.length], ab 86 e86 r1.2, ab 4 e4 r163.1, ab 50 e50 r32]
def H11_4 (p1 : List I2) (p2 : List Int) (r1 : Int × (List ((Int × Bool) × (Int × Bool)))) (r32 : List (Int × Bool)) (r163 : (List Bool) × Int) : List Blk := [ab 84 e84 p1, ab 5 e5 p2, cl 24 [iv r1.1, accV 3 r1.2.length], ab 86 e86 r1.2, ab 50 e50 r32, ab 4 e4 r163.1]
def H11_5 (p1 : List I2) (p2 : List Int) (r1 : Int × (List ((Int × Bool) × (Int × Bool)))) (r32 : List (Int × Bool)) (o123 : Int × Bool) : List Blk := [ab 84 e84 p1, ab 5 e5 p2, cl 24 [iv r1.1, accV 3 r1.2.length], ab 86 e86 r1.2, ab 50 e50 r32, cl 50 [iv o123.1, .bool o123.2], .dead, .dead]
def H11_6 (p1 : List I2) (p2 : List Int) (r1 : Int × (List ((Int × Bool) × (Int × Bool)))) (r32 : List (Int × Bool)) (o123 : Int × Bool) : List Blk := [ab 84 e84 p1, ab 5 e5 p2, cl 24 [iv r1.1, accV 3 r1.2.length], ab 86 e86 r1.2, ab 50 e50 r32, cl 50 [iv o123.1, .bool o123.2]]
def H11_7 (p1 : List I2) (p2 : List Int) (r1 : Int × (List ((Int × Bool) × (Int × Bool)))) (v12 : List (Int × Bool)) (r28 : Int × Bool) : List Blk := [ab 84 e84 p1, ab 5 e5 p2, cl 24 [iv r1.1, accV 3 r1.2.length], ab 86 e86 r1.2, ab 50 e50 v12, cl 50 [iv r28.1, .bool r28.2]]
def S11_8 (r32 : List (Int × Bool)) (m157 : Bool) (v78 v136 : Int) : CAct := (st 132 [(5, pt 2 0), (6, accV 4 r32.length), (8, .bool m157), (10, pt 5 0), (46, accV 4 r32.length), (47, iv (r32.length : Int)), (48, iv v78), (52, accV 4 r32.length), (53, iv (r32.length : Int)), (54, iv (w64 (v136 + 1)))])
def H11_9 (p1 : List I2) (p2 : List Int) (r1 : Int × (List ((Int × Bool) × (Int × Bool)))) (r32 : List (Int × Bool)) : List Blk := [ab 84 e84 p1, ab 5 e5 p2, cl 24 [iv r1.1, accV 3 r1.2.length], ab 86 e86 r1.2, ab 50 e50 r32, .dead]
def S11_10 (r32 : List (Int × Bool)) (v135 : Bool) (v78 v136 : Int) : CAct := (st 132 [(5, pt 2 0), (6, accV 4 r32.length), (8, .bool v135), (10, pt 5 0), (46, accV 4 r32.length), (47, iv (r32.length : Int)), (48, iv v78), (52, accV 4 r32.length), (53, iv (r32.length : Int)), (54, iv v136)])
def H11_11 (p1 : List I2) (p2 : List Int) (r1 : Int × (List ((Int × Bool) × (Int × Bool)))) (r163 : (List Bool) × Int) : List Blk := [ab 84 e84 p1, ab 5 e5 p2, cl 24 [iv r1.1, accV 3 r1.2.length], ab 86 e86 r1.2, ab 4 e4 r163.1]
def S11_12 (r32 : List (Int × Bool)) (v77 : Bool) (v78 : Int) : CAct := (st 132 [(5, pt 2 0), (6, accV 4 r32.length), (8, .bool v77), (10, pt 5 0), (46, accV 4 r32.length), (47, iv (r32.length : Int)), (48, iv v78), (52, accV 4 r32.length), (53, iv (r32.length : Int)), (54, iv 0)])
def H11_13 (p1 : List I2) (p2 : List Int) (r1 : Int × (List ((Int × Bool) × (Int × Bool)))) (v12 : List (Int × Bool)) : List Blk := [ab 84 e84 p1, ab 5 e5 p2, cl 24 [iv r1.1, accV 3 r1.2.length], ab 86 e86 r1.2, ab 50 e50 v12]
def H11_14 (p1 : List I2) (p2 : List Int) (r1 : Int × (List ((Int × Bool) × (Int × Bool)))) (r32 : List (Int × Bool)) : List Blk := [ab 84 e84 p1, ab 5 e5 p2, cl 24 [iv r1.1, accV 3 r1.2.length], ab 86 e86 r1.2, ab 50 e50 r32]
def H11_15 (p1 : List I2) (p2 : List Int) (r205 : (List Int) × Int) : List Blk := [ab 84 e84 p1, ab 5 e5 p2, .dead, .dead, .dead, ab 3 e3 r205.1]
def S11_16 (p2 : List Int) (v12 : List (Int × Bool)) (v11 : Int) : CAct := (st 132 [(1, sv 1 p2.length ANY), (5, pt 2 0), (6, accV 4 v12.length), (7, iv v11), (22, iv v11), (24, iv (p2.length : Int))])
def S11_17 (r32 : List (Int × Bool)) (r159 : Bool) (v78 : Int) : CAct := (st 132 [(5, pt 2 0), (6, accV 4 r32.length), (8, .bool r159), (46, accV 4 r32.length), (47, iv (r32.length : Int)), (48, iv (w64 (v78 + 1)))])
def S11_18 (r32 : List (Int × Bool)) : CAct := (st 132 [(5, pt 2 0), (6, accV 4 r32.length), (8, .bool false), (46, accV 4 r32.length), (47, iv (r32.length : Int)), (48, iv 0)])
def H11_19 (p1 : List I2) (p2 : List Int) : List Blk := [ab 84 e84 p1, ab 5 e5 p2, .dead, .dead, .dead, .dead, .dead]
def H11_20 (p1 : List I2) (p2 : List Int) : List Blk := [ab 84 e84 p1, ab 5 e5 p2, .dead, .dead, .dead, .dead]
def H11_21 (r1 : Int × (List ((Int × Bool) × (Int × Bool)))) (r32 : List (Int × Bool)) : List Blk := [ab 86 e86 r1.2, ab 50 e50 r32]
def H11_22 (p1 : List I2) (p2 : List Int) : List Blk := [ab 84 e84 p1, ab 5 e5 p2]
def F11l0 (p1 : List I2) (p2 : List Int) (r1 : Int × (List ((Int × Bool) × (Int × Bool)))) (v12 : List (Int × Bool)) (v11 : Int) : Option (List (Int × Bool)) :=
 (
  if decide (v11 < (p2.length : Int)) then
   some (decide (v11 < 4))
  else
   some (false)
 : Option Bool) >>= fun m24 =>
 if m24 then
  if (0 : Int) ≤ v11 ∧ v11 < (p2.length : Int) then
   some (List.getD p2 (Int.toNat v11) 0) >>= fun o26 =>
   F45 r1.1 r1.2 o26 >>= fun r28 =>
   if List.length v12 ≤ 1000000000 then
    F11l0 p1 p2 r1 (v12 ++ [(r28.1, r28.2)]) (w64 (v11 + 1))
   else none
  else none
 else
  some v12
 partial_fixpoint
def F11l2 (p1 : List I2) (p2 : List Int) (o123 : Int × Bool) (r1 : Int × (List ((Int × Bool) × (Int × Bool)))) (r32 : List (Int × Bool)) (v78 : Int) (v135 : Bool) (v136 : Int) : Option Bool :=
 if decide (v136 < (r32.length : Int)) then
  if (0 : Int) ≤ v136 ∧ v136 < (r32.length : Int) then
   some (List.getD r32 (Int.toNat v136) (0, false)) >>= fun o151 =>
   F43 o151.1 o151.2 >>= fun r153 =>
   F28 r1.1 r1.2 o123.1 o123.2 r153.1 r153.2 >>= fun r155 =>
   (
    if v135 then
     some (true)
    else
     some (r155.2 == 0)
   : Option Bool) >>= fun m157 =>
   F11l2 p1 p2 o123 r1 r32 v78 m157 (w64 (v136 + 1))
  else none
 else
  some v135
 partial_fixpoint
def F11l1 (p1 : List I2) (p2 : List Int) (r1 : Int × (List ((Int × Bool) × (Int × Bool)))) (r32 : List (Int × Bool)) (v77 : Bool) (v78 : Int) : Option Bool :=
 if decide (v78 < (r32.length : Int)) then
  if (0 : Int) ≤ v78 ∧ v78 < (r32.length : Int) then
   some (List.getD r32 (Int.toNat v78) (0, false)) >>= fun o123 =>
   F11l2 p1 p2 o123 r1 r32 v78 v77 0 >>= fun r159 =>
   F11l1 p1 p2 r1 r32 r159 (w64 (v78 + 1))
  else none
 else
  some v77
 partial_fixpoint
def F11l3 (p1 : List I2) (p2 : List Int) (r1 : Int × (List ((Int × Bool) × (Int × Bool)))) (r32 : List (Int × Bool)) (r163 : (List Bool) × Int) (v183 : Int) : Option (Unit ⊕ Unit) :=
 if decide (v183 < (r32.length : Int)) then
  if (0 : Int) ≤ v183 ∧ v183 < (r32.length : Int) then
   some (List.getD r32 (Int.toNat v183) (0, false)) >>= fun o195 =>
   if (0 : Int) ≤ o195.1 ∧ o195.1 < (r163.1.length : Int) then
    some (List.getD r163.1 (Int.toNat o195.1) false) >>= fun o198 =>
    if !(o198 == o195.2) then
     some (.inl ())
    else
     F11l3 p1 p2 r1 r32 r163 (w64 (v183 + 1))
   else none
  else none
 else
  some (.inr ())
 partial_fixpoint
def F11 (p0 : Int) (p1 : List I2) (p2 : List Int) : Option Bool :=
 F40 p0 p1 >>= fun r1 =>
 F11l0 p1 p2 r1 ([]) 0 >>= fun r32 =>
 F41 r1.1 r1.2 ([]) >>= fun r34 =>
 if (r34.length : Int) == 0 then
  F15 >>= fun r37 =>
  some r37
 else
  F11l1 p1 p2 r1 r32 false 0 >>= fun r161 =>
  F18 r1.1 r1.2 r32 >>= fun r163 =>
  if r161 then
   (
    if r163.2 == 13 then
     F41 r1.1 r1.2 r32 >>= fun r166 =>
     if (r166.length : Int) == 0 then
      F15 >>= fun r169 =>
      some (r169)
     else
      some (false)
    else
     some (false)
   : Option Bool) >>= fun m171 =>
   some m171
  else
   (
    if r163.2 != 0 then
     some (true)
    else
     some ((r163.1.length : Int) != r1.1)
   : Option Bool) >>= fun m174 =>
   if m174 then
    some false
   else
    F11l3 p1 p2 r1 r32 r163 0 >>= fun r201 =>
    match r201 with
    | .inl o203 =>
     some false
    | .inr o204 =>
     F22 r1.1 r1.2 r163.1 >>= fun r205 =>
     (
      if r205.2 == 0 then
       if (r205.1.length : Int) == 0 then
        F15 >>= fun r209 =>
        some (r209)
       else
        some (false)
      else
       some (false)
     : Option Bool) >>= fun m211 =>
     some m211
def V11 (b : Nat) (r : Bool) : Value := .bool r
def N11 (b : Nat) (r : Bool) : List Blk := []
def P11l0 (p1 : List I2) (p2 : List Int) (r1 : Int × (List ((Int × Bool) × (Int × Bool)))) (r : List (Int × Bool)) : Post := fun e a h => e = .exit 0 ∧ Wk Try.prog 2 2 a h (st 132 [(5, pt 2 0), (6, accV 4 r.length)]) [ab 84 e84 p1, ab 5 e5 p2, cl 24 [iv r1.1, accV 3 r1.2.length], ab 86 e86 r1.2, ab 50 e50 r]
theorem L11l0 (p1 : List I2) (p2 : List Int) (r1 : Int × (List ((Int × Bool) × (Int × Bool)))) (v12 : List (Int × Bool)) (v11 : Int) (r : List (Int × Bool)) (hF : F11l0 p1 p2 r1 v12 v11 = some r) : TL Try.prog 2 2 c11.s2.s2.s2.s1.s2.bd.bd (st 132 [(1, sv 1 p2.length ANY), (5, pt 2 0), (6, accV 4 v12.length), (7, iv v11)]) (H11_13 p1 p2 r1 v12) (P11l0 p1 p2 r1 r) := by
 refine F11l0.partial_correctness p1 p2 r1 (motive := fun v12 v11 r => TL Try.prog 2 2 c11.s2.s2.s2.s1.s2.bd.bd (st 132 [(1, sv 1 p2.length ANY), (5, pt 2 0), (6, accV 4 v12.length), (7, iv v11)]) (H11_13 p1 p2 r1 v12) (P11l0 p1 p2 r1 r)) ?_ v12 v11 r hF
 clear hF r v12 v11
 intro again ih v12 v11 r hF
 refine TL.round (TS.sq (TS.sq ?_))
 obtain ⟨m24, hm31, hF⟩ := of_do hF
 have hK : NX Try.prog 2 2 [.sq c11.s2.s2.s2.s1.s2.bd.bd.s1.s2, .sq c11.s2.s2.s2.s1.s2.bd.bd.s2] (Rd Try.prog 2 2 c11.s2.s2.s2.s1.s2.bd.bd (P11l0 p1 p2 r1 r)) .normal (st 132 [(1, sv 1 p2.length ANY), (5, pt 2 0), (6, accV 4 v12.length), (7, iv v11), (29, .bool m24)]) (H11_13 p1 p2 r1 v12) := by
  refine NX.sq ?_
  cases m24 with
  | true =>
   replace hF := of_pos hF rfl
   refine TS.cdT (.tmp 29) (TS.sk (NX.sq (TS.sq (TS.bk 1 ?_))))
   obtain ⟨hg25, hF⟩ := of_guard hF
   obtain ⟨o26, h27, hF⟩ := of_do hF
   replace h27 := sj h27
   obtain ⟨r28, h29, hF⟩ := of_do hF
   obtain ⟨hg30, hF⟩ := of_guard hF
   have hT : ∀ e ∈ ([⟨45, [ag [iv r1.1, accV 3 r1.2.length], .int .u8 o26], (H11_13 p1 p2 r1 v12), ag [iv r28.1, .bool r28.2], []⟩] : List Entry), PureSim Try.prog e.g e.args e.h e.v e.new := by
    intro e he
    simp only [List.mem_cons, List.not_mem_nil, or_false] at he
    rcases he with rfl
    exact (PureSim.ren (hc := [ab 86 e86 r1.2]) (fun i => List.getD [(3, 0)] i (0, 0)) (C45 _ _ _ _ h29) (.ac (.nil _)) (.cons (Rn.agg' (.fl (.cons (Rn.accA (i' := 3) (nl rfl) rfl) .nil))) (.fl .nil)) (.flat (by kernel_rfl)) newflat_nil)
   refine TS.drawT [⟨45, [ag [iv r1.1, accV 3 r1.2.length], .int .u8 o26], (H11_13 p1 p2 r1 v12), ag [iv r28.1, .bool r28.2], []⟩] hT mixed 8 [] (S11_0 p2 v12 v11 r1 o26 r28) (H11_7 p1 p2 r1 v12 r28) ?_ ?_
   · exact QJ.rn (qs (st 132 [(1, sv 1 p2.length ANY), (5, pt 2 0), (6, accV 4 v12.length), (7, iv v11), (29, .bool true), (32, accV 4 v12.length), (33, ag [iv r1.1, accV 3 r1.2.length]), (34, sv 1 p2.length ANY), (35, iv v11)]) (H11_13 p1 p2 r1 v12) [] []) 4 (QJ.o { val := .pointer (some ⟨1, 0 + (Int.toNat v11) * 1, none⟩) } (q_ixS 1 0 ((Int.toNat v11) * 1) (by kernel_rfl) hg25) (QJ.o { val := .int .u8 o26 } (q_n1a Try.prog (H11_13 p1 p2 r1 v12) 5 1 (0 + (Int.toNat v11) * 1) p2 e5 1 5 (Int.toNat v11) 0 0 h27) (QJ.o { val := ag [iv r28.1, .bool r28.2], new := [] } (qOf_call (g := 45) (args := [ag [iv r1.1, accV 3 r1.2.length], .int .u8 o26]) (by kernel_rfl) lookC_hit) (QJ.rn (qs (S11_0 p2 v12 v11 r1 o26 r28) (H11_7 p1 p2 r1 v12 r28) [(7, 5, 6)] []) 1 (QJ.dn ⟨by kernel_rfl, by kernel_rfl, by kernel_rfl⟩)))))
   refine TI.rn 0 [1, 5, 7, 32, 39] [0, 1, 2, 3, 4, 5] (st 132 [(1, sv 1 p2.length ANY), (5, pt 2 0), (7, iv v11), (32, accV 4 v12.length), (39, sv 5 1 1)]) (H11_7 p1 p2 r1 v12 r28) (TI.acc (l := v12) (b := 4) (ts := #[25, 25]) (e := 50) (bytes := 16) (z := ag [iv 0, .bool false]) (y := sv 5 1 1) (ys := [(r28.1, r28.2)]) (xs := List.flatMap e50 ([(r28.1, r28.2)])) (m := 1) (s := 2) (enc := e50) (by kernel_rfl) (by kernel_rfl) (by decide) (by kernel_rfl) (by kernel_rfl) (by kernel_rfl) (by kernel_rfl) (by kernel_rfl) (by kernel_rfl) (by kernel_rfl) (by kernel_rfl) (fun _ => rfl) rfl rfl (by omega) [1, 5, 7, 40] [0, 1, 2, 3, 6] (a2 := (st 132 [(1, sv 1 p2.length ANY), (5, pt 2 0), (7, iv v11), (40, sv 6 (List.length (v12 ++ [(r28.1, r28.2)])) UNK)])) (h2 := [ab 84 e84 p1, ab 5 e5 p2, cl 24 [iv r1.1, accV 3 r1.2.length], ab 86 e86 r1.2, .dead, .dead, .cells 50 (List.flatMap e50 (v12 ++ [(r28.1, r28.2)]))]) (by kernel_rfl) (TI.ra 1 [1, 5, 6, 7] (st 132 [(1, sv 1 p2.length ANY), (5, pt 2 0), (6, sv 6 (List.length (v12 ++ [(r28.1, r28.2)])) UNK), (7, iv v11)]) (TI.dn (NX.bk (NX.sq (TS.rg (TI.ra 3 [1, 5, 6, 7] (st 132 [(1, sv 1 p2.length ANY), (5, pt 2 0), (6, sv 6 (List.length (v12 ++ [(r28.1, r28.2)])) UNK), (7, iv (w64 (v11 + 1)))]) (TI.dn ?_))))))))
   exact Rd.again (a2 := (st 132 [(1, sv 1 p2.length ANY), (5, pt 2 0), (6, accV 4 (List.length (v12 ++ [(r28.1, r28.2)]))), (7, iv (w64 (v11 + 1)))])) (h2 := [ab 84 e84 p1, ab 5 e5 p2, cl 24 [iv r1.1, accV 3 r1.2.length], ab 86 e86 r1.2, accB 50 (List.length (v12 ++ [(r28.1, r28.2)])) (List.flatMap e50 (v12 ++ [(r28.1, r28.2)]))]) (Wk.an [2, 3, 6] (.ac (.ac (.lt (.fl (.cons (Rn.acc (nl rfl) rfl) .nil)) (.ac (.cons (At.accU (by kernel_rfl) rfl (fun _ => rfl)) (.nil _)))))) [sv 1 p2.length ANY, pt 2 0, sv 6 (List.length (v12 ++ [(r28.1, r28.2)])) UNK, iv (w64 (v11 + 1))] (.sl (.pp (.cons (Rn.accU (nl rfl) rfl (by simp)) (.fl .nil))))) (ih (v12 ++ [(r28.1, r28.2)]) (w64 (v11 + 1)) _ hF)
  | false =>
   replace hF := of_neg hF rfl
   refine TS.cdF (.tmp 29) (TS.ex 0 (NX.sqX ?_))
   have hF := sj hF
   subst hF
   exact Rd.out (e := .exit 0) (by intro h; cases h) (And.intro rfl (Wk.an [2, 3, 4] (.ac (.ac (.lt (.fl (.cons (Rn.acc (nl rfl) rfl) .nil)) (.ac (.ac (.nil _)))))) [pt 2 0, accV 4 v12.length] (.pp (.cons (Rn.acc (nl rfl) rfl) .nil))))
 rcases Bool.eq_false_or_eq_true (decide (v11 < (p2.length : Int))) with hc23 | hc23
 · replace hm31 := of_pos hm31 hc23
   have hm31 := sj hm31
   subst hm31
   exact TS.rg (TI.ra 3 [1, 5, 6, 7, 22, 24] (S11_16 p2 v12 v11) (TI.o { val := .bool true } (q_conv (e := decide (v11 < (p2.length : Int))) (b := true) (by kernel_rfl) hc23) [1, 5, 6, 7, 25] [0, 1, 2, 3, 4] (st 132 [(1, sv 1 p2.length ANY), (5, pt 2 0), (6, accV 4 v12.length), (7, iv v11), (25, .bool true)]) (H11_13 p1 p2 r1 v12) (TI.ra 4 [1, 5, 6, 7, 29] (st 132 [(1, sv 1 p2.length ANY), (5, pt 2 0), (6, accV 4 v12.length), (7, iv v11), (29, .bool (decide (v11 < 4)))]) (TI.dn hK))))
 replace hm31 := of_neg hm31 hc23
 have hm31 := sj hm31
 subst hm31
 exact TS.rg (TI.ra 3 [1, 5, 6, 7, 22, 24] (S11_16 p2 v12 v11) (TI.o { val := .bool false } (q_conv (e := decide (v11 < (p2.length : Int))) (b := false) (by kernel_rfl) hc23) [1, 5, 6, 7, 25] [0, 1, 2, 3, 4] (st 132 [(1, sv 1 p2.length ANY), (5, pt 2 0), (6, accV 4 v12.length), (7, iv v11), (25, .bool false)]) (H11_13 p1 p2 r1 v12) (TI.ra 4 [1, 5, 6, 7, 29] (st 132 [(1, sv 1 p2.length ANY), (5, pt 2 0), (6, accV 4 v12.length), (7, iv v11), (29, .bool false)]) (TI.dn hK))))
def P11l2 (p1 : List I2) (p2 : List Int) (o123 : Int × Bool) (r1 : Int × (List ((Int × Bool) × (Int × Bool)))) (r32 : List (Int × Bool)) (v78 : Int) (r : Bool) : Post := fun e a h => e = .exit 4 ∧ Wk Try.prog 2 2 a h (st 132 [(5, pt 2 0), (6, accV 4 r32.length), (8, .bool r), (46, accV 4 r32.length), (47, iv (r32.length : Int)), (48, iv v78)]) (H11_14 p1 p2 r1 r32)
theorem L11l2 (p1 : List I2) (p2 : List Int) (o123 : Int × Bool) (r1 : Int × (List ((Int × Bool) × (Int × Bool)))) (r32 : List (Int × Bool)) (v78 : Int) (v135 : Bool) (v136 : Int) (r : Bool) (hF : F11l2 p1 p2 o123 r1 r32 v78 v135 v136 = some r) : TL Try.prog 2 2 c11.s2.s2.s2.s2.s2.s2.s1.s2.bd.bd.s2.s2.s1.bd.s2.s2.bd.bd (S11_10 r32 v135 v78 v136) (H11_6 p1 p2 r1 r32 o123) (P11l2 p1 p2 o123 r1 r32 v78 r) := by
 refine F11l2.partial_correctness p1 p2 o123 r1 r32 v78 (motive := fun v135 v136 r => TL Try.prog 2 2 c11.s2.s2.s2.s2.s2.s2.s1.s2.bd.bd.s2.s2.s1.bd.s2.s2.bd.bd (S11_10 r32 v135 v78 v136) (H11_6 p1 p2 r1 r32 o123) (P11l2 p1 p2 o123 r1 r32 v78 r)) ?_ v135 v136 r hF
 clear hF r v135 v136
 intro again ih v135 v136 r hF
 refine TL.round (TS.sq (TS.rg (TI.ra 1 [5, 6, 8, 10, 46, 47, 48, 52, 53, 54, 55] (st 132 [(5, pt 2 0), (6, accV 4 r32.length), (8, .bool v135), (10, pt 5 0), (46, accV 4 r32.length), (47, iv (r32.length : Int)), (48, iv v78), (52, accV 4 r32.length), (53, iv (r32.length : Int)), (54, iv v136), (55, .bool (decide (v136 < (r32.length : Int))))]) (TI.dn (NX.sq (TS.sq ?_))))))
 refine TS.cd (.tmp 55) (decide (v136 < (r32.length : Int))) (fun hc149 => ?_) (fun hc149 => ?_)
 · replace hF := of_pos hF hc149
   refine TS.sk (NX.sq (TS.sq (TS.bk 5 (TS.sq ?_))))
   obtain ⟨hg150, hF⟩ := of_guard hF
   obtain ⟨o151, h152, hF⟩ := of_do hF
   replace h152 := sj h152
   refine TS.rg (TI.o { val := .pointer (some ⟨4, 0 + (Int.toNat v136) * 2, none⟩) } (q_ixAcc (P := Try.prog) (t := 25) (s := 2) (e := 50) 4 r32.length (by kernel_rfl) hg150 (by kernel_rfl) (by kernel_rfl)) [5, 6, 8, 10, 46, 47, 48, 52, 53, 54, 56] [0, 1, 2, 3, 4, 5] (st 132 [(5, pt 2 0), (6, accV 4 r32.length), (8, .bool v135), (10, pt 5 0), (46, accV 4 r32.length), (47, iv (r32.length : Int)), (48, iv v78), (52, accV 4 r32.length), (53, iv (r32.length : Int)), (54, iv v136), (56, .pointer (some ⟨4, 0 + (Int.toNat v136) * 2, none⟩))]) (H11_6 p1 p2 r1 r32 o123) (TI.o { val := ag [iv o151.1, .bool o151.2] } (q_nAa Try.prog (H11_6 p1 p2 r1 r32 o123) 50 4 (0 + (Int.toNat v136) * 2) r32 e50 2 50 (Int.toNat v136) (0, false) h152) [5, 6, 8, 10, 46, 47, 48, 52, 53, 54, 57] [0, 1, 2, 3, 4, 5] (st 132 [(5, pt 2 0), (6, accV 4 r32.length), (8, .bool v135), (10, pt 5 0), (46, accV 4 r32.length), (47, iv (r32.length : Int)), (48, iv v78), (52, accV 4 r32.length), (53, iv (r32.length : Int)), (54, iv v136), (57, ag [iv o151.1, .bool o151.2])]) (H11_6 p1 p2 r1 r32 o123) (TI.rn 2 [5, 6, 8, 10, 12, 46, 47, 48, 52, 53, 54] [0, 1, 2, 3, 4, 5, 6] (st 132 [(5, pt 2 0), (6, accV 4 r32.length), (8, .bool v135), (10, pt 5 0), (12, pt 6 0), (46, accV 4 r32.length), (47, iv (r32.length : Int)), (48, iv v78), (52, accV 4 r32.length), (53, iv (r32.length : Int)), (54, iv v136)]) (H11_2 p1 p2 r1 r32 o123 o151) (TI.dn (NX.sq (TS.sq ?_))))))
   obtain ⟨r153, h154, hF⟩ := of_do hF
   obtain ⟨r155, h156, hF⟩ := of_do hF
   have hT : ∀ e ∈ ([⟨43, [ag [iv o151.1, .bool o151.2]], (H11_2 p1 p2 r1 r32 o123 o151), ag [iv r153.1, .bool r153.2], []⟩, ⟨28, [ag [iv r1.1, accV 3 r1.2.length], ag [iv o123.1, .bool o123.2], ag [iv r153.1, .bool r153.2]], (H11_2 p1 p2 r1 r32 o123 o151), .tuple ⟨[sv 7 r155.1.length ANY, iv r155.2]⟩, [ab 50 e50 r155.1]⟩] : List Entry), PureSim Try.prog e.g e.args e.h e.v e.new := by
    intro e he
    simp only [List.mem_cons, List.not_mem_nil, or_false] at he
    rcases he with rfl | rfl
    · exact PureSim.ak (C43 _ _ _ h154)
    exact (PureSim.ren (hc := [ab 86 e86 r1.2]) (fun i => List.getD [(3, 0)] i (0, 0)) (C28 _ _ _ _ _ _ _ h156) (.ac (.nil _)) (.cons (Rn.agg' (.fl (.cons (Rn.accA (i' := 3) (nl rfl) rfl) .nil))) (.fl (.fl .nil))) (Rn.tuple' (.cons (Rn.anyS (i' := 7) (nl rfl) rfl rfl) (.fl .nil))) (newflat_cons (accB_flat (fun _ => rfl)) newflat_nil))
   refine TS.dp [⟨43, [ag [iv o151.1, .bool o151.2]], (H11_2 p1 p2 r1 r32 o123 o151), ag [iv r153.1, .bool r153.2], []⟩, ⟨28, [ag [iv r1.1, accV 3 r1.2.length], ag [iv o123.1, .bool o123.2], ag [iv r153.1, .bool r153.2]], (H11_2 p1 p2 r1 r32 o123 o151), .tuple ⟨[sv 7 r155.1.length ANY, iv r155.2]⟩, [ab 50 e50 r155.1]⟩] hT mixed 9 [5, 6, 8, 10, 14, 46, 47, 48, 52, 53, 54] [0, 1, 2, 3, 4, 5] (st 132 [(5, pt 2 0), (6, accV 4 r32.length), (8, .bool v135), (10, pt 5 0), (14, iv r155.2), (46, accV 4 r32.length), (47, iv (r32.length : Int)), (48, iv v78), (52, accV 4 r32.length), (53, iv (r32.length : Int)), (54, iv v136)]) (H11_5 p1 p2 r1 r32 o123) ?_ ?_
   · exact QJ.rn (qs (st 132 [(5, pt 2 0), (6, accV 4 r32.length), (8, .bool v135), (10, pt 5 0), (12, pt 6 0), (46, accV 4 r32.length), (47, iv (r32.length : Int)), (48, iv v78), (52, accV 4 r32.length), (53, iv (r32.length : Int)), (54, iv v136), (59, ag [iv r1.1, accV 3 r1.2.length]), (60, ag [iv o123.1, .bool o123.2]), (61, ag [iv o151.1, .bool o151.2])]) (H11_2 p1 p2 r1 r32 o123 o151) [] []) 3 (QJ.o { val := ag [iv r153.1, .bool r153.2], new := [] } (qOf_call (g := 43) (args := [ag [iv o151.1, .bool o151.2]]) (by kernel_rfl) lookC_hit) (QJ.o { val := .tuple ⟨[sv 7 r155.1.length ANY, iv r155.2]⟩, new := [ab 50 e50 r155.1] } (qOf_call (g := 28) (args := [ag [iv r1.1, accV 3 r1.2.length], ag [iv o123.1, .bool o123.2], ag [iv r153.1, .bool r153.2]]) (by kernel_rfl) (lookC_skip (fun hg => absurd (show (43 : Nat) = 28 from hg) (by decide)) lookC_hit)) (QJ.rn (qs (st 132 [(5, pt 2 0), (6, accV 4 r32.length), (8, .bool v135), (10, pt 5 0), (12, pt 6 0), (13, sv 7 r155.1.length ANY), (46, accV 4 r32.length), (47, iv (r32.length : Int)), (48, iv v78), (52, accV 4 r32.length), (53, iv (r32.length : Int)), (54, iv v136), (58, .tuple ⟨[sv 7 r155.1.length ANY, iv r155.2]⟩), (59, ag [iv r1.1, accV 3 r1.2.length]), (60, ag [iv o123.1, .bool o123.2]), (61, ag [iv o151.1, .bool o151.2]), (62, ag [iv r153.1, .bool r153.2]), (63, .tuple ⟨[sv 7 r155.1.length ANY, iv r155.2]⟩), (64, sv 7 r155.1.length ANY), (65, iv r155.2)]) [ab 84 e84 p1, ab 5 e5 p2, cl 24 [iv r1.1, accV 3 r1.2.length], ab 86 e86 r1.2, ab 50 e50 r32, cl 50 [iv o123.1, .bool o123.2], cl 50 [iv o151.1, .bool o151.2], ab 50 e50 r155.1] [(4, 7, 8)] []) 4 (QJ.dn ⟨rfl, SJ.la⟩))))
   obtain ⟨m157, hm158, hF⟩ := of_do hF
   have hK : NX Try.prog 2 2 [.bk 5, .sq c11.s2.s2.s2.s2.s2.s2.s1.s2.bd.bd.s2.s2.s1.bd.s2.s2.bd.bd.s2.s2.s2] (Rd Try.prog 2 2 c11.s2.s2.s2.s2.s2.s2.s1.s2.bd.bd.s2.s2.s1.bd.s2.s2.bd.bd (P11l2 p1 p2 o123 r1 r32 v78 r)) .normal (st 132 [(5, pt 2 0), (6, accV 4 r32.length), (8, .bool m157), (10, pt 5 0), (46, accV 4 r32.length), (47, iv (r32.length : Int)), (48, iv v78), (52, accV 4 r32.length), (53, iv (r32.length : Int)), (54, iv v136)]) (H11_5 p1 p2 r1 r32 o123) := by
    refine NX.bk (NX.sq (TS.rg (TI.ra 2 [5, 6, 8, 10, 46, 47, 48, 52, 53, 54] (S11_8 r32 m157 v78 v136) (TI.dn ?_))))
    exact Rd.again (a2 := (S11_8 r32 m157 v78 v136)) (h2 := (H11_6 p1 p2 r1 r32 o123)) (Wk.an [2, 3, 4, 5] (.ac (.ac (.lt (.fl (.cons (Rn.acc (nl rfl) rfl) .nil)) (.ac (.ac (.lt (.fl (.fl .nil)) (.nil _))))))) [pt 2 0, accV 4 r32.length, .bool m157, pt 5 0, accV 4 r32.length, iv (r32.length : Int), iv v78, accV 4 r32.length, iv (r32.length : Int), iv (w64 (v136 + 1))] (.pp (.cons (Rn.acc (nl rfl) rfl) (.fl (.pp (.cons (Rn.acc (nl rfl) rfl) (.fl (.fl (.cons (Rn.acc (nl rfl) rfl) (.fl (.fl .nil))))))))))) (ih m157 (w64 (v136 + 1)) _ hF)
   cases v135 with
   | true =>
    replace hm158 := of_pos hm158 rfl
    have hm158 := sj hm158
    subst hm158
    exact TS.rg (TI.ra 6 [5, 6, 8, 10, 46, 47, 48, 52, 53, 54] (st 132 [(5, pt 2 0), (6, accV 4 r32.length), (8, .bool true), (10, pt 5 0), (46, accV 4 r32.length), (47, iv (r32.length : Int)), (48, iv v78), (52, accV 4 r32.length), (53, iv (r32.length : Int)), (54, iv v136)]) (TI.dn hK))
   | false =>
    replace hm158 := of_neg hm158 rfl
    have hm158 := sj hm158
    subst hm158
    exact TS.rg (TI.ra 6 [5, 6, 8, 10, 46, 47, 48, 52, 53, 54] (st 132 [(5, pt 2 0), (6, accV 4 r32.length), (8, .bool (r155.2 == 0)), (10, pt 5 0), (46, accV 4 r32.length), (47, iv (r32.length : Int)), (48, iv v78), (52, accV 4 r32.length), (53, iv (r32.length : Int)), (54, iv v136)]) (TI.dn hK))
 replace hF := of_neg hF hc149
 refine TS.ex 4 (NX.sqX ?_)
 have hF := sj hF
 subst hF
 exact Rd.out (e := .exit 4) (by intro h; cases h) (And.intro rfl (Wk.an [2, 3, 4] (.ac (.ac (.lt (.fl (.cons (Rn.acc (nl rfl) rfl) .nil)) (.ac (.ac (.nil _)))))) [pt 2 0, accV 4 r32.length, .bool v135, accV 4 r32.length, iv (r32.length : Int), iv v78] (.pp (.cons (Rn.acc (nl rfl) rfl) (.fl (.cons (Rn.acc (nl rfl) rfl) (.fl (.fl .nil))))))))
def P11l1 (p1 : List I2) (p2 : List Int) (r1 : Int × (List ((Int × Bool) × (Int × Bool)))) (r32 : List (Int × Bool)) (r : Bool) : Post := fun e a h => e = .exit 2 ∧ Wk Try.prog 2 2 a h (st 132 [(5, pt 2 0), (6, accV 4 r32.length), (8, .bool r)]) (H11_14 p1 p2 r1 r32)
theorem L11l1 (p1 : List I2) (p2 : List Int) (r1 : Int × (List ((Int × Bool) × (Int × Bool)))) (r32 : List (Int × Bool)) (v77 : Bool) (v78 : Int) (r : Bool) (hF : F11l1 p1 p2 r1 r32 v77 v78 = some r) : TL Try.prog 2 2 c11.s2.s2.s2.s2.s2.s2.s1.s2.bd.bd (st 132 [(5, pt 2 0), (6, accV 4 r32.length), (8, .bool v77), (46, accV 4 r32.length), (47, iv (r32.length : Int)), (48, iv v78)]) (H11_14 p1 p2 r1 r32) (P11l1 p1 p2 r1 r32 r) := by
 refine F11l1.partial_correctness p1 p2 r1 r32 (motive := fun v77 v78 r => TL Try.prog 2 2 c11.s2.s2.s2.s2.s2.s2.s1.s2.bd.bd (st 132 [(5, pt 2 0), (6, accV 4 r32.length), (8, .bool v77), (46, accV 4 r32.length), (47, iv (r32.length : Int)), (48, iv v78)]) (H11_14 p1 p2 r1 r32) (P11l1 p1 p2 r1 r32 r)) ?_ v77 v78 r hF
 clear hF r v77 v78
 intro again ih v77 v78 r hF
 refine TL.round (TS.sq (TS.rg (TI.ra 1 [5, 6, 8, 46, 47, 48, 49] (st 132 [(5, pt 2 0), (6, accV 4 r32.length), (8, .bool v77), (46, accV 4 r32.length), (47, iv (r32.length : Int)), (48, iv v78), (49, .bool (decide (v78 < (r32.length : Int))))]) (TI.dn (NX.sq (TS.sq ?_))))))
 refine TS.cd (.tmp 49) (decide (v78 < (r32.length : Int))) (fun hc121 => ?_) (fun hc121 => ?_)
 · replace hF := of_pos hF hc121
   refine TS.sk (NX.sq (TS.sq (TS.bk 3 (TS.sq ?_))))
   obtain ⟨hg122, hF⟩ := of_guard hF
   obtain ⟨o123, h124, hF⟩ := of_do hF
   replace h124 := sj h124
   refine TS.rg (TI.o { val := .pointer (some ⟨4, 0 + (Int.toNat v78) * 2, none⟩) } (q_ixAcc (P := Try.prog) (t := 25) (s := 2) (e := 50) 4 r32.length (by kernel_rfl) hg122 (by kernel_rfl) (by kernel_rfl)) [5, 6, 8, 46, 47, 48, 50] [0, 1, 2, 3, 4] (st 132 [(5, pt 2 0), (6, accV 4 r32.length), (8, .bool v77), (46, accV 4 r32.length), (47, iv (r32.length : Int)), (48, iv v78), (50, .pointer (some ⟨4, 0 + (Int.toNat v78) * 2, none⟩))]) (H11_14 p1 p2 r1 r32) (TI.o { val := ag [iv o123.1, .bool o123.2] } (q_nAa Try.prog (H11_14 p1 p2 r1 r32) 50 4 (0 + (Int.toNat v78) * 2) r32 e50 2 50 (Int.toNat v78) (0, false) h124) [5, 6, 8, 46, 47, 48, 51] [0, 1, 2, 3, 4] (st 132 [(5, pt 2 0), (6, accV 4 r32.length), (8, .bool v77), (46, accV 4 r32.length), (47, iv (r32.length : Int)), (48, iv v78), (51, ag [iv o123.1, .bool o123.2])]) (H11_14 p1 p2 r1 r32) (TI.rn 2 [5, 6, 8, 10, 46, 47, 48] [0, 1, 2, 3, 4, 5] (st 132 [(5, pt 2 0), (6, accV 4 r32.length), (8, .bool v77), (10, pt 5 0), (46, accV 4 r32.length), (47, iv (r32.length : Int)), (48, iv v78)]) (H11_6 p1 p2 r1 r32 o123) (TI.dn (NX.sq (TS.sq (TS.rg (TI.ra 3 [5, 6, 8, 10, 46, 47, 48, 52, 53, 54] (S11_12 r32 v77 v78) ?_))))))))
   refine TI.dn (NX.sq (TS.bk 4 ?_))
   obtain ⟨r159, h160, hF⟩ := of_do hF
   refine TS.lp (TL.weak (a2 := (S11_12 r32 v77 v78)) (h2 := (H11_6 p1 p2 r1 r32 o123)) (Wk.an [2, 3, 4, 5] (.ac (.ac (.lt (.fl (.cons (Rn.acc (nl rfl) rfl) .nil)) (.ac (.ac (.lt (.fl (.fl .nil)) (.nil _))))))) [pt 2 0, accV 4 r32.length, .bool v77, pt 5 0, accV 4 r32.length, iv (r32.length : Int), iv v78, accV 4 r32.length, iv (r32.length : Int), iv 0] (.pp (.cons (Rn.acc (nl rfl) rfl) (.fl (.pp (.cons (Rn.acc (nl rfl) rfl) (.fl (.fl (.cons (Rn.acc (nl rfl) rfl) (.fl (.fl .nil))))))))))) (TL.post (L11l2 p1 p2 o123 r1 r32 v78 v77 0 r159 h160) ?_))
   rintro e a1 h1 hp
   obtain ⟨rfl, hw⟩ := hp
   refine ⟨(st 132 [(5, pt 2 0), (6, accV 4 r32.length), (8, .bool r159), (46, accV 4 r32.length), (47, iv (r32.length : Int)), (48, iv v78)]), (H11_14 p1 p2 r1 r32), (NX.bkX (NX.bk (NX.sq (TS.rg (TI.ra 2 [5, 6, 8, 46, 47, 48] (S11_17 r32 r159 v78) (TI.dn ?_)))))), hw⟩
   exact Rd.again (a2 := (S11_17 r32 r159 v78)) (h2 := (H11_14 p1 p2 r1 r32)) (Wk.an [2, 3, 4] (.ac (.ac (.lt (.fl (.cons (Rn.acc (nl rfl) rfl) .nil)) (.ac (.ac (.nil _)))))) [pt 2 0, accV 4 r32.length, .bool r159, accV 4 r32.length, iv (r32.length : Int), iv (w64 (v78 + 1))] (.pp (.cons (Rn.acc (nl rfl) rfl) (.fl (.cons (Rn.acc (nl rfl) rfl) (.fl (.fl .nil))))))) (ih r159 (w64 (v78 + 1)) _ hF)
 replace hF := of_neg hF hc121
 refine TS.ex 2 (NX.sqX ?_)
 have hF := sj hF
 subst hF
 exact Rd.out (e := .exit 2) (by intro h; cases h) (And.intro rfl (Wk.an [2, 3, 4] (.ac (.ac (.lt (.fl (.cons (Rn.acc (nl rfl) rfl) .nil)) (.ac (.ac (.nil _)))))) [pt 2 0, accV 4 r32.length, .bool v77] (.pp (.cons (Rn.acc (nl rfl) rfl) (.fl .nil)))))
def P11l3 (p1 : List I2) (p2 : List Int) (r1 : Int × (List ((Int × Bool) × (Int × Bool)))) (r32 : List (Int × Bool)) (r163 : (List Bool) × Int) (r : Unit ⊕ Unit) : Post := fun e a h => (match r with | .inl q0 => e = .ret ∧ Wk Try.prog 2 2 a h (st 132 [(4, .bool false)]) (H11_22 p1 p2) | .inr q0 => e = .exit 6 ∧ Wk Try.prog 2 2 a h (st 132 [(5, pt 2 0), (15, accV 4 r163.1.length)]) (H11_11 p1 p2 r1 r163))
theorem L11l3 (p1 : List I2) (p2 : List Int) (r1 : Int × (List ((Int × Bool) × (Int × Bool)))) (r32 : List (Int × Bool)) (r163 : (List Bool) × Int) (v183 : Int) (r : Unit ⊕ Unit) (hF : F11l3 p1 p2 r1 r32 r163 v183 = some r) : TL Try.prog 2 2 c11.s2.s2.s2.s2.s2.s2.s2.s2.s2.s2.s1.s2.bd.bd (st 132 [(5, pt 2 0), (15, accV 4 r163.1.length), (101, accV 5 r32.length), (102, iv (r32.length : Int)), (103, iv v183)]) (H11_3 p1 p2 r1 r163 r32) (P11l3 p1 p2 r1 r32 r163 r) := by
 refine F11l3.partial_correctness p1 p2 r1 r32 r163 (motive := fun v183 r => TL Try.prog 2 2 c11.s2.s2.s2.s2.s2.s2.s2.s2.s2.s2.s1.s2.bd.bd (st 132 [(5, pt 2 0), (15, accV 4 r163.1.length), (101, accV 5 r32.length), (102, iv (r32.length : Int)), (103, iv v183)]) (H11_3 p1 p2 r1 r163 r32) (P11l3 p1 p2 r1 r32 r163 r)) ?_ v183 r hF
 clear hF r v183
 intro again ih v183 r hF
 refine TL.round (TS.sq (TS.rg (TI.ra 1 [5, 15, 101, 102, 103, 104] (st 132 [(5, pt 2 0), (15, accV 4 r163.1.length), (101, accV 5 r32.length), (102, iv (r32.length : Int)), (103, iv v183), (104, .bool (decide (v183 < (r32.length : Int))))]) (TI.dn (NX.sq (TS.sq ?_))))))
 refine TS.cd (.tmp 104) (decide (v183 < (r32.length : Int))) (fun hc193 => ?_) (fun hc193 => ?_)
 · replace hF := of_pos hF hc193
   refine TS.sk (NX.sq (TS.sq (TS.bk 7 (TS.sq ?_))))
   obtain ⟨hg194, hF⟩ := of_guard hF
   obtain ⟨o195, h196, hF⟩ := of_do hF
   replace h196 := sj h196
   refine TS.rg (TI.o { val := .pointer (some ⟨5, 0 + (Int.toNat v183) * 2, none⟩) } (q_ixAcc (P := Try.prog) (t := 25) (s := 2) (e := 50) 5 r32.length (by kernel_rfl) hg194 (by kernel_rfl) (by kernel_rfl)) [5, 15, 101, 102, 103, 105] [0, 1, 2, 3, 4, 5] (st 132 [(5, pt 2 0), (15, accV 4 r163.1.length), (101, accV 5 r32.length), (102, iv (r32.length : Int)), (103, iv v183), (105, .pointer (some ⟨5, 0 + (Int.toNat v183) * 2, none⟩))]) (H11_3 p1 p2 r1 r163 r32) (TI.o { val := ag [iv o195.1, .bool o195.2] } (q_nAa Try.prog (H11_3 p1 p2 r1 r163 r32) 50 5 (0 + (Int.toNat v183) * 2) r32 e50 2 50 (Int.toNat v183) (0, false) h196) [5, 15, 101, 102, 103, 106] [0, 1, 2, 3, 4, 5] (st 132 [(5, pt 2 0), (15, accV 4 r163.1.length), (101, accV 5 r32.length), (102, iv (r32.length : Int)), (103, iv v183), (106, ag [iv o195.1, .bool o195.2])]) (H11_3 p1 p2 r1 r163 r32) (TI.rn 2 [5, 15, 18, 101, 102, 103] [0, 1, 2, 3, 4, 5, 6] (st 132 [(5, pt 2 0), (15, accV 4 r163.1.length), (18, pt 6 0), (101, accV 5 r32.length), (102, iv (r32.length : Int)), (103, iv v183)]) (H11_1 p1 p2 r1 r163 r32 o195) (TI.dn (NX.sq (TS.sq ?_))))))
   obtain ⟨hg197, hF⟩ := of_guard hF
   obtain ⟨o198, h199, hF⟩ := of_do hF
   replace h199 := sj h199
   refine TS.dp [] (fun e he => by cases he) mixed 7 [5, 15, 101, 102, 103, 114] [0, 1, 2, 3, 4, 5] (st 132 [(5, pt 2 0), (15, accV 4 r163.1.length), (101, accV 5 r32.length), (102, iv (r32.length : Int)), (103, iv v183), (114, .bool (!(o198 == o195.2)))]) [ab 84 e84 p1, ab 5 e5 p2, cl 24 [iv r1.1, accV 3 r1.2.length], ab 86 e86 r1.2, ab 4 e4 r163.1, ab 50 e50 r32, .dead] ?_ ?_
   · exact QJ.rn (qs (st 132 [(5, pt 2 0), (15, accV 4 r163.1.length), (18, pt 6 0), (101, accV 5 r32.length), (102, iv (r32.length : Int)), (103, iv v183), (107, accV 4 r163.1.length), (108, pt 6 0), (109, iv o195.1)]) (H11_1 p1 p2 r1 r163 r32 o195) [] []) 3 (QJ.o { val := .pointer (some ⟨4, 0 + (Int.toNat o195.1) * 1, none⟩) } (q_ixAcc (P := Try.prog) (t := 26) (s := 1) (e := 4) 4 r163.1.length (by kernel_rfl) hg197 (by kernel_rfl) (by kernel_rfl)) (QJ.o { val := .bool o198 } (q_n1a Try.prog (H11_1 p1 p2 r1 r163 r32 o195) 4 4 (0 + (Int.toNat o195.1) * 1) r163.1 e4 1 4 (Int.toNat o195.1) 0 false h199) (QJ.rn (qs (st 132 [(5, pt 2 0), (15, accV 4 r163.1.length), (18, pt 6 0), (101, accV 5 r32.length), (102, iv (r32.length : Int)), (103, iv v183), (107, accV 4 r163.1.length), (108, pt 6 0), (109, iv o195.1), (110, .pointer (some ⟨4, 0 + (Int.toNat o195.1) * 1, none⟩)), (111, .bool o198), (112, pt 6 1), (113, .bool o195.2)]) (H11_1 p1 p2 r1 r163 r32 o195) [] []) 2 (QJ.dn ⟨rfl, SJ.la⟩))))
   refine TS.cd (.tmp 114) (!(o198 == o195.2)) (fun hc200 => ?_) (fun hc200 => ?_)
   · replace hF := of_pos hF hc200
     refine TS.sq (TS.rg (TI.rn 1 [4] [0, 1] (st 132 [(4, .bool false)]) (H11_19 p1 p2) (TI.dn (NX.sq (TS.rt (NX.bkR (NX.sqR ?_)))))))
     have hF := sj hF
     subst hF
     exact Rd.out (e := .ret) (by intro h; cases h) (And.intro rfl (Wk.an [] (.ac (.ac (.nil _))) [.bool false] (.fl .nil)))
   replace hF := of_neg hF hc200
   refine TS.sk (NX.bk (NX.sq (TS.rg (TI.ra 2 [5, 15, 101, 102, 103] (st 132 [(5, pt 2 0), (15, accV 4 r163.1.length), (101, accV 5 r32.length), (102, iv (r32.length : Int)), (103, iv (w64 (v183 + 1)))]) (TI.dn ?_)))))
   exact Rd.again (a2 := (st 132 [(5, pt 2 0), (15, accV 4 r163.1.length), (101, accV 5 r32.length), (102, iv (r32.length : Int)), (103, iv (w64 (v183 + 1)))])) (h2 := (H11_3 p1 p2 r1 r163 r32)) (Wk.an [2, 3, 4, 5] (.ac (.ac (.lt (.fl (.cons (Rn.acc (nl rfl) rfl) .nil)) (.ac (.ac (.ac (.nil _))))))) [pt 2 0, accV 4 r163.1.length, accV 5 r32.length, iv (r32.length : Int), iv (w64 (v183 + 1))] (.pp (.cons (Rn.acc (nl rfl) rfl) (.cons (Rn.acc (nl rfl) rfl) (.fl (.fl .nil)))))) (ih (w64 (v183 + 1)) _ hF)
 replace hF := of_neg hF hc193
 refine TS.ex 6 (NX.sqX ?_)
 have hF := sj hF
 subst hF
 exact Rd.out (e := .exit 6) (by intro h; cases h) (And.intro rfl (Wk.an [2, 3, 4] (.ac (.ac (.lt (.fl (.cons (Rn.acc (nl rfl) rfl) .nil)) (.ac (.ac (.nil _)))))) [pt 2 0, accV 4 r163.1.length] (.pp (.cons (Rn.acc (nl rfl) rfl) .nil))))
theorem B11 (p0 : Int) (p1 : List I2) (p2 : List Int) (r : Bool) (hF : F11 p0 p1 p2 = some r) : TS Try.prog 2 2 c11 (st 132 [(0, ag [.int .u8 p0, sv 0 p1.length ANY]), (1, sv 1 p2.length ANY)]) (H11_22 p1 p2) (NX Try.prog 2 2 [] (FinP Try.prog Try.f11 2 (V11 2 r) (N11 2 r))) := by
 unfold F11 at hF
 refine TS.sq (TS.rg (TI.rn 2 [1, 2] [0, 1, 2] (st 132 [(1, sv 1 p2.length ANY), (2, pt 2 0)]) [ab 84 e84 p1, ab 5 e5 p2, cl 71 [.int .u8 p0, sv 0 p1.length ANY]] (TI.dn (NX.sq (TS.sq ?_)))))
 obtain ⟨r1, h2, hF⟩ := of_do hF
 refine TS.rg (TI.rn 1 [1, 20] [0, 1] (st 132 [(1, sv 1 p2.length ANY), (20, ag [.int .u8 p0, sv 0 p1.length ANY])]) [ab 84 e84 p1, ab 5 e5 p2, .dead] (TI.cp 40 [ag [.int .u8 p0, sv 0 p1.length ANY]] (ag [iv r1.1, accV 3 r1.2.length]) [ab 86 e86 r1.2] (PureSim.ren (hc := [ab 84 e84 p1]) (fun i => List.getD [(0, 0)] i (0, 0)) (C40 _ _ _ h2) (.ac (.nil _)) (.cons (Rn.agg' (.fl (.cons (Rn.any _ _ _ _ _ _ (nl rfl) rfl rfl (by decide)) .nil))) .nil) (Rn.agg' (.fl (.cons (Rn.acc (i' := 3) (nl rfl) rfl) .nil))) (newflat_cons (accB_flat (fun _ => rfl)) newflat_nil)) (TI.rn 2 [1, 5] [0, 1, 3, 4] (st 132 [(1, sv 1 p2.length ANY), (5, pt 4 0)]) [ab 84 e84 p1, ab 5 e5 p2, .dead, ab 86 e86 r1.2, cl 24 [iv r1.1, accV 3 r1.2.length]] (TI.dn (NX.sq (TS.sq (TS.rg (TI.ra 1 [1, 5, 6] (st 132 [(1, sv 1 p2.length ANY), (5, pt 4 0), (6, .slice none 0 0)]) ?_))))))))
 refine TI.dn (NX.sq (TS.sq (TS.sq (TS.rg (TI.ra 1 [1, 5, 6, 7] (st 132 [(1, sv 1 p2.length ANY), (5, pt 4 0), (6, .slice none 0 0), (7, iv 0)]) (TI.dn (NX.sq (TS.bk 0 ?_))))))))
 obtain ⟨r32, h33, hF⟩ := of_do hF
 refine TS.lp (TL.weak (a2 := (st 132 [(1, sv 1 p2.length ANY), (5, pt 2 0), (6, accV 4 (List.length ([]))), (7, iv 0)])) (h2 := [ab 84 e84 p1, ab 5 e5 p2, cl 24 [iv r1.1, accV 3 r1.2.length], ab 86 e86 r1.2, accB 50 (List.length ([])) (List.flatMap e50 ([]))]) (Wk.an [4, 3, 5] (.ac (.ac (.lt (.fl (.cons (Rn.acc (nl rfl) rfl) .nil)) (.ac (.cons At.accN (.nil _)))))) [sv 1 p2.length ANY, pt 4 0, .slice none 0 0, iv 0] (.sl (.pp (.cons (Rn.accN) (.fl .nil))))) (TL.post (L11l0 p1 p2 r1 ([]) 0 r32 h33) ?_))
 rintro e a1 h1 hp
 obtain ⟨rfl, hw⟩ := hp
 refine ⟨(st 132 [(5, pt 2 0), (6, accV 4 r32.length)]), (H11_14 p1 p2 r1 r32), (NX.bkX (NX.sq (TS.sq (TS.sq ?_)))), hw⟩
 obtain ⟨r34, h35, hF⟩ := of_do hF
 refine TS.rg (TI.ra 1 [5, 6, 41] (st 132 [(5, pt 2 0), (6, accV 4 r32.length), (41, ag [iv r1.1, accV 3 r1.2.length])]) (TI.cp 41 [ag [iv r1.1, accV 3 r1.2.length], .slice none 0 0] (accV 5 r34.length) [ab 3 e3 r34] (PureSim.ren (hc := [ab 86 e86 r1.2, accB 50 (List.length ([])) (List.flatMap e50 ([]))]) (fun i => List.getD [(3, 0), (0, 0)] i (0, 0)) (C41 _ _ _ _ h35) (.ac (.cons At.accN (.nil _))) (.cons (Rn.agg' (.fl (.cons (Rn.accA (i' := 3) (nl rfl) rfl) .nil))) (.cons (Rn.anyN _ _ _ rfl (by decide)) .nil)) (Rn.acc (i' := 5) (nl rfl) rfl) (newflat_cons (accB_flat (fun _ => rfl)) newflat_nil)) (TI.rn 2 [5, 6, 44] [0, 1, 2, 3, 4] (st 132 [(5, pt 2 0), (6, accV 4 r32.length), (44, .bool ((r34.length : Int) == 0))]) (H11_9 p1 p2 r1 r32) (TI.dn (NX.sq ?_)))))
 refine TS.cd (.tmp 44) ((r34.length : Int) == 0) (fun hc36 => ?_) (fun hc36 => ?_)
 · replace hF := of_pos hF hc36
   refine TS.sq ?_
   obtain ⟨r37, h38, hF⟩ := of_do hF
   refine TS.rg (TI.cf (C15 _ h38) (TI.rn 1 [4] [0, 1] (st 132 [(4, .bool r37)]) (H11_20 p1 p2) (TI.dn (NX.sq (TS.rt (NX.sqR ?_))))))
   have hF := sj hF
   subst hF
   exact ⟨.inr rfl, rfl, .bool r37, by kernel_rfl, WkV.flat0 (by kernel_rfl) (nl rfl)⟩
 replace hF := of_neg hF hc36
 refine TS.sk (NX.sq (TS.sq (TS.rg (TI.ra 1 [5, 6, 8] (st 132 [(5, pt 2 0), (6, accV 4 r32.length), (8, .bool false)]) (TI.dn (NX.sq (TS.sq (TS.sq ?_))))))))
 refine TS.rg (TI.ra 3 [5, 6, 8, 46, 47, 48] (S11_18 r32) (TI.dn (NX.sq (TS.bk 2 ?_))))
 obtain ⟨r161, h162, hF⟩ := of_do hF
 refine TS.lp (TL.weak (a2 := (S11_18 r32)) (h2 := (H11_14 p1 p2 r1 r32)) (Wk.an [2, 3, 4] (.ac (.ac (.lt (.fl (.cons (Rn.acc (nl rfl) rfl) .nil)) (.ac (.ac (.nil _)))))) [pt 2 0, accV 4 r32.length, .bool false, accV 4 r32.length, iv (r32.length : Int), iv 0] (.pp (.cons (Rn.acc (nl rfl) rfl) (.fl (.cons (Rn.acc (nl rfl) rfl) (.fl (.fl .nil))))))) (TL.post (L11l1 p1 p2 r1 r32 false 0 r161 h162) ?_))
 rintro e a1 h1 hp
 obtain ⟨rfl, hw⟩ := hp
 refine ⟨(st 132 [(5, pt 2 0), (6, accV 4 r32.length), (8, .bool r161)]), (H11_14 p1 p2 r1 r32), (NX.bkX (NX.sq (TS.sq ?_))), hw⟩
 obtain ⟨r163, h164, hF⟩ := of_do hF
 refine TS.rg (TI.ra 2 [5, 6, 8, 74, 75] (st 132 [(5, pt 2 0), (6, accV 4 r32.length), (8, .bool r161), (74, ag [iv r1.1, accV 3 r1.2.length]), (75, accV 4 r32.length)]) (TI.cp 18 [ag [iv r1.1, accV 3 r1.2.length], accV 4 r32.length] (.tuple ⟨[accV 5 r163.1.length, iv r163.2]⟩) [ab 4 e4 r163.1] (PureSim.ren (hc := (H11_21 r1 r32)) (fun i => List.getD [(3, 0), (4, 0)] i (0, 0)) (C18 _ _ _ _ h164) (.ac (.ac (.nil _))) (.cons (Rn.agg' (.fl (.cons (Rn.accA (i' := 3) (nl rfl) rfl) .nil))) (.cons (Rn.accA (i' := 4) (nl rfl) rfl) .nil)) (Rn.tuple' (.cons (Rn.acc (i' := 5) (nl rfl) rfl) (.fl .nil))) (newflat_cons (accB_flat (fun _ => rfl)) newflat_nil)) (TI.rn 5 [5, 6, 8, 15, 16] [0, 1, 2, 3, 4, 5] (st 132 [(5, pt 2 0), (6, accV 4 r32.length), (8, .bool r161), (15, accV 5 r163.1.length), (16, iv r163.2)]) (H11_4 p1 p2 r1 r32 r163) (TI.dn (NX.sq (TS.sq (TS.sq (TS.rg ?_))))))))
 refine TI.ra 1 [5, 6, 15, 16, 79] (st 132 [(5, pt 2 0), (6, accV 4 r32.length), (15, accV 5 r163.1.length), (16, iv r163.2), (79, .bool r161)]) (TI.dn (NX.sq ?_))
 cases r161 with
 | true =>
  replace hF := of_pos hF rfl
  refine TS.cdT (.tmp 79) (TS.sq ?_)
  obtain ⟨m171, hm172, hF⟩ := of_do hF
  have hK : NX Try.prog 2 2 [.sq c11.s2.s2.s2.s2.s2.s2.s2.s2.s1.s2.th.s2, .sq c11.s2.s2.s2.s2.s2.s2.s2.s2.s2] (FinP Try.prog Try.f11 2 (V11 2 r) (N11 2 r)) .normal (st 132 [(4, .bool m171)]) (H11_19 p1 p2) := by
   refine NX.sq (TS.rt (NX.sqR ?_))
   have hF := sj hF
   subst hF
   exact ⟨.inr rfl, rfl, .bool m171, by kernel_rfl, WkV.flat0 (by kernel_rfl) (nl rfl)⟩
  rcases Bool.eq_false_or_eq_true (r163.2 == 13) with hc165 | hc165
  · replace hm172 := of_pos hm172 hc165
    have hX := of_do hm172
    clear hm172
    obtain ⟨r166, h167, hm172⟩ := hX
    rcases Bool.eq_false_or_eq_true ((r166.length : Int) == 0) with hc168 | hc168
    · replace hm172 := of_pos hm172 hc168
      have hX := of_do hm172
      clear hm172
      obtain ⟨r169, h170, hm172⟩ := hX
      have hm172 := sj hm172
      subst hm172
      refine TS.rg (TI.rn 1 [5, 6, 80] [0, 1, 2, 3, 4] (st 132 [(5, pt 2 0), (6, accV 4 r32.length), (80, iv r163.2)]) (H11_9 p1 p2 r1 r32) (TI.o { val := .bool true } (q_conv (e := r163.2 == 13) (b := true) (by kernel_rfl) hc165) [5, 6, 81] [0, 1, 2, 3, 4] (st 132 [(5, pt 2 0), (6, accV 4 r32.length), (81, .bool true)]) (H11_9 p1 p2 r1 r32) (TI.rn 3 [82, 83, 84] [0, 1, 3, 4] (st 132 [(82, .bool true), (83, ag [iv r1.1, accV 3 r1.2.length]), (84, accV 4 r32.length)]) [ab 84 e84 p1, ab 5 e5 p2, .dead, ab 86 e86 r1.2, ab 50 e50 r32, .dead] (TI.cp 41 [ag [iv r1.1, accV 3 r1.2.length], accV 4 r32.length] (accV 6 r166.length) [ab 3 e3 r166] (PureSim.ren (hc := (H11_21 r1 r32)) (fun i => List.getD [(3, 0), (4, 0)] i (0, 0)) (C41 _ _ _ _ h167) (.ac (.ac (.nil _))) (.cons (Rn.agg' (.fl (.cons (Rn.accA (i' := 3) (nl rfl) rfl) .nil))) (.cons (Rn.accA (i' := 4) (nl rfl) rfl) .nil)) (Rn.acc (i' := 6) (nl rfl) rfl) (newflat_cons (accB_flat (fun _ => rfl)) newflat_nil)) (TI.rn 1 [82, 86] [0, 1] (st 132 [(82, .bool true), (86, iv (r166.length : Int))]) (H11_19 p1 p2) (TI.o { val := .bool true } (q_conv (e := (r166.length : Int) == 0) (b := true) (by kernel_rfl) hc168) [82, 87] [0, 1] (st 132 [(82, .bool true), (87, .bool true)]) (H11_19 p1 p2) (TI.ra 2 [89] (st 132 [(89, .bool true)]) (TI.cf (C15 _ h170) ?_))))))))
      exact TI.ra 2 [4] (st 132 [(4, .bool r169)]) (TI.dn hK)
    replace hm172 := of_neg hm172 hc168
    have hm172 := sj hm172
    subst hm172
    refine TS.rg (TI.rn 1 [5, 6, 80] [0, 1, 2, 3, 4] (st 132 [(5, pt 2 0), (6, accV 4 r32.length), (80, iv r163.2)]) (H11_9 p1 p2 r1 r32) (TI.o { val := .bool true } (q_conv (e := r163.2 == 13) (b := true) (by kernel_rfl) hc165) [5, 6, 81] [0, 1, 2, 3, 4] (st 132 [(5, pt 2 0), (6, accV 4 r32.length), (81, .bool true)]) (H11_9 p1 p2 r1 r32) (TI.rn 3 [82, 83, 84] [0, 1, 3, 4] (st 132 [(82, .bool true), (83, ag [iv r1.1, accV 3 r1.2.length]), (84, accV 4 r32.length)]) [ab 84 e84 p1, ab 5 e5 p2, .dead, ab 86 e86 r1.2, ab 50 e50 r32, .dead] (TI.cp 41 [ag [iv r1.1, accV 3 r1.2.length], accV 4 r32.length] (accV 6 r166.length) [ab 3 e3 r166] (PureSim.ren (hc := (H11_21 r1 r32)) (fun i => List.getD [(3, 0), (4, 0)] i (0, 0)) (C41 _ _ _ _ h167) (.ac (.ac (.nil _))) (.cons (Rn.agg' (.fl (.cons (Rn.accA (i' := 3) (nl rfl) rfl) .nil))) (.cons (Rn.accA (i' := 4) (nl rfl) rfl) .nil)) (Rn.acc (i' := 6) (nl rfl) rfl) (newflat_cons (accB_flat (fun _ => rfl)) newflat_nil)) (TI.rn 1 [82, 86] [0, 1] (st 132 [(82, .bool true), (86, iv (r166.length : Int))]) (H11_19 p1 p2) (TI.o { val := .bool false } (q_conv (e := (r166.length : Int) == 0) (b := false) (by kernel_rfl) hc168) [82, 87] [0, 1] (st 132 [(82, .bool true), (87, .bool false)]) (H11_19 p1 p2) (TI.ra 5 [4] (st 132 [(4, .bool false)]) (TI.dn ?_))))))))
    exact hK
  replace hm172 := of_neg hm172 hc165
  have hm172 := sj hm172
  subst hm172
  exact TS.rg (TI.rn 1 [5, 6, 80] [0, 1, 2, 3, 4] (st 132 [(5, pt 2 0), (6, accV 4 r32.length), (80, iv r163.2)]) (H11_9 p1 p2 r1 r32) (TI.o { val := .bool false } (q_conv (e := r163.2 == 13) (b := false) (by kernel_rfl) hc165) [5, 6, 81] [0, 1, 2, 3, 4] (st 132 [(5, pt 2 0), (6, accV 4 r32.length), (81, .bool false)]) (H11_9 p1 p2 r1 r32) (TI.rn 11 [4] [0, 1] (st 132 [(4, .bool false)]) (H11_20 p1 p2) (TI.dn (TS.weak (Wk.pad 1) hK)))))
 | false =>
  replace hF := of_neg hF rfl
  refine TS.cdF (.tmp 79) (TS.sk (NX.sq (TS.sq (TS.sq ?_))))
  obtain ⟨m174, hm213, hF⟩ := of_do hF
  have hK : NX Try.prog 2 2 [.sq c11.s2.s2.s2.s2.s2.s2.s2.s2.s2.s1.s2, .sq c11.s2.s2.s2.s2.s2.s2.s2.s2.s2.s2] (FinP Try.prog Try.f11 2 (V11 2 r) (N11 2 r)) .normal (st 132 [(5, pt 2 0), (6, accV 4 r32.length), (15, accV 5 r163.1.length), (100, .bool m174)]) (H11_4 p1 p2 r1 r32 r163) := by
   refine NX.sq ?_
   cases m174 with
   | true =>
    replace hF := of_pos hF rfl
    refine TS.cdT (.tmp 100) (TS.sq (TS.rg (TI.rn 1 [4] [0, 1] (st 132 [(4, .bool false)]) (H11_20 p1 p2) (TI.dn (NX.sq (TS.rt (NX.sqR ?_)))))))
    have hF := sj hF
    subst hF
    exact ⟨.inr rfl, rfl, .bool false, by kernel_rfl, WkV.flat0 (by kernel_rfl) (nl rfl)⟩
   | false =>
    replace hF := of_neg hF rfl
    refine TS.cdF (.tmp 100) (TS.sk (NX.sq (TS.sq (TS.sq (TS.rg (TI.ra 3 [5, 15, 101, 102, 103] (st 132 [(5, pt 2 0), (15, accV 5 r163.1.length), (101, accV 4 r32.length), (102, iv (r32.length : Int)), (103, iv 0)]) (TI.dn (NX.sq ?_))))))))
    refine TS.bk 6 ?_
    obtain ⟨r201, h202, hF⟩ := of_do hF
    refine TS.lp (TL.weak (a2 := (st 132 [(5, pt 2 0), (15, accV 4 r163.1.length), (101, accV 5 r32.length), (102, iv (r32.length : Int)), (103, iv 0)])) (h2 := (H11_3 p1 p2 r1 r163 r32)) (Wk.an [2, 3, 5, 4] (.ac (.ac (.lt (.fl (.cons (Rn.acc (nl rfl) rfl) .nil)) (.ac (.ac (.ac (.nil _))))))) [pt 2 0, accV 5 r163.1.length, accV 4 r32.length, iv (r32.length : Int), iv 0] (.pp (.cons (Rn.acc (nl rfl) rfl) (.cons (Rn.acc (nl rfl) rfl) (.fl (.fl .nil)))))) (TL.post (L11l3 p1 p2 r1 r32 r163 0 r201 h202) ?_))
    rintro e a1 h1 hp
    rcases r201 with o203 | o204
    · skip
      obtain ⟨rfl, hw⟩ := hp
      refine ⟨(st 132 [(4, .bool false)]), (H11_22 p1 p2), (NX.bkR (NX.sqR ?_)), hw⟩
      have hF := sj hF
      subst hF
      exact ⟨.inr rfl, rfl, .bool false, by kernel_rfl, WkV.flat0 (by kernel_rfl) (nl rfl)⟩
    skip
    obtain ⟨rfl, hw⟩ := hp
    refine ⟨(st 132 [(5, pt 2 0), (15, accV 4 r163.1.length)]), (H11_11 p1 p2 r1 r163), (NX.bkX (NX.sq (TS.sq ?_))), hw⟩
    obtain ⟨r205, h206, hF⟩ := of_do hF
    refine TS.rg (TI.rn 2 [117, 118] [0, 1, 3, 4] (st 132 [(117, ag [iv r1.1, accV 3 r1.2.length]), (118, accV 4 r163.1.length)]) [ab 84 e84 p1, ab 5 e5 p2, .dead, ab 86 e86 r1.2, ab 4 e4 r163.1] (TI.cp 22 [ag [iv r1.1, accV 3 r1.2.length], accV 4 r163.1.length] (.tuple ⟨[accV 5 r205.1.length, iv r205.2]⟩) [ab 3 e3 r205.1] (PureSim.ren (hc := [ab 86 e86 r1.2, ab 4 e4 r163.1]) (fun i => List.getD [(3, 0), (4, 0)] i (0, 0)) (C22 _ _ _ _ h206) (.ac (.ac (.nil _))) (.cons (Rn.agg' (.fl (.cons (Rn.accA (i' := 3) (nl rfl) rfl) .nil))) (.cons (Rn.accA (i' := 4) (nl rfl) rfl) .nil)) (Rn.tuple' (.cons (Rn.acc (i' := 5) (nl rfl) rfl) (.fl .nil))) (newflat_cons (accB_flat (fun _ => rfl)) newflat_nil)) (TI.rn 5 [16, 19] [0, 1, 5] (st 132 [(16, iv r205.2), (19, accV 5 r205.1.length)]) (H11_15 p1 p2 r205) (TI.dn (NX.sq (TS.sq ?_))))))
    obtain ⟨m211, hm212, hF⟩ := of_do hF
    have hK : NX Try.prog 2 2 [.sq c11.s2.s2.s2.s2.s2.s2.s2.s2.s2.s2.s2.s2.s2] (FinP Try.prog Try.f11 2 (V11 2 r) (N11 2 r)) .normal (st 132 [(4, .bool m211)]) (H11_20 p1 p2) := by
     refine NX.sq (TS.rt ?_)
     have hF := sj hF
     subst hF
     exact ⟨.inr rfl, rfl, .bool m211, by kernel_rfl, WkV.flat0 (by kernel_rfl) (nl rfl)⟩
    rcases Bool.eq_false_or_eq_true (r205.2 == 0) with hc207 | hc207
    · replace hm212 := of_pos hm212 hc207
      rcases Bool.eq_false_or_eq_true ((r205.1.length : Int) == 0) with hc208 | hc208
      · replace hm212 := of_pos hm212 hc208
        have hX := of_do hm212
        clear hm212
        obtain ⟨r209, h210, hm212⟩ := hX
        have hm212 := sj hm212
        subst hm212
        refine TS.rg (TI.ra 1 [19, 122] (st 132 [(19, accV 5 r205.1.length), (122, iv r205.2)]) (TI.o { val := .bool true } (q_conv (e := r205.2 == 0) (b := true) (by kernel_rfl) hc207) [19, 123] [0, 1, 5] (st 132 [(19, accV 5 r205.1.length), (123, .bool true)]) (H11_15 p1 p2 r205) (TI.rn 3 [124, 126] [0, 1] (st 132 [(124, .bool true), (126, iv (r205.1.length : Int))]) (H11_20 p1 p2) (TI.o { val := .bool true } (q_conv (e := (r205.1.length : Int) == 0) (b := true) (by kernel_rfl) hc208) [124, 127] [0, 1] (st 132 [(124, .bool true), (127, .bool true)]) (H11_20 p1 p2) (TI.ra 2 [129] (st 132 [(129, .bool true)]) (TI.cf (C15 _ h210) (TI.ra 2 [4] (st 132 [(4, .bool r209)]) (TI.dn ?_))))))))
        exact hK
      replace hm212 := of_neg hm212 hc208
      have hm212 := sj hm212
      subst hm212
      exact TS.rg (TI.ra 1 [19, 122] (st 132 [(19, accV 5 r205.1.length), (122, iv r205.2)]) (TI.o { val := .bool true } (q_conv (e := r205.2 == 0) (b := true) (by kernel_rfl) hc207) [19, 123] [0, 1, 5] (st 132 [(19, accV 5 r205.1.length), (123, .bool true)]) (H11_15 p1 p2 r205) (TI.rn 3 [124, 126] [0, 1] (st 132 [(124, .bool true), (126, iv (r205.1.length : Int))]) (H11_20 p1 p2) (TI.o { val := .bool false } (q_conv (e := (r205.1.length : Int) == 0) (b := false) (by kernel_rfl) hc208) [124, 127] [0, 1] (st 132 [(124, .bool true), (127, .bool false)]) (H11_20 p1 p2) (TI.ra 5 [4] (st 132 [(4, .bool false)]) (TI.dn hK))))))
    replace hm212 := of_neg hm212 hc207
    have hm212 := sj hm212
    subst hm212
    exact TS.rg (TI.ra 1 [19, 122] (st 132 [(19, accV 5 r205.1.length), (122, iv r205.2)]) (TI.o { val := .bool false } (q_conv (e := r205.2 == 0) (b := false) (by kernel_rfl) hc207) [19, 123] [0, 1, 5] (st 132 [(19, accV 5 r205.1.length), (123, .bool false)]) (H11_15 p1 p2 r205) (TI.rn 9 [4] [0, 1] (st 132 [(4, .bool false)]) (H11_20 p1 p2) (TI.dn hK))))
  rcases Bool.eq_false_or_eq_true (r163.2 != 0) with hc173 | hc173
  · replace hm213 := of_pos hm213 hc173
    have hm213 := sj hm213
    subst hm213
    exact TS.rg (TI.ra 1 [5, 6, 15, 92] (st 132 [(5, pt 2 0), (6, accV 4 r32.length), (15, accV 5 r163.1.length), (92, iv r163.2)]) (TI.o { val := .bool true } (q_conv (e := r163.2 != 0) (b := true) (by kernel_rfl) hc173) [5, 6, 15, 93] [0, 1, 2, 3, 4, 5] (st 132 [(5, pt 2 0), (6, accV 4 r32.length), (15, accV 5 r163.1.length), (93, .bool true)]) (H11_4 p1 p2 r1 r32 r163) (TI.ra 7 [5, 6, 15, 100] (st 132 [(5, pt 2 0), (6, accV 4 r32.length), (15, accV 5 r163.1.length), (100, .bool true)]) (TI.dn hK))))
  replace hm213 := of_neg hm213 hc173
  have hm213 := sj hm213
  subst hm213
  exact TS.rg (TI.ra 1 [5, 6, 15, 92] (st 132 [(5, pt 2 0), (6, accV 4 r32.length), (15, accV 5 r163.1.length), (92, iv r163.2)]) (TI.o { val := .bool false } (q_conv (e := r163.2 != 0) (b := false) (by kernel_rfl) hc173) [5, 6, 15, 93] [0, 1, 2, 3, 4, 5] (st 132 [(5, pt 2 0), (6, accV 4 r32.length), (15, accV 5 r163.1.length), (93, .bool false)]) (H11_4 p1 p2 r1 r32 r163) (TI.ra 7 [5, 6, 15, 100] (st 132 [(5, pt 2 0), (6, accV 4 r32.length), (15, accV 5 r163.1.length), (100, .bool ((r163.1.length : Int) != r1.1))]) (TI.dn hK))))
theorem C11 (p0 : Int) (p1 : List I2) (p2 : List Int) (r : Bool) (hF : F11 p0 p1 p2 = some r) : PureSim Try.prog 11 [ag [.int .u8 p0, sv 0 p1.length ANY], sv 1 p2.length ANY] (H11_22 p1 p2) (V11 2 r) (N11 2 r) :=
 PureSim.of_Fin Try.func11 (c := c11) (by kernel_rfl) (by kernel_rfl) 2 rfl [0, 1] [0, 1] (by kernel_rfl) (B11 p0 p1 p2 r hF)
end
end Go.Proofs.Ytiaippkjgmccoaa
