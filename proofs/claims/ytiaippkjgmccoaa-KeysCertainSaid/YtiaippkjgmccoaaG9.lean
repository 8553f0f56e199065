/- What functions of the program compute, and that they do. -/
import Derived.Test.YtiaippkjgmccoaaKV
import Derived.Test.YtiaippkjgmccoaaGiven
set_option linter.unusedVariables false
set_option linter.unusedSimpArgs false
set_option maxRecDepth 100000
set_option maxHeartbeats 4000000
namespace Go.Proofs.Ytiaippkjgmccoaa
open Go Go.Cl
noncomputable section
def e5 (x : Int) : List Value := [.int .u8 x]
noncomputable def c9 : Code := Try.f9.code
def S9_0 (p2 : List Int) (v12 : List (Int × Bool)) (v11 : Int) (r1 : Int × (List ((Int × Bool) × (Int × Bool)))) (o26 : Int) (r28 : Int × Bool) : CAct := (st 131 [(1, sv 1 p2.length ANY), (5, pt 2 0), (6, accV 4 v12.length), (7, iv v11), (28, .bool true), (31, accV 4 v12.length), (32, ag [iv r1.1, accV 3 r1.2.length]), (33, sv 1 p2.length ANY), (34, iv v11), (35, .pointer (some ⟨1, 0 + (Int.toNat v11) * 1, none⟩)), (36, .int .u8 o26), (37, ag [iv r28.1, .bool r28.2]), (38, sv 5 1 1)])
def S9_1 (r32 : List (Int × Bool)) (r34 : List Int) (v96 o145 v152 o163 : Int) (r36 : (List Int) × Int) (v153 : Int) : CAct := (st 131 [(5, pt 2 0), (6, accV 4 r32.length), (8, accV 5 r34.length), (13, iv v96), (14, iv o145), (15, iv (w64 (v152 + (and64 (shr64 o163 v96) 1)))), (85, accV 6 r36.1.length), (86, iv (r36.1.length : Int)), (87, iv v96), (92, accV 5 r34.length), (93, iv (r34.length : Int)), (94, iv (w64 (v153 + 1)))])
def H9_2 (p1 : List I2) (p2 : List Int) (r1 : Int × (List ((Int × Bool) × (Int × Bool)))) (r32 : List (Int × Bool)) (r34 : List Int) (r36 : (List Int) × Int) : List Blk := [ab 84 e84 p1, ab 5 e5 p2, cl 24 [iv r1.1, accV 3 r1.2.length], ab 86 e86 r1.2, ab 50 e50 r32, ab 3 e3 r34, ab 3 e3 r36.1]
def S9_3 (r32 : List (Int × Bool)) (r34 : List Int) (v96 o145 v152 : Int) (r36 : (List Int) × Int) (v153 : Int) : CAct := (st 131 [(5, pt 2 0), (6, accV 4 r32.length), (8, accV 5 r34.length), (13, iv v96), (14, iv o145), (15, iv v152), (85, accV 6 r36.1.length), (86, iv (r36.1.length : Int)), (87, iv v96), (92, accV 5 r34.length), (93, iv (r34.length : Int)), (94, iv v153)])
def S9_4 (r32 : List (Int × Bool)) (r34 : List Int) (v96 o145 : Int) (r36 : (List Int) × Int) : CAct := (st 131 [(5, pt 2 0), (6, accV 4 r32.length), (8, accV 5 r34.length), (13, iv v96), (14, iv o145), (15, iv 0), (85, accV 6 r36.1.length), (86, iv (r36.1.length : Int)), (87, iv v96), (92, accV 5 r34.length), (93, iv (r34.length : Int)), (94, iv 0)])
def H9_5 (p1 : List I2) (p2 : List Int) (r1 : Int × (List ((Int × Bool) × (Int × Bool)))) (v12 : List (Int × Bool)) (r28 : Int × Bool) : List Blk := [ab 84 e84 p1, ab 5 e5 p2, cl 24 [iv r1.1, accV 3 r1.2.length], ab 86 e86 r1.2, ab 50 e50 v12, cl 50 [iv r28.1, .bool r28.2]]
def H9_6 (p1 : List I2) (p2 : List Int) (r1 : Int × (List ((Int × Bool) × (Int × Bool)))) (v12 : List (Int × Bool)) : List Blk := [ab 84 e84 p1, ab 5 e5 p2, cl 24 [iv r1.1, accV 3 r1.2.length], ab 86 e86 r1.2, ab 50 e50 v12]
def S9_7 (r32 : List (Int × Bool)) (r34 : List Int) (v96 m172 : Int) (r36 : (List Int) × Int) : CAct := (st 131 [(5, pt 2 0), (6, accV 4 r32.length), (8, accV 5 r34.length), (13, iv v96), (18, iv m172), (85, accV 6 r36.1.length), (86, iv (r36.1.length : Int)), (87, iv v96), (115, iv (r32.length : Int))])
def H9_8 (p1 : List I2) (p2 : List Int) (r36 : (List Int) × Int) : List Blk := [ab 84 e84 p1, ab 5 e5 p2, .dead, .dead, .dead, .dead, ab 3 e3 r36.1]
def S9_9 (p2 : List Int) (v12 : List (Int × Bool)) (v11 : Int) : CAct := (st 131 [(1, sv 1 p2.length ANY), (5, pt 2 0), (6, accV 4 v12.length), (7, iv v11), (21, iv v11), (23, iv (p2.length : Int))])
def H9_10 (p1 : List I2) (p2 : List Int) : List Blk := [ab 84 e84 p1, ab 5 e5 p2, .dead, .dead, .dead, .dead, .dead]
def H9_11 (r1 : Int × (List ((Int × Bool) × (Int × Bool)))) (r32 : List (Int × Bool)) : List Blk := [ab 86 e86 r1.2, ab 50 e50 r32]
def H9_12 (p1 : List I2) (p2 : List Int) : List Blk := [ab 84 e84 p1, ab 5 e5 p2]
def F9l0 (p1 : List I2) (p2 : List Int) (r1 : Int × (List ((Int × Bool) × (Int × Bool)))) (v12 : List (Int × Bool)) (v11 : Int) : Option (List (Int × Bool)) :=
 (
  if decide (v11 < (p2.length : Int)) then
   some (decide (v11 < 4))
  else
   some (false)
 : Option Bool) >>= fun m24 =>
 if m24 then
  if (0 : Int) ≤ v11 ∧ v11 < (p2.length : Int) then
   some (List.getD p2 (Int.toNat v11) 0) >>= fun o26 =>
   F45 r1.1 r1.2 o26 >>= fun r28 =>
   if List.length v12 ≤ 1000000000 then
    F9l0 p1 p2 r1 (v12 ++ [(r28.1, r28.2)]) (w64 (v11 + 1))
   else none
  else none
 else
  some v12
 partial_fixpoint
def F9l2 (p1 : List I2) (p2 : List Int) (o145 : Int) (r1 : Int × (List ((Int × Bool) × (Int × Bool)))) (r32 : List (Int × Bool)) (r34 : List Int) (r36 : (List Int) × Int) (v96 v152 v153 : Int) : Option Int :=
 if decide (v153 < (r34.length : Int)) then
  if (0 : Int) ≤ v153 ∧ v153 < (r34.length : Int) then
   some (List.getD r34 (Int.toNat v153) 0) >>= fun o163 =>
   if (0 : Int) ≤ v96 then
    F9l2 p1 p2 o145 r1 r32 r34 r36 v96 (w64 (v152 + (and64 (shr64 o163 v96) 1))) (w64 (v153 + 1))
   else none
  else none
 else
  some v152
 partial_fixpoint
def F9l1 (p1 : List I2) (p2 : List Int) (r1 : Int × (List ((Int × Bool) × (Int × Bool)))) (r32 : List (Int × Bool)) (r34 : List Int) (r36 : (List Int) × Int) (v96 : Int) : Option (Unit ⊕ Unit) :=
 if decide (v96 < (r36.1.length : Int)) then
  if (0 : Int) ≤ v96 ∧ v96 < (r36.1.length : Int) then
   some (List.getD r36.1 (Int.toNat v96) 0) >>= fun o145 =>
   F9l2 p1 p2 o145 r1 r32 r34 r36 v96 0 0 >>= fun r166 =>
   (
    if r166 == (r34.length : Int) then
     some 1
    else
     (
      if r166 == 0 then
       some 0
      else
       some 2
     : Option Int) >>= fun m184 =>
     some m184
   : Option Int) >>= fun m172 =>
   if o145 != m172 then
    some (.inl ())
   else
    (
     if (r32.length : Int) == 0 then
      F46 r1.1 r1.2 v96 false v96 true >>= fun r176 =>
      some (!((decide (r176 > 0)) == (m172 == 1)))
     else
      some (false)
    : Option Bool) >>= fun m178 =>
    if m178 then
     some (.inl ())
    else
     F9l1 p1 p2 r1 r32 r34 r36 (w64 (v96 + 1))
  else none
 else
  some (.inr ())
 partial_fixpoint
def F9 (p0 : Int) (p1 : List I2) (p2 : List Int) : Option Bool :=
 F40 p0 p1 >>= fun r1 =>
 F9l0 p1 p2 r1 ([]) 0 >>= fun r32 =>
 F41 r1.1 r1.2 r32 >>= fun r34 =>
 F20 r1.1 r1.2 r32 >>= fun r36 =>
 F38 r1.1 r1.2 r32 >>= fun r38 =>
 (
  if r38.2 != 0 then
   some (true)
  else
   some (r38.1 != (r34.length : Int))
 : Option Bool) >>= fun m41 =>
 if m41 then
  some false
 else
  if (r34.length : Int) == 0 then
   (
    if r36.2 == 13 then
     if (r36.1.length : Int) == 0 then
      F15 >>= fun r45 =>
      some (r45)
     else
      some (false)
    else
     some (false)
   : Option Bool) >>= fun m47 =>
   some m47
  else
   (
    if r36.2 != 0 then
     some (true)
    else
     some ((r36.1.length : Int) != r1.1)
   : Option Bool) >>= fun m50 =>
   if m50 then
    some false
   else
    F9l1 p1 p2 r1 r32 r34 r36 0 >>= fun r187 =>
    match r187 with
    | .inl o189 =>
     some false
    | .inr o190 =>
     F15 >>= fun r191 =>
     some r191
def V9 (b : Nat) (r : Bool) : Value := .bool r
def N9 (b : Nat) (r : Bool) : List Blk := []
def P9l0 (p1 : List I2) (p2 : List Int) (r1 : Int × (List ((Int × Bool) × (Int × Bool)))) (r : List (Int × Bool)) : Post := fun e a h => e = .exit 0 ∧ Wk Try.prog 2 2 a h (st 131 [(5, pt 2 0), (6, accV 4 r.length)]) [ab 84 e84 p1, ab 5 e5 p2, cl 24 [iv r1.1, accV 3 r1.2.length], ab 86 e86 r1.2, ab 50 e50 r]
theorem L9l0 (p1 : List I2) (p2 : List Int) (r1 : Int × (List ((Int × Bool) × (Int × Bool)))) (v12 : List (Int × Bool)) (v11 : Int) (r : List (Int × Bool)) (hF : F9l0 p1 p2 r1 v12 v11 = some r) : TL Try.prog 2 2 c9.s2.s2.s2.s1.s2.bd.bd (st 131 [(1, sv 1 p2.length ANY), (5, pt 2 0), (6, accV 4 v12.length), (7, iv v11)]) (H9_6 p1 p2 r1 v12) (P9l0 p1 p2 r1 r) := by
 refine F9l0.partial_correctness p1 p2 r1 (motive := fun v12 v11 r => TL Try.prog 2 2 c9.s2.s2.s2.s1.s2.bd.bd (st 131 [(1, sv 1 p2.length ANY), (5, pt 2 0), (6, accV 4 v12.length), (7, iv v11)]) (H9_6 p1 p2 r1 v12) (P9l0 p1 p2 r1 r)) ?_ v12 v11 r hF
 clear hF r v12 v11
 intro again ih v12 v11 r hF
 refine TL.round (TS.sq (TS.sq ?_))
 obtain ⟨m24, hm31, hF⟩ := of_do hF
 have hK : NX Try.prog 2 2 [.sq c9.s2.s2.s2.s1.s2.bd.bd.s1.s2, .sq c9.s2.s2.s2.s1.s2.bd.bd.s2] (Rd Try.prog 2 2 c9.s2.s2.s2.s1.s2.bd.bd (P9l0 p1 p2 r1 r)) .normal (st 131 [(1, sv 1 p2.length ANY), (5, pt 2 0), (6, accV 4 v12.length), (7, iv v11), (28, .bool m24)]) (H9_6 p1 p2 r1 v12) := by
  refine NX.sq ?_
  cases m24 with
  | true =>
   replace hF := of_pos hF rfl
   refine TS.cdT (.tmp 28) (TS.sk (NX.sq (TS.sq (TS.bk 1 ?_))))
   obtain ⟨hg25, hF⟩ := of_guard hF
   obtain ⟨o26, h27, hF⟩ := of_do hF
   replace h27 := sj h27
   obtain ⟨r28, h29, hF⟩ := of_do hF
   obtain ⟨hg30, hF⟩ := of_guard hF
   have hT : ∀ e ∈ ([⟨45, [ag [iv r1.1, accV 3 r1.2.length], .int .u8 o26], (H9_6 p1 p2 r1 v12), ag [iv r28.1, .bool r28.2], []⟩] : List Entry), PureSim Try.prog e.g e.args e.h e.v e.new := by
    intro e he
    simp only [List.mem_cons, List.not_mem_nil, or_false] at he
    rcases he with rfl
    exact (PureSim.ren (hc := [ab 86 e86 r1.2]) (fun i => List.getD [(3, 0)] i (0, 0)) (C45 _ _ _ _ h29) (.ac (.nil _)) (.cons (Rn.agg' (.fl (.cons (Rn.accA (i' := 3) (nl rfl) rfl) .nil))) (.fl .nil)) (.flat (by kernel_rfl)) newflat_nil)
   refine TS.drawT [⟨45, [ag [iv r1.1, accV 3 r1.2.length], .int .u8 o26], (H9_6 p1 p2 r1 v12), ag [iv r28.1, .bool r28.2], []⟩] hT mixed 8 [] (S9_0 p2 v12 v11 r1 o26 r28) (H9_5 p1 p2 r1 v12 r28) ?_ ?_
   · exact QJ.rn (qs (st 131 [(1, sv 1 p2.length ANY), (5, pt 2 0), (6, accV 4 v12.length), (7, iv v11), (28, .bool true), (31, accV 4 v12.length), (32, ag [iv r1.1, accV 3 r1.2.length]), (33, sv 1 p2.length ANY), (34, iv v11)]) (H9_6 p1 p2 r1 v12) [] []) 4 (QJ.o { val := .pointer (some ⟨1, 0 + (Int.toNat v11) * 1, none⟩) } (q_ixS 1 0 ((Int.toNat v11) * 1) (by kernel_rfl) hg25) (QJ.o { val := .int .u8 o26 } (q_n1a Try.prog (H9_6 p1 p2 r1 v12) 5 1 (0 + (Int.toNat v11) * 1) p2 e5 1 5 (Int.toNat v11) 0 0 h27) (QJ.o { val := ag [iv r28.1, .bool r28.2], new := [] } (qOf_call (g := 45) (args := [ag [iv r1.1, accV 3 r1.2.length], .int .u8 o26]) (by kernel_rfl) lookC_hit) (QJ.rn (qs (S9_0 p2 v12 v11 r1 o26 r28) (H9_5 p1 p2 r1 v12 r28) [(7, 5, 6)] []) 1 (QJ.dn ⟨by kernel_rfl, by kernel_rfl, by kernel_rfl⟩)))))
   refine TI.rn 0 [1, 5, 7, 31, 38] [0, 1, 2, 3, 4, 5] (st 131 [(1, sv 1 p2.length ANY), (5, pt 2 0), (7, iv v11), (31, accV 4 v12.length), (38, sv 5 1 1)]) (H9_5 p1 p2 r1 v12 r28) (TI.acc (l := v12) (b := 4) (ts := #[25, 25]) (e := 50) (bytes := 16) (z := ag [iv 0, .bool false]) (y := sv 5 1 1) (ys := [(r28.1, r28.2)]) (xs := List.flatMap e50 ([(r28.1, r28.2)])) (m := 1) (s := 2) (enc := e50) (by kernel_rfl) (by kernel_rfl) (by decide) (by kernel_rfl) (by kernel_rfl) (by kernel_rfl) (by kernel_rfl) (by kernel_rfl) (by kernel_rfl) (by kernel_rfl) (by kernel_rfl) (fun _ => rfl) rfl rfl (by omega) [1, 5, 7, 39] [0, 1, 2, 3, 6] (a2 := (st 131 [(1, sv 1 p2.length ANY), (5, pt 2 0), (7, iv v11), (39, sv 6 (List.length (v12 ++ [(r28.1, r28.2)])) UNK)])) (h2 := [ab 84 e84 p1, ab 5 e5 p2, cl 24 [iv r1.1, accV 3 r1.2.length], ab 86 e86 r1.2, .dead, .dead, .cells 50 (List.flatMap e50 (v12 ++ [(r28.1, r28.2)]))]) (by kernel_rfl) (TI.ra 1 [1, 5, 6, 7] (st 131 [(1, sv 1 p2.length ANY), (5, pt 2 0), (6, sv 6 (List.length (v12 ++ [(r28.1, r28.2)])) UNK), (7, iv v11)]) (TI.dn (NX.bk (NX.sq (TS.rg (TI.ra 3 [1, 5, 6, 7] (st 131 [(1, sv 1 p2.length ANY), (5, pt 2 0), (6, sv 6 (List.length (v12 ++ [(r28.1, r28.2)])) UNK), (7, iv (w64 (v11 + 1)))]) (TI.dn ?_))))))))
   exact Rd.again (a2 := (st 131 [(1, sv 1 p2.length ANY), (5, pt 2 0), (6, accV 4 (List.length (v12 ++ [(r28.1, r28.2)]))), (7, iv (w64 (v11 + 1)))])) (h2 := [ab 84 e84 p1, ab 5 e5 p2, cl 24 [iv r1.1, accV 3 r1.2.length], ab 86 e86 r1.2, accB 50 (List.length (v12 ++ [(r28.1, r28.2)])) (List.flatMap e50 (v12 ++ [(r28.1, r28.2)]))]) (Wk.an [2, 3, 6] (.ac (.ac (.lt (.fl (.cons (Rn.acc (nl rfl) rfl) .nil)) (.ac (.cons (At.accU (by kernel_rfl) rfl (fun _ => rfl)) (.nil _)))))) [sv 1 p2.length ANY, pt 2 0, sv 6 (List.length (v12 ++ [(r28.1, r28.2)])) UNK, iv (w64 (v11 + 1))] (.sl (.pp (.cons (Rn.accU (nl rfl) rfl (by simp)) (.fl .nil))))) (ih (v12 ++ [(r28.1, r28.2)]) (w64 (v11 + 1)) _ hF)
  | false =>
   replace hF := of_neg hF rfl
   refine TS.cdF (.tmp 28) (TS.ex 0 (NX.sqX ?_))
   have hF := sj hF
   subst hF
   exact Rd.out (e := .exit 0) (by intro h; cases h) (And.intro rfl (Wk.an [2, 3, 4] (.ac (.ac (.lt (.fl (.cons (Rn.acc (nl rfl) rfl) .nil)) (.ac (.ac (.nil _)))))) [pt 2 0, accV 4 v12.length] (.pp (.cons (Rn.acc (nl rfl) rfl) .nil))))
 rcases Bool.eq_false_or_eq_true (decide (v11 < (p2.length : Int))) with hc23 | hc23
 · replace hm31 := of_pos hm31 hc23
   have hm31 := sj hm31
   subst hm31
   exact TS.rg (TI.ra 3 [1, 5, 6, 7, 21, 23] (S9_9 p2 v12 v11) (TI.o { val := .bool true } (q_conv (e := decide (v11 < (p2.length : Int))) (b := true) (by kernel_rfl) hc23) [1, 5, 6, 7, 24] [0, 1, 2, 3, 4] (st 131 [(1, sv 1 p2.length ANY), (5, pt 2 0), (6, accV 4 v12.length), (7, iv v11), (24, .bool true)]) (H9_6 p1 p2 r1 v12) (TI.ra 4 [1, 5, 6, 7, 28] (st 131 [(1, sv 1 p2.length ANY), (5, pt 2 0), (6, accV 4 v12.length), (7, iv v11), (28, .bool (decide (v11 < 4)))]) (TI.dn hK))))
 replace hm31 := of_neg hm31 hc23
 have hm31 := sj hm31
 subst hm31
 exact TS.rg (TI.ra 3 [1, 5, 6, 7, 21, 23] (S9_9 p2 v12 v11) (TI.o { val := .bool false } (q_conv (e := decide (v11 < (p2.length : Int))) (b := false) (by kernel_rfl) hc23) [1, 5, 6, 7, 24] [0, 1, 2, 3, 4] (st 131 [(1, sv 1 p2.length ANY), (5, pt 2 0), (6, accV 4 v12.length), (7, iv v11), (24, .bool false)]) (H9_6 p1 p2 r1 v12) (TI.ra 4 [1, 5, 6, 7, 28] (st 131 [(1, sv 1 p2.length ANY), (5, pt 2 0), (6, accV 4 v12.length), (7, iv v11), (28, .bool false)]) (TI.dn hK))))
def P9l2 (p1 : List I2) (p2 : List Int) (o145 : Int) (r1 : Int × (List ((Int × Bool) × (Int × Bool)))) (r32 : List (Int × Bool)) (r34 : List Int) (r36 : (List Int) × Int) (v96 r : Int) : Post := fun e a h => e = .exit 4 ∧ Wk Try.prog 2 2 a h (st 131 [(5, pt 2 0), (6, accV 4 r32.length), (8, accV 5 r34.length), (13, iv v96), (14, iv o145), (15, iv r), (85, accV 6 r36.1.length), (86, iv (r36.1.length : Int)), (87, iv v96)]) (H9_2 p1 p2 r1 r32 r34 r36)
theorem L9l2 (p1 : List I2) (p2 : List Int) (o145 : Int) (r1 : Int × (List ((Int × Bool) × (Int × Bool)))) (r32 : List (Int × Bool)) (r34 : List Int) (r36 : (List Int) × Int) (v96 v152 v153 r : Int) (hF : F9l2 p1 p2 o145 r1 r32 r34 r36 v96 v152 v153 = some r) : TL Try.prog 2 2 c9.s2.s2.s2.s2.s2.s2.s2.s2.s2.s2.s1.s2.bd.bd.s2.s2.s1.bd.s2.s2.s1.s2.bd.bd (S9_3 r32 r34 v96 o145 v152 r36 v153) (H9_2 p1 p2 r1 r32 r34 r36) (P9l2 p1 p2 o145 r1 r32 r34 r36 v96 r) := by
 refine F9l2.partial_correctness p1 p2 o145 r1 r32 r34 r36 v96 (motive := fun v152 v153 r => TL Try.prog 2 2 c9.s2.s2.s2.s2.s2.s2.s2.s2.s2.s2.s1.s2.bd.bd.s2.s2.s1.bd.s2.s2.s1.s2.bd.bd (S9_3 r32 r34 v96 o145 v152 r36 v153) (H9_2 p1 p2 r1 r32 r34 r36) (P9l2 p1 p2 o145 r1 r32 r34 r36 v96 r)) ?_ v152 v153 r hF
 clear hF r v152 v153
 intro again ih v152 v153 r hF
 refine TL.round (TS.sq (TS.rg (TI.ra 1 [5, 6, 8, 13, 14, 15, 85, 86, 87, 92, 93, 94, 95] (st 131 [(5, pt 2 0), (6, accV 4 r32.length), (8, accV 5 r34.length), (13, iv v96), (14, iv o145), (15, iv v152), (85, accV 6 r36.1.length), (86, iv (r36.1.length : Int)), (87, iv v96), (92, accV 5 r34.length), (93, iv (r34.length : Int)), (94, iv v153), (95, .bool (decide (v153 < (r34.length : Int))))]) (TI.dn (NX.sq (TS.sq ?_))))))
 refine TS.cd (.tmp 95) (decide (v153 < (r34.length : Int))) (fun hc161 => ?_) (fun hc161 => ?_)
 · replace hF := of_pos hF hc161
   refine TS.sk (NX.sq (TS.sq (TS.bk 5 (TS.sq ?_))))
   obtain ⟨hg162, hF⟩ := of_guard hF
   obtain ⟨o163, h164, hF⟩ := of_do hF
   replace h164 := sj h164
   refine TS.rg (TI.o { val := .pointer (some ⟨5, 0 + (Int.toNat v153) * 1, none⟩) } (q_ixAcc (P := Try.prog) (t := 38) (s := 1) (e := 3) 5 r34.length (by kernel_rfl) hg162 (by kernel_rfl) (by kernel_rfl)) [5, 6, 8, 13, 14, 15, 85, 86, 87, 92, 93, 94, 96] [0, 1, 2, 3, 4, 5, 6] (st 131 [(5, pt 2 0), (6, accV 4 r32.length), (8, accV 5 r34.length), (13, iv v96), (14, iv o145), (15, iv v152), (85, accV 6 r36.1.length), (86, iv (r36.1.length : Int)), (87, iv v96), (92, accV 5 r34.length), (93, iv (r34.length : Int)), (94, iv v153), (96, .pointer (some ⟨5, 0 + (Int.toNat v153) * 1, none⟩))]) (H9_2 p1 p2 r1 r32 r34 r36) (TI.o { val := iv o163 } (q_n1a Try.prog (H9_2 p1 p2 r1 r32 r34 r36) 3 5 (0 + (Int.toNat v153) * 1) r34 e3 1 3 (Int.toNat v153) 0 0 h164) [5, 6, 8, 13, 14, 15, 85, 86, 87, 92, 93, 94, 97] [0, 1, 2, 3, 4, 5, 6] (st 131 [(5, pt 2 0), (6, accV 4 r32.length), (8, accV 5 r34.length), (13, iv v96), (14, iv o145), (15, iv v152), (85, accV 6 r36.1.length), (86, iv (r36.1.length : Int)), (87, iv v96), (92, accV 5 r34.length), (93, iv (r34.length : Int)), (94, iv v153), (97, iv o163)]) (H9_2 p1 p2 r1 r32 r34 r36) (TI.ra 1 [5, 6, 8, 13, 14, 15, 17, 85, 86, 87, 92, 93, 94] (st 131 [(5, pt 2 0), (6, accV 4 r32.length), (8, accV 5 r34.length), (13, iv v96), (14, iv o145), (15, iv v152), (17, iv o163), (85, accV 6 r36.1.length), (86, iv (r36.1.length : Int)), (87, iv v96), (92, accV 5 r34.length), (93, iv (r34.length : Int)), (94, iv v153)]) (TI.dn (NX.sq ?_)))))
   obtain ⟨hg165, hF⟩ := of_guard hF
   refine TS.rg (TI.ra 3 [5, 6, 8, 13, 14, 85, 86, 87, 92, 93, 94, 98, 99, 100] (st 131 [(5, pt 2 0), (6, accV 4 r32.length), (8, accV 5 r34.length), (13, iv v96), (14, iv o145), (85, accV 6 r36.1.length), (86, iv (r36.1.length : Int)), (87, iv v96), (92, accV 5 r34.length), (93, iv (r34.length : Int)), (94, iv v153), (98, iv v152), (99, iv o163), (100, iv v96)]) (TI.o { val := iv (shr64 o163 v96) } (q_shr (P := Try.prog) (ty := 3) (ox := (.tmp 99)) (oy := (.tmp 100)) (by kernel_rfl) hg165) [5, 6, 8, 13, 14, 85, 86, 87, 92, 93, 94, 98, 101] [0, 1, 2, 3, 4, 5, 6] (st 131 [(5, pt 2 0), (6, accV 4 r32.length), (8, accV 5 r34.length), (13, iv v96), (14, iv o145), (85, accV 6 r36.1.length), (86, iv (r36.1.length : Int)), (87, iv v96), (92, accV 5 r34.length), (93, iv (r34.length : Int)), (94, iv v153), (98, iv v152), (101, iv (shr64 o163 v96))]) (H9_2 p1 p2 r1 r32 r34 r36) (TI.o { val := iv (and64 (shr64 o163 v96) 1) } (q_and (P := Try.prog) (ty := 3) (ox := (.tmp 101)) (oy := (.const (iv 1))) (by kernel_rfl)) [5, 6, 8, 13, 14, 85, 86, 87, 92, 93, 94, 98, 102] [0, 1, 2, 3, 4, 5, 6] (st 131 [(5, pt 2 0), (6, accV 4 r32.length), (8, accV 5 r34.length), (13, iv v96), (14, iv o145), (85, accV 6 r36.1.length), (86, iv (r36.1.length : Int)), (87, iv v96), (92, accV 5 r34.length), (93, iv (r34.length : Int)), (94, iv v153), (98, iv v152), (102, iv (and64 (shr64 o163 v96) 1))]) (H9_2 p1 p2 r1 r32 r34 r36) (TI.ra 2 [5, 6, 8, 13, 14, 15, 85, 86, 87, 92, 93, 94] (st 131 [(5, pt 2 0), (6, accV 4 r32.length), (8, accV 5 r34.length), (13, iv v96), (14, iv o145), (15, iv (w64 (v152 + (and64 (shr64 o163 v96) 1)))), (85, accV 6 r36.1.length), (86, iv (r36.1.length : Int)), (87, iv v96), (92, accV 5 r34.length), (93, iv (r34.length : Int)), (94, iv v153)]) (TI.dn (NX.bk (NX.sq (TS.rg ?_))))))))
   refine TI.ra 2 [5, 6, 8, 13, 14, 15, 85, 86, 87, 92, 93, 94] (S9_1 r32 r34 v96 o145 v152 o163 r36 v153) (TI.dn ?_)
   exact Rd.again (a2 := (S9_1 r32 r34 v96 o145 v152 o163 r36 v153)) (h2 := (H9_2 p1 p2 r1 r32 r34 r36)) (Wk.an [2, 3, 4, 5, 6] (.ac (.ac (.lt (.fl (.cons (Rn.acc (nl rfl) rfl) .nil)) (.ac (.ac (.ac (.ac (.nil _)))))))) [pt 2 0, accV 4 r32.length, accV 5 r34.length, iv v96, iv o145, iv (w64 (v152 + (and64 (shr64 o163 v96) 1))), accV 6 r36.1.length, iv (r36.1.length : Int), iv v96, accV 5 r34.length, iv (r34.length : Int), iv (w64 (v153 + 1))] (.pp (.cons (Rn.acc (nl rfl) rfl) (.cons (Rn.acc (nl rfl) rfl) (.fl (.fl (.fl (.cons (Rn.acc (nl rfl) rfl) (.fl (.fl (.cons (Rn.acc (nl rfl) rfl) (.fl (.fl .nil))))))))))))) (ih (w64 (v152 + (and64 (shr64 o163 v96) 1))) (w64 (v153 + 1)) _ hF)
 replace hF := of_neg hF hc161
 refine TS.ex 4 (NX.sqX ?_)
 have hF := sj hF
 subst hF
 exact Rd.out (e := .exit 4) (by intro h; cases h) (And.intro rfl (Wk.an [2, 3, 4, 5, 6] (.ac (.ac (.lt (.fl (.cons (Rn.acc (nl rfl) rfl) .nil)) (.ac (.ac (.ac (.ac (.nil _)))))))) [pt 2 0, accV 4 r32.length, accV 5 r34.length, iv v96, iv o145, iv v152, accV 6 r36.1.length, iv (r36.1.length : Int), iv v96] (.pp (.cons (Rn.acc (nl rfl) rfl) (.cons (Rn.acc (nl rfl) rfl) (.fl (.fl (.fl (.cons (Rn.acc (nl rfl) rfl) (.fl (.fl .nil)))))))))))
def P9l1 (p1 : List I2) (p2 : List Int) (r1 : Int × (List ((Int × Bool) × (Int × Bool)))) (r32 : List (Int × Bool)) (r34 : List Int) (r36 : (List Int) × Int) (r : Unit ⊕ Unit) : Post := fun e a h => (match r with | .inl q0 => e = .ret ∧ Wk Try.prog 2 2 a h (st 131 [(4, .bool false)]) (H9_12 p1 p2) | .inr q0 => e = .exit 2 ∧ Wk Try.prog 2 2 a h (st 131 []) (H9_12 p1 p2))
theorem L9l1 (p1 : List I2) (p2 : List Int) (r1 : Int × (List ((Int × Bool) × (Int × Bool)))) (r32 : List (Int × Bool)) (r34 : List Int) (r36 : (List Int) × Int) (v96 : Int) (r : Unit ⊕ Unit) (hF : F9l1 p1 p2 r1 r32 r34 r36 v96 = some r) : TL Try.prog 2 2 c9.s2.s2.s2.s2.s2.s2.s2.s2.s2.s2.s1.s2.bd.bd (st 131 [(5, pt 2 0), (6, accV 4 r32.length), (8, accV 5 r34.length), (85, accV 6 r36.1.length), (86, iv (r36.1.length : Int)), (87, iv v96)]) (H9_2 p1 p2 r1 r32 r34 r36) (P9l1 p1 p2 r1 r32 r34 r36 r) := by
 refine F9l1.partial_correctness p1 p2 r1 r32 r34 r36 (motive := fun v96 r => TL Try.prog 2 2 c9.s2.s2.s2.s2.s2.s2.s2.s2.s2.s2.s1.s2.bd.bd (st 131 [(5, pt 2 0), (6, accV 4 r32.length), (8, accV 5 r34.length), (85, accV 6 r36.1.length), (86, iv (r36.1.length : Int)), (87, iv v96)]) (H9_2 p1 p2 r1 r32 r34 r36) (P9l1 p1 p2 r1 r32 r34 r36 r)) ?_ v96 r hF
 clear hF r v96
 intro again ih v96 r hF
 refine TL.round (TS.sq (TS.rg (TI.ra 1 [5, 6, 8, 85, 86, 87, 88] (st 131 [(5, pt 2 0), (6, accV 4 r32.length), (8, accV 5 r34.length), (85, accV 6 r36.1.length), (86, iv (r36.1.length : Int)), (87, iv v96), (88, .bool (decide (v96 < (r36.1.length : Int))))]) (TI.dn (NX.sq (TS.sq ?_))))))
 refine TS.cd (.tmp 88) (decide (v96 < (r36.1.length : Int))) (fun hc143 => ?_) (fun hc143 => ?_)
 · replace hF := of_pos hF hc143
   refine TS.sk (NX.sq (TS.sq (TS.bk 3 (TS.sq ?_))))
   obtain ⟨hg144, hF⟩ := of_guard hF
   obtain ⟨o145, h146, hF⟩ := of_do hF
   replace h146 := sj h146
   refine TS.rg (TI.ra 1 [5, 6, 8, 85, 86, 87, 89] (st 131 [(5, pt 2 0), (6, accV 4 r32.length), (8, accV 5 r34.length), (85, accV 6 r36.1.length), (86, iv (r36.1.length : Int)), (87, iv v96), (89, iv v96)]) (TI.o { val := .pointer (some ⟨6, 0 + (Int.toNat v96) * 1, none⟩) } (q_ixAcc (P := Try.prog) (t := 38) (s := 1) (e := 3) 6 r36.1.length (by kernel_rfl) hg144 (by kernel_rfl) (by kernel_rfl)) [5, 6, 8, 85, 86, 87, 89, 90] [0, 1, 2, 3, 4, 5, 6] (st 131 [(5, pt 2 0), (6, accV 4 r32.length), (8, accV 5 r34.length), (85, accV 6 r36.1.length), (86, iv (r36.1.length : Int)), (87, iv v96), (89, iv v96), (90, .pointer (some ⟨6, 0 + (Int.toNat v96) * 1, none⟩))]) (H9_2 p1 p2 r1 r32 r34 r36) (TI.o { val := iv o145 } (q_n1a Try.prog (H9_2 p1 p2 r1 r32 r34 r36) 3 6 (0 + (Int.toNat v96) * 1) r36.1 e3 1 3 (Int.toNat v96) 0 0 h146) [5, 6, 8, 85, 86, 87, 89, 91] [0, 1, 2, 3, 4, 5, 6] (st 131 [(5, pt 2 0), (6, accV 4 r32.length), (8, accV 5 r34.length), (85, accV 6 r36.1.length), (86, iv (r36.1.length : Int)), (87, iv v96), (89, iv v96), (91, iv o145)]) (H9_2 p1 p2 r1 r32 r34 r36) (TI.ra 2 [5, 6, 8, 13, 14, 85, 86, 87] (st 131 [(5, pt 2 0), (6, accV 4 r32.length), (8, accV 5 r34.length), (13, iv v96), (14, iv o145), (85, accV 6 r36.1.length), (86, iv (r36.1.length : Int)), (87, iv v96)]) (TI.dn (NX.sq (TS.sq (TS.rg ?_))))))))
   refine TI.ra 1 [5, 6, 8, 13, 14, 15, 85, 86, 87] (st 131 [(5, pt 2 0), (6, accV 4 r32.length), (8, accV 5 r34.length), (13, iv v96), (14, iv o145), (15, iv 0), (85, accV 6 r36.1.length), (86, iv (r36.1.length : Int)), (87, iv v96)]) (TI.dn (NX.sq (TS.sq (TS.sq (TS.rg (TI.ra 3 [5, 6, 8, 13, 14, 15, 85, 86, 87, 92, 93, 94] (S9_4 r32 r34 v96 o145 r36) (TI.dn (NX.sq ?_))))))))
   refine TS.bk 4 ?_
   obtain ⟨r166, h167, hF⟩ := of_do hF
   refine TS.lp (TL.weak (a2 := (S9_4 r32 r34 v96 o145 r36)) (h2 := (H9_2 p1 p2 r1 r32 r34 r36)) (Wk.an [2, 3, 4, 5, 6] (.ac (.ac (.lt (.fl (.cons (Rn.acc (nl rfl) rfl) .nil)) (.ac (.ac (.ac (.ac (.nil _)))))))) [pt 2 0, accV 4 r32.length, accV 5 r34.length, iv v96, iv o145, iv 0, accV 6 r36.1.length, iv (r36.1.length : Int), iv v96, accV 5 r34.length, iv (r34.length : Int), iv 0] (.pp (.cons (Rn.acc (nl rfl) rfl) (.cons (Rn.acc (nl rfl) rfl) (.fl (.fl (.fl (.cons (Rn.acc (nl rfl) rfl) (.fl (.fl (.cons (Rn.acc (nl rfl) rfl) (.fl (.fl .nil))))))))))))) (TL.post (L9l2 p1 p2 o145 r1 r32 r34 r36 v96 0 0 r166 h167) ?_))
   rintro e a1 h1 hp
   obtain ⟨rfl, hw⟩ := hp
   refine ⟨(st 131 [(5, pt 2 0), (6, accV 4 r32.length), (8, accV 5 r34.length), (13, iv v96), (14, iv o145), (15, iv r166), (85, accV 6 r36.1.length), (86, iv (r36.1.length : Int)), (87, iv v96)]), (H9_2 p1 p2 r1 r32 r34 r36), (NX.bkX (NX.sq (TS.sq (TS.rg (TI.ra 1 [5, 6, 8, 13, 14, 15, 18, 85, 86, 87] (st 131 [(5, pt 2 0), (6, accV 4 r32.length), (8, accV 5 r34.length), (13, iv v96), (14, iv o145), (15, iv r166), (18, iv 2), (85, accV 6 r36.1.length), (86, iv (r36.1.length : Int)), (87, iv v96)]) (TI.dn (NX.sq (TS.sq ?_)))))))), hw⟩
   refine TS.sq (TS.rg (TI.ra 4 [5, 6, 8, 13, 14, 15, 18, 85, 86, 87, 108] (st 131 [(5, pt 2 0), (6, accV 4 r32.length), (8, accV 5 r34.length), (13, iv v96), (14, iv o145), (15, iv r166), (18, iv 2), (85, accV 6 r36.1.length), (86, iv (r36.1.length : Int)), (87, iv v96), (108, .bool (r166 == (r34.length : Int)))]) (TI.dn (NX.sq ?_))))
   obtain ⟨m172, hm173, hF⟩ := of_do hF
   have hK : NX Try.prog 2 2 [.sq c9.s2.s2.s2.s2.s2.s2.s2.s2.s2.s2.s1.s2.bd.bd.s2.s2.s1.bd.s2.s2.s2.s2.s2, .bk 3, .sq c9.s2.s2.s2.s2.s2.s2.s2.s2.s2.s2.s1.s2.bd.bd.s2.s2.s2] (Rd Try.prog 2 2 c9.s2.s2.s2.s2.s2.s2.s2.s2.s2.s2.s1.s2.bd.bd (P9l1 p1 p2 r1 r32 r34 r36 r)) .normal (st 131 [(5, pt 2 0), (6, accV 4 r32.length), (8, accV 5 r34.length), (13, iv v96), (14, iv o145), (18, iv m172), (85, accV 6 r36.1.length), (86, iv (r36.1.length : Int)), (87, iv v96)]) (H9_2 p1 p2 r1 r32 r34 r36) := by
    refine NX.sq (TS.sq (TS.sq (TS.rg (TI.ra 3 [5, 6, 8, 13, 18, 85, 86, 87, 113] (st 131 [(5, pt 2 0), (6, accV 4 r32.length), (8, accV 5 r34.length), (13, iv v96), (18, iv m172), (85, accV 6 r36.1.length), (86, iv (r36.1.length : Int)), (87, iv v96), (113, .bool (o145 != m172))]) (TI.dn (NX.sq ?_))))))
    refine TS.cd (.tmp 113) (o145 != m172) (fun hc174 => ?_) (fun hc174 => ?_)
    · replace hF := of_pos hF hc174
      refine TS.sq (TS.rg (TI.rn 1 [4] [0, 1] (st 131 [(4, .bool false)]) (H9_10 p1 p2) (TI.dn (NX.sq (TS.rt (NX.sqR (NX.bkR (NX.sqR ?_))))))))
      have hF := sj hF
      subst hF
      exact Rd.out (e := .ret) (by intro h; cases h) (And.intro rfl (Wk.an [] (.ac (.ac (.nil _))) [.bool false] (.fl .nil)))
    replace hF := of_neg hF hc174
    refine TS.sk (NX.sq (TS.sq ?_))
    obtain ⟨m178, hm179, hF⟩ := of_do hF
    have hK : NX Try.prog 2 2 [.sq c9.s2.s2.s2.s2.s2.s2.s2.s2.s2.s2.s1.s2.bd.bd.s2.s2.s1.bd.s2.s2.s2.s2.s2.s2.s2, .bk 3, .sq c9.s2.s2.s2.s2.s2.s2.s2.s2.s2.s2.s1.s2.bd.bd.s2.s2.s2] (Rd Try.prog 2 2 c9.s2.s2.s2.s2.s2.s2.s2.s2.s2.s2.s1.s2.bd.bd (P9l1 p1 p2 r1 r32 r34 r36 r)) .normal (st 131 [(5, pt 2 0), (6, accV 4 r32.length), (8, accV 5 r34.length), (85, accV 6 r36.1.length), (86, iv (r36.1.length : Int)), (87, iv v96), (128, .bool m178)]) (H9_2 p1 p2 r1 r32 r34 r36) := by
     refine NX.sq ?_
     cases m178 with
     | true =>
      replace hF := of_pos hF rfl
      refine TS.cdT (.tmp 128) (TS.sq (TS.rg (TI.rn 1 [4] [0, 1] (st 131 [(4, .bool false)]) (H9_10 p1 p2) (TI.dn (NX.sq (TS.rt (NX.bkR (NX.sqR ?_))))))))
      have hF := sj hF
      subst hF
      exact Rd.out (e := .ret) (by intro h; cases h) (And.intro rfl (Wk.an [] (.ac (.ac (.nil _))) [.bool false] (.fl .nil)))
     | false =>
      replace hF := of_neg hF rfl
      refine TS.cdF (.tmp 128) (TS.sk (NX.bk (NX.sq (TS.rg (TI.ra 2 [5, 6, 8, 85, 86, 87] (st 131 [(5, pt 2 0), (6, accV 4 r32.length), (8, accV 5 r34.length), (85, accV 6 r36.1.length), (86, iv (r36.1.length : Int)), (87, iv (w64 (v96 + 1)))]) (TI.dn ?_))))))
      exact Rd.again (a2 := (st 131 [(5, pt 2 0), (6, accV 4 r32.length), (8, accV 5 r34.length), (85, accV 6 r36.1.length), (86, iv (r36.1.length : Int)), (87, iv (w64 (v96 + 1)))])) (h2 := (H9_2 p1 p2 r1 r32 r34 r36)) (Wk.an [2, 3, 4, 5, 6] (.ac (.ac (.lt (.fl (.cons (Rn.acc (nl rfl) rfl) .nil)) (.ac (.ac (.ac (.ac (.nil _)))))))) [pt 2 0, accV 4 r32.length, accV 5 r34.length, accV 6 r36.1.length, iv (r36.1.length : Int), iv (w64 (v96 + 1))] (.pp (.cons (Rn.acc (nl rfl) rfl) (.cons (Rn.acc (nl rfl) rfl) (.cons (Rn.acc (nl rfl) rfl) (.fl (.fl .nil))))))) (ih (w64 (v96 + 1)) _ hF)
    rcases Bool.eq_false_or_eq_true ((r32.length : Int) == 0) with hc175 | hc175
    · replace hm179 := of_pos hm179 hc175
      have hX := of_do hm179
      clear hm179
      obtain ⟨r176, h177, hm179⟩ := hX
      have hm179 := sj hm179
      subst hm179
      exact TS.rg (TI.ra 2 [5, 6, 8, 13, 18, 85, 86, 87, 115] (S9_7 r32 r34 v96 m172 r36) (TI.o { val := .bool true } (q_conv (e := (r32.length : Int) == 0) (b := true) (by kernel_rfl) hc175) [5, 6, 8, 13, 18, 85, 86, 87, 116] [0, 1, 2, 3, 4, 5, 6] (st 131 [(5, pt 2 0), (6, accV 4 r32.length), (8, accV 5 r34.length), (13, iv v96), (18, iv m172), (85, accV 6 r36.1.length), (86, iv (r36.1.length : Int)), (87, iv v96), (116, .bool true)]) (H9_2 p1 p2 r1 r32 r34 r36) (TI.ra 6 [5, 6, 8, 18, 85, 86, 87, 117, 118, 120, 122] (st 131 [(5, pt 2 0), (6, accV 4 r32.length), (8, accV 5 r34.length), (18, iv m172), (85, accV 6 r36.1.length), (86, iv (r36.1.length : Int)), (87, iv v96), (117, .bool true), (118, ag [iv r1.1, accV 3 r1.2.length]), (120, ag [iv v96, .bool false]), (122, ag [iv v96, .bool true])]) (TI.cp 46 [ag [iv r1.1, accV 3 r1.2.length], ag [iv v96, .bool false], ag [iv v96, .bool true]] (iv r176) [] (PureSim.ren (hc := [ab 86 e86 r1.2]) (fun i => List.getD [(3, 0)] i (0, 0)) (C46 _ _ _ _ _ _ _ h177) (.ac (.nil _)) (.cons (Rn.agg' (.fl (.cons (Rn.accA (i' := 3) (nl rfl) rfl) .nil))) (.fl (.fl .nil))) (.flat (by kernel_rfl)) newflat_nil) (TI.ra 5 [5, 6, 8, 85, 86, 87, 128] (st 131 [(5, pt 2 0), (6, accV 4 r32.length), (8, accV 5 r34.length), (85, accV 6 r36.1.length), (86, iv (r36.1.length : Int)), (87, iv v96), (128, .bool (!((decide (r176 > 0)) == (m172 == 1))))]) (TI.dn hK))))))
    replace hm179 := of_neg hm179 hc175
    have hm179 := sj hm179
    subst hm179
    exact TS.rg (TI.ra 2 [5, 6, 8, 13, 18, 85, 86, 87, 115] (S9_7 r32 r34 v96 m172 r36) (TI.o { val := .bool false } (q_conv (e := (r32.length : Int) == 0) (b := false) (by kernel_rfl) hc175) [5, 6, 8, 13, 18, 85, 86, 87, 116] [0, 1, 2, 3, 4, 5, 6] (st 131 [(5, pt 2 0), (6, accV 4 r32.length), (8, accV 5 r34.length), (13, iv v96), (18, iv m172), (85, accV 6 r36.1.length), (86, iv (r36.1.length : Int)), (87, iv v96), (116, .bool false)]) (H9_2 p1 p2 r1 r32 r34 r36) (TI.ra 12 [5, 6, 8, 85, 86, 87, 128] (st 131 [(5, pt 2 0), (6, accV 4 r32.length), (8, accV 5 r34.length), (85, accV 6 r36.1.length), (86, iv (r36.1.length : Int)), (87, iv v96), (128, .bool false)]) (TI.dn hK))))
   clear hF
   have hF := hm173
   clear hm173
   refine TS.start ?_
   refine TS.cd (.tmp 108) (r166 == (r34.length : Int)) (fun hc180 => ?_) (fun hc180 => ?_)
   · replace hF := of_pos hF hc180
     refine TS.rg (TI.ra 1 [5, 6, 8, 13, 14, 18, 85, 86, 87] (st 131 [(5, pt 2 0), (6, accV 4 r32.length), (8, accV 5 r34.length), (13, iv v96), (14, iv o145), (18, iv 1), (85, accV 6 r36.1.length), (86, iv (r36.1.length : Int)), (87, iv v96)]) (TI.dn ?_))
     have hF := sj hF
     subst hF
     exact TS.weak (by exact (Wk.an [2, 3, 4, 5, 6] (.ac (.ac (.lt (.fl (.cons (Rn.acc (nl rfl) rfl) .nil)) (.ac (.ac (.ac (.ac (.nil _)))))))) [pt 2 0, accV 4 r32.length, accV 5 r34.length, iv v96, iv o145, iv 1, accV 6 r36.1.length, iv (r36.1.length : Int), iv v96] (.pp (.cons (Rn.acc (nl rfl) rfl) (.cons (Rn.acc (nl rfl) rfl) (.fl (.fl (.fl (.cons (Rn.acc (nl rfl) rfl) (.fl (.fl .nil))))))))))) hK
   replace hF := of_neg hF hc180
   refine TS.sq (TS.rg (TI.ra 2 [5, 6, 8, 13, 14, 18, 85, 86, 87, 110] (st 131 [(5, pt 2 0), (6, accV 4 r32.length), (8, accV 5 r34.length), (13, iv v96), (14, iv o145), (18, iv 2), (85, accV 6 r36.1.length), (86, iv (r36.1.length : Int)), (87, iv v96), (110, .bool (r166 == 0))]) (TI.dn (NX.sq ?_))))
   obtain ⟨m184, hm185, hF⟩ := of_do hF
   have hK : NX Try.prog 2 2 [] (NX Try.prog 2 2 [.sq c9.s2.s2.s2.s2.s2.s2.s2.s2.s2.s2.s1.s2.bd.bd.s2.s2.s1.bd.s2.s2.s2.s2.s2, .bk 3, .sq c9.s2.s2.s2.s2.s2.s2.s2.s2.s2.s2.s1.s2.bd.bd.s2.s2.s2] (Rd Try.prog 2 2 c9.s2.s2.s2.s2.s2.s2.s2.s2.s2.s2.s1.s2.bd.bd (P9l1 p1 p2 r1 r32 r34 r36 r))) .normal (st 131 [(5, pt 2 0), (6, accV 4 r32.length), (8, accV 5 r34.length), (13, iv v96), (14, iv o145), (18, iv m184), (85, accV 6 r36.1.length), (86, iv (r36.1.length : Int)), (87, iv v96)]) (H9_2 p1 p2 r1 r32 r34 r36) := by
    have hF := sj hF
    subst hF
    exact TS.weak (by exact (Wk.an [2, 3, 4, 5, 6] (.ac (.ac (.lt (.fl (.cons (Rn.acc (nl rfl) rfl) .nil)) (.ac (.ac (.ac (.ac (.nil _)))))))) [pt 2 0, accV 4 r32.length, accV 5 r34.length, iv v96, iv o145, iv m184, accV 6 r36.1.length, iv (r36.1.length : Int), iv v96] (.pp (.cons (Rn.acc (nl rfl) rfl) (.cons (Rn.acc (nl rfl) rfl) (.fl (.fl (.fl (.cons (Rn.acc (nl rfl) rfl) (.fl (.fl .nil))))))))))) hK
   clear hF
   have hF := hm185
   clear hm185
   refine TS.start ?_
   refine TS.cd (.tmp 110) (r166 == 0) (fun hc186 => ?_) (fun hc186 => ?_)
   · replace hF := of_pos hF hc186
     refine TS.rg (TI.ra 1 [5, 6, 8, 13, 14, 18, 85, 86, 87] (st 131 [(5, pt 2 0), (6, accV 4 r32.length), (8, accV 5 r34.length), (13, iv v96), (14, iv o145), (18, iv 0), (85, accV 6 r36.1.length), (86, iv (r36.1.length : Int)), (87, iv v96)]) (TI.dn ?_))
     have hF := sj hF
     subst hF
     exact TS.weak (by exact (Wk.an [2, 3, 4, 5, 6] (.ac (.ac (.lt (.fl (.cons (Rn.acc (nl rfl) rfl) .nil)) (.ac (.ac (.ac (.ac (.nil _)))))))) [pt 2 0, accV 4 r32.length, accV 5 r34.length, iv v96, iv o145, iv 0, accV 6 r36.1.length, iv (r36.1.length : Int), iv v96] (.pp (.cons (Rn.acc (nl rfl) rfl) (.cons (Rn.acc (nl rfl) rfl) (.fl (.fl (.fl (.cons (Rn.acc (nl rfl) rfl) (.fl (.fl .nil))))))))))) hK
   replace hF := of_neg hF hc186
   refine TS.sk ?_
   have hF := sj hF
   subst hF
   exact TS.weak (by exact (Wk.an [2, 3, 4, 5, 6] (.ac (.ac (.lt (.fl (.cons (Rn.acc (nl rfl) rfl) .nil)) (.ac (.ac (.ac (.ac (.nil _)))))))) [pt 2 0, accV 4 r32.length, accV 5 r34.length, iv v96, iv o145, iv 2, accV 6 r36.1.length, iv (r36.1.length : Int), iv v96] (.pp (.cons (Rn.acc (nl rfl) rfl) (.cons (Rn.acc (nl rfl) rfl) (.fl (.fl (.fl (.cons (Rn.acc (nl rfl) rfl) (.fl (.fl .nil))))))))))) hK
 replace hF := of_neg hF hc143
 refine TS.ex 2 (NX.sqX ?_)
 have hF := sj hF
 subst hF
 exact Rd.out (e := .exit 2) (by intro h; cases h) (And.intro rfl (Wk.an [] (.ac (.ac (.nil _))) [] .nil))
theorem B9 (p0 : Int) (p1 : List I2) (p2 : List Int) (r : Bool) (hF : F9 p0 p1 p2 = some r) : TS Try.prog 2 2 c9 (st 131 [(0, ag [.int .u8 p0, sv 0 p1.length ANY]), (1, sv 1 p2.length ANY)]) (H9_12 p1 p2) (NX Try.prog 2 2 [] (FinP Try.prog Try.f9 2 (V9 2 r) (N9 2 r))) := by
 unfold F9 at hF
 refine TS.sq (TS.rg (TI.rn 2 [1, 2] [0, 1, 2] (st 131 [(1, sv 1 p2.length ANY), (2, pt 2 0)]) [ab 84 e84 p1, ab 5 e5 p2, cl 71 [.int .u8 p0, sv 0 p1.length ANY]] (TI.dn (NX.sq (TS.sq ?_)))))
 obtain ⟨r1, h2, hF⟩ := of_do hF
 refine TS.rg (TI.rn 1 [1, 19] [0, 1] (st 131 [(1, sv 1 p2.length ANY), (19, ag [.int .u8 p0, sv 0 p1.length ANY])]) [ab 84 e84 p1, ab 5 e5 p2, .dead] (TI.cp 40 [ag [.int .u8 p0, sv 0 p1.length ANY]] (ag [iv r1.1, accV 3 r1.2.length]) [ab 86 e86 r1.2] (PureSim.ren (hc := [ab 84 e84 p1]) (fun i => List.getD [(0, 0)] i (0, 0)) (C40 _ _ _ h2) (.ac (.nil _)) (.cons (Rn.agg' (.fl (.cons (Rn.any _ _ _ _ _ _ (nl rfl) rfl rfl (by decide)) .nil))) .nil) (Rn.agg' (.fl (.cons (Rn.acc (i' := 3) (nl rfl) rfl) .nil))) (newflat_cons (accB_flat (fun _ => rfl)) newflat_nil)) (TI.rn 2 [1, 5] [0, 1, 3, 4] (st 131 [(1, sv 1 p2.length ANY), (5, pt 4 0)]) [ab 84 e84 p1, ab 5 e5 p2, .dead, ab 86 e86 r1.2, cl 24 [iv r1.1, accV 3 r1.2.length]] (TI.dn (NX.sq (TS.sq (TS.rg (TI.ra 1 [1, 5, 6] (st 131 [(1, sv 1 p2.length ANY), (5, pt 4 0), (6, .slice none 0 0)]) ?_))))))))
 refine TI.dn (NX.sq (TS.sq (TS.sq (TS.rg (TI.ra 1 [1, 5, 6, 7] (st 131 [(1, sv 1 p2.length ANY), (5, pt 4 0), (6, .slice none 0 0), (7, iv 0)]) (TI.dn (NX.sq (TS.bk 0 ?_))))))))
 obtain ⟨r32, h33, hF⟩ := of_do hF
 refine TS.lp (TL.weak (a2 := (st 131 [(1, sv 1 p2.length ANY), (5, pt 2 0), (6, accV 4 (List.length ([]))), (7, iv 0)])) (h2 := [ab 84 e84 p1, ab 5 e5 p2, cl 24 [iv r1.1, accV 3 r1.2.length], ab 86 e86 r1.2, accB 50 (List.length ([])) (List.flatMap e50 ([]))]) (Wk.an [4, 3, 5] (.ac (.ac (.lt (.fl (.cons (Rn.acc (nl rfl) rfl) .nil)) (.ac (.cons At.accN (.nil _)))))) [sv 1 p2.length ANY, pt 4 0, .slice none 0 0, iv 0] (.sl (.pp (.cons (Rn.accN) (.fl .nil))))) (TL.post (L9l0 p1 p2 r1 ([]) 0 r32 h33) ?_))
 rintro e a1 h1 hp
 obtain ⟨rfl, hw⟩ := hp
 refine ⟨(st 131 [(5, pt 2 0), (6, accV 4 r32.length)]), [ab 84 e84 p1, ab 5 e5 p2, cl 24 [iv r1.1, accV 3 r1.2.length], ab 86 e86 r1.2, ab 50 e50 r32], (NX.bkX (NX.sq (TS.sq ?_))), hw⟩
 obtain ⟨r34, h35, hF⟩ := of_do hF
 refine TS.rg (TI.ra 2 [5, 6, 40, 41] (st 131 [(5, pt 2 0), (6, accV 4 r32.length), (40, ag [iv r1.1, accV 3 r1.2.length]), (41, accV 4 r32.length)]) (TI.cp 41 [ag [iv r1.1, accV 3 r1.2.length], accV 4 r32.length] (accV 5 r34.length) [ab 3 e3 r34] (PureSim.ren (hc := (H9_11 r1 r32)) (fun i => List.getD [(3, 0), (4, 0)] i (0, 0)) (C41 _ _ _ _ h35) (.ac (.ac (.nil _))) (.cons (Rn.agg' (.fl (.cons (Rn.accA (i' := 3) (nl rfl) rfl) .nil))) (.cons (Rn.accA (i' := 4) (nl rfl) rfl) .nil)) (Rn.acc (i' := 5) (nl rfl) rfl) (newflat_cons (accB_flat (fun _ => rfl)) newflat_nil)) (TI.rn 1 [5, 6, 8] [0, 1, 2, 3, 4, 5] (st 131 [(5, pt 2 0), (6, accV 4 r32.length), (8, accV 5 r34.length)]) [ab 84 e84 p1, ab 5 e5 p2, cl 24 [iv r1.1, accV 3 r1.2.length], ab 86 e86 r1.2, ab 50 e50 r32, ab 3 e3 r34] (TI.dn (NX.sq (TS.sq ?_))))))
 obtain ⟨r36, h37, hF⟩ := of_do hF
 refine TS.rg (TI.ra 2 [5, 6, 8, 44, 45] (st 131 [(5, pt 2 0), (6, accV 4 r32.length), (8, accV 5 r34.length), (44, ag [iv r1.1, accV 3 r1.2.length]), (45, accV 4 r32.length)]) (TI.cp 20 [ag [iv r1.1, accV 3 r1.2.length], accV 4 r32.length] (.tuple ⟨[accV 6 r36.1.length, iv r36.2]⟩) [ab 3 e3 r36.1] (PureSim.ren (hc := (H9_11 r1 r32)) (fun i => List.getD [(3, 0), (4, 0)] i (0, 0)) (C20 _ _ _ _ h37) (.ac (.ac (.nil _))) (.cons (Rn.agg' (.fl (.cons (Rn.accA (i' := 3) (nl rfl) rfl) .nil))) (.cons (Rn.accA (i' := 4) (nl rfl) rfl) .nil)) (Rn.tuple' (.cons (Rn.acc (i' := 6) (nl rfl) rfl) (.fl .nil))) (newflat_cons (accB_flat (fun _ => rfl)) newflat_nil)) (TI.rn 5 [5, 6, 8, 9, 10] [0, 1, 2, 3, 4, 5, 6] (st 131 [(5, pt 2 0), (6, accV 4 r32.length), (8, accV 5 r34.length), (9, accV 6 r36.1.length), (10, iv r36.2)]) (H9_2 p1 p2 r1 r32 r34 r36) (TI.dn (NX.sq (TS.sq ?_))))))
 obtain ⟨r38, h39, hF⟩ := of_do hF
 refine TS.rg (TI.ra 2 [5, 6, 8, 9, 10, 50, 51] (st 131 [(5, pt 2 0), (6, accV 4 r32.length), (8, accV 5 r34.length), (9, accV 6 r36.1.length), (10, iv r36.2), (50, ag [iv r1.1, accV 3 r1.2.length]), (51, accV 4 r32.length)]) (TI.cp 38 [ag [iv r1.1, accV 3 r1.2.length], accV 4 r32.length] (.tuple ⟨[iv r38.1, iv r38.2]⟩) [] (PureSim.ren (hc := (H9_11 r1 r32)) (fun i => List.getD [(3, 0), (4, 0)] i (0, 0)) (C38 _ _ _ _ h39) (.ac (.ac (.nil _))) (.cons (Rn.agg' (.fl (.cons (Rn.accA (i' := 3) (nl rfl) rfl) .nil))) (.cons (Rn.accA (i' := 4) (nl rfl) rfl) .nil)) (.flat (by kernel_rfl)) newflat_nil) (TI.ra 5 [5, 6, 8, 9, 10, 11, 12] (st 131 [(5, pt 2 0), (6, accV 4 r32.length), (8, accV 5 r34.length), (9, accV 6 r36.1.length), (10, iv r36.2), (11, iv r38.1), (12, iv r38.2)]) (TI.dn (NX.sq (TS.sq (TS.sq ?_)))))))
 obtain ⟨m41, hm194, hF⟩ := of_do hF
 have hK : NX Try.prog 2 2 [.sq c9.s2.s2.s2.s2.s2.s2.s2.s1.s2, .sq c9.s2.s2.s2.s2.s2.s2.s2.s2] (FinP Try.prog Try.f9 2 (V9 2 r) (N9 2 r)) .normal (st 131 [(5, pt 2 0), (6, accV 4 r32.length), (8, accV 5 r34.length), (9, accV 6 r36.1.length), (10, iv r36.2), (62, .bool m41)]) (H9_2 p1 p2 r1 r32 r34 r36) := by
  refine NX.sq ?_
  cases m41 with
  | true =>
   replace hF := of_pos hF rfl
   refine TS.cdT (.tmp 62) (TS.sq (TS.rg (TI.rn 1 [4] [0, 1] (st 131 [(4, .bool false)]) (H9_10 p1 p2) (TI.dn (NX.sq (TS.rt (NX.sqR ?_)))))))
   have hF := sj hF
   subst hF
   exact ⟨.inr rfl, rfl, .bool false, by kernel_rfl, WkV.flat0 (by kernel_rfl) (nl rfl)⟩
  | false =>
   replace hF := of_neg hF rfl
   refine TS.cdF (.tmp 62) (TS.sk (NX.sq (TS.sq (TS.sq (TS.rg (TI.ra 3 [5, 6, 8, 9, 10, 65] (st 131 [(5, pt 2 0), (6, accV 4 r32.length), (8, accV 5 r34.length), (9, accV 6 r36.1.length), (10, iv r36.2), (65, .bool ((r34.length : Int) == 0))]) (TI.dn (NX.sq ?_))))))))
   refine TS.cd (.tmp 65) ((r34.length : Int) == 0) (fun hc42 => ?_) (fun hc42 => ?_)
   · replace hF := of_pos hF hc42
     refine TS.sq ?_
     obtain ⟨m47, hm48, hF⟩ := of_do hF
     have hK : NX Try.prog 2 2 [.sq c9.s2.s2.s2.s2.s2.s2.s2.s2.s1.s2.th.s2, .sq c9.s2.s2.s2.s2.s2.s2.s2.s2.s2] (FinP Try.prog Try.f9 2 (V9 2 r) (N9 2 r)) .normal (st 131 [(4, .bool m47)]) (H9_10 p1 p2) := by
      refine NX.sq (TS.rt (NX.sqR ?_))
      have hF := sj hF
      subst hF
      exact ⟨.inr rfl, rfl, .bool m47, by kernel_rfl, WkV.flat0 (by kernel_rfl) (nl rfl)⟩
     rcases Bool.eq_false_or_eq_true (r36.2 == 13) with hc43 | hc43
     · replace hm48 := of_pos hm48 hc43
       rcases Bool.eq_false_or_eq_true ((r36.1.length : Int) == 0) with hc44 | hc44
       · replace hm48 := of_pos hm48 hc44
         have hX := of_do hm48
         clear hm48
         obtain ⟨r45, h46, hm48⟩ := hX
         have hm48 := sj hm48
         subst hm48
         refine TS.rg (TI.rn 1 [9, 66] [0, 1, 6] (st 131 [(9, accV 6 r36.1.length), (66, iv r36.2)]) (H9_8 p1 p2 r36) (TI.o { val := .bool true } (q_conv (e := r36.2 == 13) (b := true) (by kernel_rfl) hc43) [9, 67] [0, 1, 6] (st 131 [(9, accV 6 r36.1.length), (67, .bool true)]) (H9_8 p1 p2 r36) (TI.rn 3 [68, 70] [0, 1] (st 131 [(68, .bool true), (70, iv (r36.1.length : Int))]) (H9_10 p1 p2) (TI.o { val := .bool true } (q_conv (e := (r36.1.length : Int) == 0) (b := true) (by kernel_rfl) hc44) [68, 71] [0, 1] (st 131 [(68, .bool true), (71, .bool true)]) (H9_10 p1 p2) (TI.ra 2 [73] (st 131 [(73, .bool true)]) (TI.cf (C15 _ h46) (TI.ra 2 [4] (st 131 [(4, .bool r45)]) (TI.dn ?_))))))))
         exact hK
       replace hm48 := of_neg hm48 hc44
       have hm48 := sj hm48
       subst hm48
       exact TS.rg (TI.rn 1 [9, 66] [0, 1, 6] (st 131 [(9, accV 6 r36.1.length), (66, iv r36.2)]) (H9_8 p1 p2 r36) (TI.o { val := .bool true } (q_conv (e := r36.2 == 13) (b := true) (by kernel_rfl) hc43) [9, 67] [0, 1, 6] (st 131 [(9, accV 6 r36.1.length), (67, .bool true)]) (H9_8 p1 p2 r36) (TI.rn 3 [68, 70] [0, 1] (st 131 [(68, .bool true), (70, iv (r36.1.length : Int))]) (H9_10 p1 p2) (TI.o { val := .bool false } (q_conv (e := (r36.1.length : Int) == 0) (b := false) (by kernel_rfl) hc44) [68, 71] [0, 1] (st 131 [(68, .bool true), (71, .bool false)]) (H9_10 p1 p2) (TI.ra 5 [4] (st 131 [(4, .bool false)]) (TI.dn hK))))))
     replace hm48 := of_neg hm48 hc43
     have hm48 := sj hm48
     subst hm48
     exact TS.rg (TI.rn 1 [9, 66] [0, 1, 6] (st 131 [(9, accV 6 r36.1.length), (66, iv r36.2)]) (H9_8 p1 p2 r36) (TI.o { val := .bool false } (q_conv (e := r36.2 == 13) (b := false) (by kernel_rfl) hc43) [9, 67] [0, 1, 6] (st 131 [(9, accV 6 r36.1.length), (67, .bool false)]) (H9_8 p1 p2 r36) (TI.rn 9 [4] [0, 1] (st 131 [(4, .bool false)]) (H9_10 p1 p2) (TI.dn hK))))
   replace hF := of_neg hF hc42
   refine TS.sk (NX.sq (TS.sq (TS.sq ?_)))
   obtain ⟨m50, hm193, hF⟩ := of_do hF
   have hK : NX Try.prog 2 2 [.sq c9.s2.s2.s2.s2.s2.s2.s2.s2.s2.s1.s2, .sq c9.s2.s2.s2.s2.s2.s2.s2.s2.s2.s2] (FinP Try.prog Try.f9 2 (V9 2 r) (N9 2 r)) .normal (st 131 [(5, pt 2 0), (6, accV 4 r32.length), (8, accV 5 r34.length), (9, accV 6 r36.1.length), (84, .bool m50)]) (H9_2 p1 p2 r1 r32 r34 r36) := by
    refine NX.sq ?_
    cases m50 with
    | true =>
     replace hF := of_pos hF rfl
     refine TS.cdT (.tmp 84) (TS.sq (TS.rg (TI.rn 1 [4] [0, 1] (st 131 [(4, .bool false)]) (H9_10 p1 p2) (TI.dn (NX.sq (TS.rt (NX.sqR ?_)))))))
     have hF := sj hF
     subst hF
     exact ⟨.inr rfl, rfl, .bool false, by kernel_rfl, WkV.flat0 (by kernel_rfl) (nl rfl)⟩
    | false =>
     replace hF := of_neg hF rfl
     refine TS.cdF (.tmp 84) (TS.sk (NX.sq (TS.sq (TS.sq (TS.rg (TI.ra 3 [5, 6, 8, 85, 86, 87] (st 131 [(5, pt 2 0), (6, accV 4 r32.length), (8, accV 5 r34.length), (85, accV 6 r36.1.length), (86, iv (r36.1.length : Int)), (87, iv 0)]) (TI.dn (NX.sq ?_))))))))
     refine TS.bk 2 ?_
     obtain ⟨r187, h188, hF⟩ := of_do hF
     refine TS.lp (TL.weak (a2 := (st 131 [(5, pt 2 0), (6, accV 4 r32.length), (8, accV 5 r34.length), (85, accV 6 r36.1.length), (86, iv (r36.1.length : Int)), (87, iv 0)])) (h2 := (H9_2 p1 p2 r1 r32 r34 r36)) (Wk.an [2, 3, 4, 5, 6] (.ac (.ac (.lt (.fl (.cons (Rn.acc (nl rfl) rfl) .nil)) (.ac (.ac (.ac (.ac (.nil _)))))))) [pt 2 0, accV 4 r32.length, accV 5 r34.length, accV 6 r36.1.length, iv (r36.1.length : Int), iv 0] (.pp (.cons (Rn.acc (nl rfl) rfl) (.cons (Rn.acc (nl rfl) rfl) (.cons (Rn.acc (nl rfl) rfl) (.fl (.fl .nil))))))) (TL.post (L9l1 p1 p2 r1 r32 r34 r36 0 r187 h188) ?_))
     rintro e a1 h1 hp
     rcases r187 with o189 | o190
     · skip
       obtain ⟨rfl, hw⟩ := hp
       refine ⟨(st 131 [(4, .bool false)]), (H9_12 p1 p2), (NX.bkR (NX.sqR ?_)), hw⟩
       have hF := sj hF
       subst hF
       exact ⟨.inr rfl, rfl, .bool false, by kernel_rfl, WkV.flat0 (by kernel_rfl) (nl rfl)⟩
     skip
     obtain ⟨rfl, hw⟩ := hp
     refine ⟨(st 131 []), (H9_12 p1 p2), (NX.bkX (NX.sq (TS.sq ?_))), hw⟩
     obtain ⟨r191, h192, hF⟩ := of_do hF
     refine TS.rg (TI.cf (C15 _ h192) (TI.ra 1 [4] (st 131 [(4, .bool r191)]) (TI.dn (NX.sq (TS.rt ?_)))))
     have hF := sj hF
     subst hF
     exact ⟨.inr rfl, rfl, .bool r191, by kernel_rfl, WkV.flat0 (by kernel_rfl) (nl rfl)⟩
   rcases Bool.eq_false_or_eq_true (r36.2 != 0) with hc49 | hc49
   · replace hm193 := of_pos hm193 hc49
     have hm193 := sj hm193
     subst hm193
     exact TS.rg (TI.ra 1 [5, 6, 8, 9, 76] (st 131 [(5, pt 2 0), (6, accV 4 r32.length), (8, accV 5 r34.length), (9, accV 6 r36.1.length), (76, iv r36.2)]) (TI.o { val := .bool true } (q_conv (e := r36.2 != 0) (b := true) (by kernel_rfl) hc49) [5, 6, 8, 9, 77] [0, 1, 2, 3, 4, 5, 6] (st 131 [(5, pt 2 0), (6, accV 4 r32.length), (8, accV 5 r34.length), (9, accV 6 r36.1.length), (77, .bool true)]) (H9_2 p1 p2 r1 r32 r34 r36) (TI.ra 7 [5, 6, 8, 9, 84] (st 131 [(5, pt 2 0), (6, accV 4 r32.length), (8, accV 5 r34.length), (9, accV 6 r36.1.length), (84, .bool true)]) (TI.dn hK))))
   replace hm193 := of_neg hm193 hc49
   have hm193 := sj hm193
   subst hm193
   exact TS.rg (TI.ra 1 [5, 6, 8, 9, 76] (st 131 [(5, pt 2 0), (6, accV 4 r32.length), (8, accV 5 r34.length), (9, accV 6 r36.1.length), (76, iv r36.2)]) (TI.o { val := .bool false } (q_conv (e := r36.2 != 0) (b := false) (by kernel_rfl) hc49) [5, 6, 8, 9, 77] [0, 1, 2, 3, 4, 5, 6] (st 131 [(5, pt 2 0), (6, accV 4 r32.length), (8, accV 5 r34.length), (9, accV 6 r36.1.length), (77, .bool false)]) (H9_2 p1 p2 r1 r32 r34 r36) (TI.ra 7 [5, 6, 8, 9, 84] (st 131 [(5, pt 2 0), (6, accV 4 r32.length), (8, accV 5 r34.length), (9, accV 6 r36.1.length), (84, .bool ((r36.1.length : Int) != r1.1))]) (TI.dn hK))))
 rcases Bool.eq_false_or_eq_true (r38.2 != 0) with hc40 | hc40
 · replace hm194 := of_pos hm194 hc40
   have hm194 := sj hm194
   subst hm194
   exact TS.rg (TI.ra 1 [5, 6, 8, 9, 10, 11, 55] (st 131 [(5, pt 2 0), (6, accV 4 r32.length), (8, accV 5 r34.length), (9, accV 6 r36.1.length), (10, iv r36.2), (11, iv r38.1), (55, iv r38.2)]) (TI.o { val := .bool true } (q_conv (e := r38.2 != 0) (b := true) (by kernel_rfl) hc40) [5, 6, 8, 9, 10, 11, 56] [0, 1, 2, 3, 4, 5, 6] (st 131 [(5, pt 2 0), (6, accV 4 r32.length), (8, accV 5 r34.length), (9, accV 6 r36.1.length), (10, iv r36.2), (11, iv r38.1), (56, .bool true)]) (H9_2 p1 p2 r1 r32 r34 r36) (TI.ra 6 [5, 6, 8, 9, 10, 62] (st 131 [(5, pt 2 0), (6, accV 4 r32.length), (8, accV 5 r34.length), (9, accV 6 r36.1.length), (10, iv r36.2), (62, .bool true)]) (TI.dn hK))))
 replace hm194 := of_neg hm194 hc40
 have hm194 := sj hm194
 subst hm194
 exact TS.rg (TI.ra 1 [5, 6, 8, 9, 10, 11, 55] (st 131 [(5, pt 2 0), (6, accV 4 r32.length), (8, accV 5 r34.length), (9, accV 6 r36.1.length), (10, iv r36.2), (11, iv r38.1), (55, iv r38.2)]) (TI.o { val := .bool false } (q_conv (e := r38.2 != 0) (b := false) (by kernel_rfl) hc40) [5, 6, 8, 9, 10, 11, 56] [0, 1, 2, 3, 4, 5, 6] (st 131 [(5, pt 2 0), (6, accV 4 r32.length), (8, accV 5 r34.length), (9, accV 6 r36.1.length), (10, iv r36.2), (11, iv r38.1), (56, .bool false)]) (H9_2 p1 p2 r1 r32 r34 r36) (TI.ra 6 [5, 6, 8, 9, 10, 62] (st 131 [(5, pt 2 0), (6, accV 4 r32.length), (8, accV 5 r34.length), (9, accV 6 r36.1.length), (10, iv r36.2), (62, .bool (r38.1 != (r34.length : Int)))]) (TI.dn hK))))
theorem C9 (p0 : Int) (p1 : List I2) (p2 : List Int) (r : Bool) (hF : F9 p0 p1 p2 = some r) : PureSim Try.prog 9 [ag [.int .u8 p0, sv 0 p1.length ANY], sv 1 p2.length ANY] (H9_12 p1 p2) (V9 2 r) (N9 2 r) :=
 PureSim.of_Fin Try.func9 (c := c9) (by kernel_rfl) (by kernel_rfl) 2 rfl [0, 1] [0, 1] (by kernel_rfl) (B9 p0 p1 p2 r hF)
end
end Go.Proofs.Ytiaippkjgmccoaa
