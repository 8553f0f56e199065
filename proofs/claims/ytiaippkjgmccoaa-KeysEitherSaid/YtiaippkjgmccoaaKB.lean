/- What functions of the program compute, and that they do. -/
import Derived.Test.YtiaippkjgmccoaaKA
set_option linter.unusedVariables false
set_option linter.unusedSimpArgs false
set_option maxRecDepth 100000
set_option maxHeartbeats 4000000
namespace Go.Proofs.Ytiaippkjgmccoaa
open Go Go.Cl
noncomputable section
def e3 (x : Int) : List Value := [.int .i64 x]
def F65 (p0 : Int) (p1 : (List ((Int × Bool) × (Int × Bool)))) (p2 : Int) (p3 : Bool) : Option Bool :=
 (
  if decide (p2 ≥ 0) then
   some (decide (p2 < p0))
  else
   some (false)
 : Option Bool) >>= fun m2 =>
 some m2
def F27l0 (p0 : Int) (p1 : (List ((Int × Bool) × (Int × Bool)))) (v15 : Int) : Option (Unit ⊕ Unit) :=
 if decide (v15 < (p1.length : Int)) then
  if (0 : Int) ≤ v15 ∧ v15 < (p1.length : Int) then
   some (List.getD p1 (Int.toNat v15) ((0, false), (0, false))) >>= fun o30 =>
   F65 p0 p1 o30.1.1 o30.1.2 >>= fun r32 =>
   (
    if !r32 then
     some (true)
    else
     F65 p0 p1 o30.2.1 o30.2.2 >>= fun r35 =>
     some (!r35)
   : Option Bool) >>= fun m37 =>
   if m37 then
    some (.inl ())
   else
    F27l0 p0 p1 (w64 (v15 + 1))
  else none
 else
  some (.inr ())
 partial_fixpoint
def F27 (p0 : Int) (p1 : (List ((Int × Bool) × (Int × Bool)))) : Option Int :=
 (
  if decide (p0 < 1) then
   some (true)
  else
   some (decide (p0 > 24))
 : Option Bool) >>= fun m2 =>
 if m2 then
  some 1
 else
  if decide ((p1.length : Int) > 80) then
   some 3
  else
   F27l0 p0 p1 0 >>= fun r39 =>
   match r39 with
   | .inl o41 =>
    some 6
   | .inr o42 =>
    some 0
noncomputable def c62 : Code := Try.f62.code
def H62_0 (p2 : (List Bool)) (p0 : Int) (p1 : Bool) : List Blk := [ab 4 e4 p2, cl 50 [iv p0, .bool p1]]
def F62 (p0 : Int) (p1 : Bool) (p2 : (List Bool)) : Option Bool :=
 if (0 : Int) ≤ p0 ∧ p0 < (p2.length : Int) then
  some (List.getD p2 (Int.toNat p0) false) >>= fun o2 =>
  some (o2 == p1)
 else none
def V62 (b : Nat) (r : Bool) : Value := .bool r
def N62 (b : Nat) (r : Bool) : List Blk := []
theorem B62 (p0 : Int) (p1 : Bool) (p2 : (List Bool)) (r : Bool) (hF : F62 p0 p1 p2 = some r) : TS Try.prog 1 1 c62 (st 13 [(0, ag [iv p0, .bool p1]), (1, sv 0 p2.length ANY)]) [ab 4 e4 p2] (NX Try.prog 1 1 [] (FinP Try.prog Try.f62 1 (V62 1 r) (N62 1 r))) := by
 unfold F62 at hF
 refine TS.sq (TS.rg (TI.rn 2 [1, 2] [0, 1] (st 13 [(1, sv 0 p2.length ANY), (2, pt 1 0)]) (H62_0 p2 p0 p1) (TI.dn (NX.sq (TS.sq ?_)))))
 have hX := of_guard hF
 clear hF
 obtain ⟨hg1, hF⟩ := hX
 have hX := of_do hF
 clear hF
 obtain ⟨o2, h3, hF⟩ := hX
 replace h3 := Option.some.inj h3
 refine TS.dp [] (fun e he => by cases he) mixed 7 [4] [0] (st 13 [(4, .bool (o2 == p1))]) [ab 4 e4 p2, .dead] ?_ ?_
 · exact QJ.rn (qs (st 13 [(1, sv 0 p2.length ANY), (2, pt 1 0), (5, sv 0 p2.length ANY), (6, pt 1 0), (7, iv p0)]) (H62_0 p2 p0 p1) [] []) 3 (QJ.o { val := .pointer (some ⟨0, 0 + (Int.toNat p0) * 1, none⟩) } (q_ixS 0 0 ((Int.toNat p0) * 1) (by kernel_rfl) hg1) (QJ.o { val := .bool o2 } (q_n1a Try.prog (H62_0 p2 p0 p1) 4 0 (0 + (Int.toNat p0) * 1) p2 e4 1 4 (Int.toNat p0) 0 false h3) (QJ.rn (qs (st 13 [(1, sv 0 p2.length ANY), (2, pt 1 0), (5, sv 0 p2.length ANY), (6, pt 1 0), (7, iv p0), (8, .pointer (some ⟨0, 0 + (Int.toNat p0) * 1, none⟩)), (9, .bool o2), (10, pt 1 1), (11, .bool p1)]) (H62_0 p2 p0 p1) [] []) 2 (QJ.dn ⟨rfl, SJ.la⟩))))
 refine TS.rt ?_
 have hF := Option.some.inj hF
 subst hF
 exact ⟨.inr rfl, rfl, .bool (o2 == p1), by kernel_rfl, WkV.flat0 (by kernel_rfl) (Nat.le_of_ble_eq_true rfl)⟩
theorem C62 (p0 : Int) (p1 : Bool) (p2 : (List Bool)) (r : Bool) (hF : F62 p0 p1 p2 = some r) : PureSim Try.prog 62 [ag [iv p0, .bool p1], sv 0 p2.length ANY] [ab 4 e4 p2] (V62 1 r) (N62 1 r) :=
 PureSim.of_Fin Try.func62 (c := c62) (by kernel_rfl) (by kernel_rfl) 1 rfl [0, 1] [0] (by kernel_rfl) (B62 p0 p1 p2 r hF)
noncomputable def c22 : Code := Try.f22.code
def S22_0 (p2 : (List Bool)) (v17 : (List Int)) (v16 : Int) (p1 : (List ((Int × Bool) × (Int × Bool)))) (o34 : ((Int × Bool) × (Int × Bool))) : CAct := (st 48 [(1, sv 1 p2.length ANY), (7, accV 2 v17.length), (8, iv v16), (9, pt 3 0), (23, sv 0 p1.length ANY), (24, iv (p1.length : Int)), (25, iv v16), (31, ag [iv o34.1.1, .bool o34.1.2]), (32, sv 1 p2.length ANY)])
def S22_1 (p2 : (List Bool)) (v17 : (List Int)) (v16 : Int) (p1 : (List ((Int × Bool) × (Int × Bool)))) (r36 : Bool) : CAct := (st 48 [(1, sv 1 p2.length ANY), (7, accV 2 v17.length), (8, iv v16), (9, pt 3 0), (23, sv 0 p1.length ANY), (24, iv (p1.length : Int)), (25, iv v16), (33, .bool r36)])
def S22_2 (p2 : (List Bool)) (m44 : (List Int)) (p1 : (List ((Int × Bool) × (Int × Bool)))) (v16 : Int) : CAct := (st 48 [(1, sv 1 p2.length ANY), (7, accV 2 m44.length), (23, sv 0 p1.length ANY), (24, iv (p1.length : Int)), (25, iv (w64 (v16 + 1)))])
def H22_3 (p1 : (List ((Int × Bool) × (Int × Bool)))) (p2 : (List Bool)) (v17 : (List Int)) (o34 : ((Int × Bool) × (Int × Bool))) : List Blk := [ab 86 e86 p1, ab 4 e4 p2, ab 3 e3 v17, cl 86 [iv o34.1.1, .bool o34.1.2, iv o34.2.1, .bool o34.2.2]]
def H22_4 (p1 : (List ((Int × Bool) × (Int × Bool)))) (p2 : (List Bool)) (v17 : (List Int)) : List Blk := [ab 86 e86 p1, ab 4 e4 p2, ab 3 e3 v17, .dead]
def H22_5 (p1 : (List ((Int × Bool) × (Int × Bool)))) (p2 : (List Bool)) (v17 : (List Int)) : List Blk := [ab 86 e86 p1, ab 4 e4 p2, ab 3 e3 v17]
def H22_6 (p1 : (List ((Int × Bool) × (Int × Bool)))) (p2 : (List Bool)) : List Blk := [ab 86 e86 p1, ab 4 e4 p2, .dead]
def F22l0 (p1 : (List ((Int × Bool) × (Int × Bool)))) (p2 : (List Bool)) (v17 : (List Int)) (v16 : Int) : Option (List Int) :=
 if decide (v16 < (p1.length : Int)) then
  if (0 : Int) ≤ v16 ∧ v16 < (p1.length : Int) then
   some (List.getD p1 (Int.toNat v16) ((0, false), (0, false))) >>= fun o34 =>
   F62 o34.1.1 o34.1.2 p2 >>= fun r36 =>
   (
    if !r36 then
     F62 o34.2.1 o34.2.2 p2 >>= fun r39 =>
     some (!r39)
    else
     some (false)
   : Option Bool) >>= fun m41 =>
   (
    if m41 then
     if List.length v17 ≤ 1000000000 then
      some (v17 ++ [v16])
     else none
    else
     some v17
   : Option (List Int)) >>= fun m44 =>
   F22l0 p1 p2 m44 (w64 (v16 + 1))
  else none
 else
  some v17
 partial_fixpoint
def F22 (p0 : Int) (p1 : (List ((Int × Bool) × (Int × Bool)))) (p2 : (List Bool)) : Option ((List Int) × Int) :=
 F26 p0 p1 >>= fun r1 =>
 if r1 != 0 then
  some ([], r1)
 else
  if (p2.length : Int) != p0 then
   some ([], 4)
  else
   F22l0 p1 p2 ([]) 0 >>= fun r48 =>
   some (r48, 0)
def V22 (b : Nat) (r : ((List Int) × Int)) : Value := .tuple ⟨[accV (b + 0) r.1.length, iv r.2]⟩
def N22 (b : Nat) (r : ((List Int) × Int)) : List Blk := [ab 3 e3 r.1]
def P22l0 (p1 : (List ((Int × Bool) × (Int × Bool)))) (p2 : (List Bool)) (r : (List Int)) : Post := fun e a h => e = .exit 1 ∧ Wk Try.prog 2 2 a h (st 48 [(7, accV 2 r.length)]) [ab 86 e86 p1, ab 4 e4 p2, ab 3 e3 r]
theorem L22l0 (p1 : (List ((Int × Bool) × (Int × Bool)))) (p2 : (List Bool)) (v17 : (List Int)) (v16 : Int) (r : (List Int)) (hF : F22l0 p1 p2 v17 v16 = some r) : TL Try.prog 2 2 c22.s2.s2.s2.s2.s1.s2.bd.bd (st 48 [(1, sv 1 p2.length ANY), (7, accV 2 v17.length), (23, sv 0 p1.length ANY), (24, iv (p1.length : Int)), (25, iv v16)]) (H22_5 p1 p2 v17) (P22l0 p1 p2 r) := by
 refine F22l0.partial_correctness p1 p2 (motive := fun v17 v16 r => TL Try.prog 2 2 c22.s2.s2.s2.s2.s1.s2.bd.bd (st 48 [(1, sv 1 p2.length ANY), (7, accV 2 v17.length), (23, sv 0 p1.length ANY), (24, iv (p1.length : Int)), (25, iv v16)]) (H22_5 p1 p2 v17) (P22l0 p1 p2 r)) ?_ v17 v16 r hF
 clear hF r v17 v16
 intro again ih v17 v16 r hF
 refine TL.round (TS.sq (TS.rg (TI.ra 1 [1, 7, 23, 24, 25, 26] (st 48 [(1, sv 1 p2.length ANY), (7, accV 2 v17.length), (23, sv 0 p1.length ANY), (24, iv (p1.length : Int)), (25, iv v16), (26, .bool (decide (v16 < (p1.length : Int))))]) (TI.dn (NX.sq (TS.sq ?_))))))
 refine TS.cd (.tmp 26) (decide (v16 < (p1.length : Int))) (fun hc32 => ?_) (fun hc32 => ?_)
 · replace hF := of_pos hF hc32
   refine TS.sk (NX.sq (TS.sq (TS.bk 2 (TS.sq ?_))))
   have hX := of_guard hF
   clear hF
   obtain ⟨hg33, hF⟩ := hX
   have hX := of_do hF
   clear hF
   obtain ⟨o34, h35, hF⟩ := hX
   replace h35 := Option.some.inj h35
   refine TS.rg (TI.ra 1 [1, 7, 23, 24, 25, 27] (st 48 [(1, sv 1 p2.length ANY), (7, accV 2 v17.length), (23, sv 0 p1.length ANY), (24, iv (p1.length : Int)), (25, iv v16), (27, iv v16)]) (TI.o { val := .pointer (some ⟨0, 0 + (Int.toNat v16) * 4, none⟩) } (q_ixS 0 0 ((Int.toNat v16) * 4) (by kernel_rfl) hg33) [1, 7, 23, 24, 25, 27, 28] [0, 1, 2] (st 48 [(1, sv 1 p2.length ANY), (7, accV 2 v17.length), (23, sv 0 p1.length ANY), (24, iv (p1.length : Int)), (25, iv v16), (27, iv v16), (28, .pointer (some ⟨0, 0 + (Int.toNat v16) * 4, none⟩))]) (H22_5 p1 p2 v17) (TI.o { val := ag [iv o34.1.1, .bool o34.1.2, iv o34.2.1, .bool o34.2.2] } (q_nAa Try.prog (H22_5 p1 p2 v17) 86 0 (0 + (Int.toNat v16) * 4) p1 e86 4 86 (Int.toNat v16) ((0, false), (0, false)) h35) [1, 7, 23, 24, 25, 27, 29] [0, 1, 2] (st 48 [(1, sv 1 p2.length ANY), (7, accV 2 v17.length), (23, sv 0 p1.length ANY), (24, iv (p1.length : Int)), (25, iv v16), (27, iv v16), (29, ag [iv o34.1.1, .bool o34.1.2, iv o34.2.1, .bool o34.2.2])]) (H22_5 p1 p2 v17) (TI.rn 3 [1, 7, 8, 9, 23, 24, 25] [0, 1, 2, 3] (st 48 [(1, sv 1 p2.length ANY), (7, accV 2 v17.length), (8, iv v16), (9, pt 3 0), (23, sv 0 p1.length ANY), (24, iv (p1.length : Int)), (25, iv v16)]) (H22_3 p1 p2 v17 o34) (TI.dn (NX.sq (TS.sq ?_)))))))
   have hX := of_do hF
   clear hF
   obtain ⟨r36, h37, hF⟩ := hX
   have hX := of_do hF
   clear hF
   obtain ⟨m41, hm47, hF⟩ := hX
   have hK : NX Try.prog 2 2 [.sq c22.s2.s2.s2.s2.s1.s2.bd.bd.s2.s2.s1.bd.s2.s2, .bk 2, .sq c22.s2.s2.s2.s2.s1.s2.bd.bd.s2.s2.s2] (Rd Try.prog 2 2 c22.s2.s2.s2.s2.s1.s2.bd.bd (P22l0 p1 p2 r)) .normal (st 48 [(1, sv 1 p2.length ANY), (7, accV 2 v17.length), (8, iv v16), (23, sv 0 p1.length ANY), (24, iv (p1.length : Int)), (25, iv v16), (41, .bool m41)]) (H22_4 p1 p2 v17) := by
    refine NX.sq ?_
    have hX := of_do hF
    clear hF
    obtain ⟨m44, hm45, hF⟩ := hX
    have hK : NX Try.prog 2 2 [.bk 2, .sq c22.s2.s2.s2.s2.s1.s2.bd.bd.s2.s2.s2] (Rd Try.prog 2 2 c22.s2.s2.s2.s2.s1.s2.bd.bd (P22l0 p1 p2 r)) .normal (st 48 [(1, sv 1 p2.length ANY), (7, accV 2 m44.length), (23, sv 0 p1.length ANY), (24, iv (p1.length : Int)), (25, iv v16)]) [ab 86 e86 p1, ab 4 e4 p2, ab 3 e3 m44] := by
     refine NX.bk (NX.sq (TS.rg (TI.ra 2 [1, 7, 23, 24, 25] (S22_2 p2 m44 p1 v16) (TI.dn ?_))))
     exact Rd.again (a2 := (S22_2 p2 m44 p1 v16)) (h2 := [ab 86 e86 p1, ab 4 e4 p2, ab 3 e3 m44]) (Wk.an [2] (.ac (.ac (.ac (.nil _)))) [sv 1 p2.length ANY, accV 2 m44.length, sv 0 p1.length ANY, iv (p1.length : Int), iv (w64 (v16 + 1))] (.sl (.cons (Rn.acc (Nat.le_of_ble_eq_true rfl) rfl) (.sl (.fl (.fl .nil)))))) (ih m44 (w64 (v16 + 1)) _ hF)
    clear hF
    have hF := hm45
    clear hm45
    refine TS.start ?_
    cases m41 with
    | true =>
     replace hF := of_pos hF rfl
     refine TS.cdT (.tmp 41) ?_
     have hX := of_guard hF
     clear hF
     obtain ⟨hg46, hF⟩ := hX
     refine TS.rg (TI.rn 3 [1, 23, 24, 25, 42, 44] [0, 1, 2, 4] (st 48 [(1, sv 1 p2.length ANY), (23, sv 0 p1.length ANY), (24, iv (p1.length : Int)), (25, iv v16), (42, accV 2 v17.length), (44, sv 4 1 1)]) [ab 86 e86 p1, ab 4 e4 p2, ab 3 e3 v17, .dead, cl 3 [iv v16]] (TI.acc (l := v17) (b := 2) (ts := #[38, 38]) (e := 3) (bytes := 8) (z := iv 0) (y := sv 4 1 1) (ys := [v16]) (xs := List.flatMap e3 ([v16])) (m := 1) (s := 1) (enc := e3) (by kernel_rfl) (by kernel_rfl) (by decide) (by kernel_rfl) (by kernel_rfl) (by kernel_rfl) (by kernel_rfl) (by kernel_rfl) (by kernel_rfl) (by kernel_rfl) (by kernel_rfl) (fun _ => rfl) rfl rfl (by omega) [1, 23, 24, 25, 45] [0, 1, 5] (a2 := (st 48 [(1, sv 1 p2.length ANY), (23, sv 0 p1.length ANY), (24, iv (p1.length : Int)), (25, iv v16), (45, sv 5 (List.length (v17 ++ [v16])) UNK)])) (h2 := [ab 86 e86 p1, ab 4 e4 p2, .dead, .dead, .dead, .cells 3 (List.flatMap e3 (v17 ++ [v16]))]) (by kernel_rfl) (TI.ra 1 [1, 7, 23, 24, 25] (st 48 [(1, sv 1 p2.length ANY), (7, sv 5 (List.length (v17 ++ [v16])) UNK), (23, sv 0 p1.length ANY), (24, iv (p1.length : Int)), (25, iv v16)]) (TI.dn ?_))))
     have hF := Option.some.inj hF
     subst hF
     exact TS.weak (by exact (Wk.an [5] (.ac (.ac (.cons (At.accU (by kernel_rfl) rfl (fun _ => rfl)) (.nil _)))) [sv 1 p2.length ANY, sv 5 (List.length (v17 ++ [v16])) UNK, sv 0 p1.length ANY, iv (p1.length : Int), iv v16] (.sl (.cons (Rn.accU (Nat.le_of_ble_eq_true rfl) rfl (by simp)) (.sl (.fl (.fl .nil))))))) hK
    | false =>
     replace hF := of_neg hF rfl
     refine TS.cdF (.tmp 41) (TS.sk ?_)
     have hF := Option.some.inj hF
     subst hF
     exact TS.weak (by exact (Wk.an [2] (.ac (.ac (.ac (.nil _)))) [sv 1 p2.length ANY, accV 2 v17.length, sv 0 p1.length ANY, iv (p1.length : Int), iv v16] (.sl (.cons (Rn.acc (Nat.le_of_ble_eq_true rfl) rfl) (.sl (.fl (.fl .nil))))))) hK
   rcases Bool.eq_false_or_eq_true (!r36) with hc38 | hc38
   · replace hm47 := of_pos hm47 hc38
     have hX := of_do hm47
     clear hm47
     obtain ⟨r39, h40, hm47⟩ := hX
     have hm47 := Option.some.inj hm47
     subst hm47
     exact TS.rg (TI.ra 3 [1, 7, 8, 9, 23, 24, 25, 31, 32] (S22_0 p2 v17 v16 p1 o34) (TI.callM (g := 62) (args := [ag [iv o34.1.1, .bool o34.1.2], sv 1 p2.length ANY]) (v := .bool r36) (new := []) (by kernel_rfl) (PureSim.ren (hc := [ab 4 e4 p2]) (fun i => List.getD [(1, 0)] i (0, 0)) (C62 _ _ _ _ h37) (.ac (.nil _)) (.fl (.cons (Rn.any _ _ _ _ _ _ (Nat.le_of_ble_eq_true rfl) rfl rfl (by decide)) .nil)) (.flat (by kernel_rfl)) newflat_nil) [1, 7, 8, 9, 23, 24, 25, 33] [0, 1, 2, 3] (a2 := (S22_1 p2 v17 v16 p1 r36)) (h2 := (H22_3 p1 p2 v17 o34)) (by kernel_rfl) (TI.o { val := .bool true } (q_conv (e := !r36) (b := true) (by kernel_rfl) hc38) [1, 7, 8, 9, 23, 24, 25, 34] [0, 1, 2, 3] (st 48 [(1, sv 1 p2.length ANY), (7, accV 2 v17.length), (8, iv v16), (9, pt 3 0), (23, sv 0 p1.length ANY), (24, iv (p1.length : Int)), (25, iv v16), (34, .bool true)]) (H22_3 p1 p2 v17 o34) (TI.rn 4 [1, 7, 8, 23, 24, 25, 35, 37, 38] [0, 1, 2] (st 48 [(1, sv 1 p2.length ANY), (7, accV 2 v17.length), (8, iv v16), (23, sv 0 p1.length ANY), (24, iv (p1.length : Int)), (25, iv v16), (35, .bool true), (37, ag [iv o34.2.1, .bool o34.2.2]), (38, sv 1 p2.length ANY)]) (H22_4 p1 p2 v17) (TI.cp 62 [ag [iv o34.2.1, .bool o34.2.2], sv 1 p2.length ANY] (.bool r39) [] (PureSim.ren (hc := [ab 4 e4 p2]) (fun i => List.getD [(1, 0)] i (0, 0)) (C62 _ _ _ _ h40) (.ac (.nil _)) (.fl (.cons (Rn.any _ _ _ _ _ _ (Nat.le_of_ble_eq_true rfl) rfl rfl (by decide)) .nil)) (.flat (by kernel_rfl)) newflat_nil) (TI.ra 2 [1, 7, 8, 23, 24, 25, 41] (st 48 [(1, sv 1 p2.length ANY), (7, accV 2 v17.length), (8, iv v16), (23, sv 0 p1.length ANY), (24, iv (p1.length : Int)), (25, iv v16), (41, .bool (!r39))]) (TI.dn hK)))))))
   replace hm47 := of_neg hm47 hc38
   have hm47 := Option.some.inj hm47
   subst hm47
   exact TS.rg (TI.ra 3 [1, 7, 8, 9, 23, 24, 25, 31, 32] (S22_0 p2 v17 v16 p1 o34) (TI.callM (g := 62) (args := [ag [iv o34.1.1, .bool o34.1.2], sv 1 p2.length ANY]) (v := .bool r36) (new := []) (by kernel_rfl) (PureSim.ren (hc := [ab 4 e4 p2]) (fun i => List.getD [(1, 0)] i (0, 0)) (C62 _ _ _ _ h37) (.ac (.nil _)) (.fl (.cons (Rn.any _ _ _ _ _ _ (Nat.le_of_ble_eq_true rfl) rfl rfl (by decide)) .nil)) (.flat (by kernel_rfl)) newflat_nil) [1, 7, 8, 9, 23, 24, 25, 33] [0, 1, 2, 3] (a2 := (S22_1 p2 v17 v16 p1 r36)) (h2 := (H22_3 p1 p2 v17 o34)) (by kernel_rfl) (TI.o { val := .bool false } (q_conv (e := !r36) (b := false) (by kernel_rfl) hc38) [1, 7, 8, 9, 23, 24, 25, 34] [0, 1, 2, 3] (st 48 [(1, sv 1 p2.length ANY), (7, accV 2 v17.length), (8, iv v16), (9, pt 3 0), (23, sv 0 p1.length ANY), (24, iv (p1.length : Int)), (25, iv v16), (34, .bool false)]) (H22_3 p1 p2 v17 o34) (TI.rn 7 [1, 7, 8, 23, 24, 25, 41] [0, 1, 2] (st 48 [(1, sv 1 p2.length ANY), (7, accV 2 v17.length), (8, iv v16), (23, sv 0 p1.length ANY), (24, iv (p1.length : Int)), (25, iv v16), (41, .bool false)]) (H22_4 p1 p2 v17) (TI.dn hK)))))
 replace hF := of_neg hF hc32
 refine TS.ex 1 (NX.sqX ?_)
 have hF := Option.some.inj hF
 subst hF
 exact Rd.out (e := .exit 1) (by intro h; cases h) (And.intro rfl (Wk.an [2] (.ac (.ac (.ac (.nil _)))) [accV 2 v17.length] (.cons (Rn.acc (Nat.le_of_ble_eq_true rfl) rfl) .nil)))
theorem B22 (p0 : Int) (p1 : (List ((Int × Bool) × (Int × Bool)))) (p2 : (List Bool)) (r : ((List Int) × Int)) (hF : F22 p0 p1 p2 = some r) : TS Try.prog 2 2 c22 (st 48 [(0, ag [iv p0, sv 0 p1.length ANY]), (1, sv 1 p2.length ANY)]) [ab 86 e86 p1, ab 4 e4 p2] (NX Try.prog 2 2 [] (FinP Try.prog Try.f22 2 (V22 2 r) (N22 2 r))) := by
 unfold F22 at hF
 refine TS.sq (TS.rg (TI.rn 3 [1, 2] [0, 1, 2] (st 48 [(1, sv 1 p2.length ANY), (2, pt 2 0)]) [ab 86 e86 p1, ab 4 e4 p2, cl 24 [iv p0, sv 0 p1.length ANY]] (TI.dn (NX.sq (TS.sq ?_)))))
 have hX := of_do hF
 clear hF
 obtain ⟨r1, h2, hF⟩ := hX
 refine TS.rg (TI.ra 1 [1, 2, 10] (st 48 [(1, sv 1 p2.length ANY), (2, pt 2 0), (10, ag [iv p0, sv 0 p1.length ANY])]) (TI.cp 26 [ag [iv p0, sv 0 p1.length ANY]] (iv r1) [] (PureSim.ren (hc := [ab 86 e86 p1]) (fun i => List.getD [(0, 0)] i (0, 0)) (C26 _ _ _ h2) (.ac (.nil _)) (.cons (Rn.agg' (.fl (.cons (Rn.any _ _ _ _ _ _ (Nat.le_of_ble_eq_true rfl) rfl rfl (by decide)) .nil))) .nil) (.flat (by kernel_rfl)) newflat_nil) (TI.ra 1 [1, 2, 6] (st 48 [(1, sv 1 p2.length ANY), (2, pt 2 0), (6, iv r1)]) (TI.dn (NX.sq (TS.sq (TS.bk 0 (TS.sq ?_))))))))
 refine TS.rg (TI.ra 3 [1, 2, 6, 12] (st 48 [(1, sv 1 p2.length ANY), (2, pt 2 0), (6, iv r1), (12, .bool (r1 != 0))]) (TI.dn (NX.sq ?_)))
 refine TS.cd (.tmp 12) (r1 != 0) (fun hc3 => ?_) (fun hc3 => ?_)
 · replace hF := of_pos hF hc3
   refine TS.sq (TS.rg (TI.rn 3 [4, 5] [0, 1] (st 48 [(4, .slice none 0 0), (5, iv r1)]) (H22_6 p1 p2) (TI.dn (NX.sq (TS.rt (NX.bkR (NX.sqR ?_)))))))
   have hF := Option.some.inj hF
   subst hF
   exact ⟨.inr rfl, rfl, .tuple ⟨[.slice none 0 0, iv r1]⟩, by kernel_rfl, WkV.made (L := 2) (f := [3]) (by decide) (by decide) rfl (.cons At.accN (.nil _)) (Rn.tuple' (.cons Rn.accN (.fl .nil)))⟩
 replace hF := of_neg hF hc3
 refine TS.sq (TS.rg (TI.ra 6 [1, 2, 16] (st 48 [(1, sv 1 p2.length ANY), (2, pt 2 0), (16, .bool ((p2.length : Int) != p0))]) (TI.dn (NX.sq ?_))))
 refine TS.cd (.tmp 16) ((p2.length : Int) != p0) (fun hc4 => ?_) (fun hc4 => ?_)
 · replace hF := of_pos hF hc4
   refine TS.sq (TS.rg (TI.rn 2 [4, 5] [0, 1] (st 48 [(4, .slice none 0 0), (5, iv 4)]) (H22_6 p1 p2) (TI.dn (NX.sq (TS.rt (NX.bkR (NX.sqR ?_)))))))
   have hF := Option.some.inj hF
   subst hF
   exact ⟨.inr rfl, rfl, .tuple ⟨[.slice none 0 0, iv 4]⟩, by kernel_rfl, WkV.made (L := 2) (f := [3]) (by decide) (by decide) rfl (.cons At.accN (.nil _)) (Rn.tuple' (.cons Rn.accN (.fl .nil)))⟩
 replace hF := of_neg hF hc4
 refine TS.sk (NX.bk (NX.sq (TS.sq (TS.rg (TI.ra 1 [1, 2, 7] (st 48 [(1, sv 1 p2.length ANY), (2, pt 2 0), (7, .slice none 0 0)]) (TI.dn (NX.sq (TS.sq ?_))))))))
 refine TS.sq (TS.rg (TI.rn 4 [1, 7, 23, 24, 25] [0, 1] (st 48 [(1, sv 1 p2.length ANY), (7, .slice none 0 0), (23, sv 0 p1.length ANY), (24, iv (p1.length : Int)), (25, iv 0)]) (H22_6 p1 p2) (TI.dn (NX.sq (TS.bk 1 ?_)))))
 have hX := of_do hF
 clear hF
 obtain ⟨r48, h49, hF⟩ := hX
 refine TS.lp (TL.weak (a2 := (st 48 [(1, sv 1 p2.length ANY), (7, accV 2 (List.length ([]))), (23, sv 0 p1.length ANY), (24, iv (p1.length : Int)), (25, iv 0)])) (h2 := [ab 86 e86 p1, ab 4 e4 p2, accB 3 (List.length ([])) (List.flatMap e3 ([]))]) (Wk.an [3] (.ac (.ac (.cons At.accN (.nil _)))) [sv 1 p2.length ANY, .slice none 0 0, sv 0 p1.length ANY, iv (p1.length : Int), iv 0] (.sl (.cons (Rn.accN) (.sl (.fl (.fl .nil)))))) (TL.post (L22l0 p1 p2 ([]) 0 r48 h49) ?_))
 rintro e a1 h1 hp
 obtain ⟨rfl, hw⟩ := hp
 refine ⟨(st 48 [(7, accV 2 r48.length)]), [ab 86 e86 p1, ab 4 e4 p2, ab 3 e3 r48], (NX.bkX (NX.sq (TS.sq (TS.rg (TI.ra 3 [4, 5] (st 48 [(4, accV 2 r48.length), (5, iv 0)]) (TI.dn (NX.sq (TS.rt ?_)))))))), hw⟩
 have hF := Option.some.inj hF
 subst hF
 exact ⟨.inr rfl, rfl, .tuple ⟨[accV 2 r48.length, iv 0]⟩, by kernel_rfl, WkV.made (L := 2) (f := [2]) (by decide) (by decide) rfl (.ac (.nil _)) (Rn.tuple' (.cons (Rn.acc (Nat.le_of_ble_eq_true rfl) rfl) (.fl .nil)))⟩
theorem C22 (p0 : Int) (p1 : (List ((Int × Bool) × (Int × Bool)))) (p2 : (List Bool)) (r : ((List Int) × Int)) (hF : F22 p0 p1 p2 = some r) : PureSim Try.prog 22 [ag [iv p0, sv 0 p1.length ANY], sv 1 p2.length ANY] [ab 86 e86 p1, ab 4 e4 p2] (V22 2 r) (N22 2 r) :=
 PureSim.of_Fin Try.func22 (c := c22) (by kernel_rfl) (by kernel_rfl) 2 rfl [0, 1] [0, 1] (by kernel_rfl) (B22 p0 p1 p2 r hF)
end
end Go.Proofs.Ytiaippkjgmccoaa
