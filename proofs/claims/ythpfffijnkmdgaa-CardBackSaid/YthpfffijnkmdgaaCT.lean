/- What functions of the program compute, and that they do. -/
import Derived.Test.YthpfffijnkmdgaaCS
set_option linter.unusedVariables false
set_option linter.unusedSimpArgs false
set_option maxRecDepth 100000
set_option maxHeartbeats 4000000
namespace Go.Proofs.Ythpfffijnkmdgaa
open Go Go.Cl
noncomputable section
noncomputable def c29 : Code := Try.f29.code
def S29_0 (v18 : (List (Int × Int))) (p0 : (List (Int × Int))) (v17 : Int) (o34 : (Int × Int)) (r36 : Int) (r38 : (Int × Int)) (r40 : (Int × Int)) : CAct := (st 41 [(5, accV 1 v18.length), (7, pt 2 0), (19, sv 0 p0.length ANY), (20, iv (p0.length : Int)), (21, iv v17), (25, accV 1 v18.length), (26, ag [iv o34.1, iv o34.2]), (27, iv r36), (28, ag [iv r38.1, iv r38.2]), (29, ag [iv r40.1, iv r40.2]), (30, iv r40.1), (31, pt 2 1), (32, iv o34.2), (33, iv (w64 (0 - o34.2))), (34, ag [iv r40.1, iv (w64 (0 - o34.2))]), (35, sv 3 1 1)])
def H29_1 (p0 : (List (Int × Int))) (v18 : (List (Int × Int))) (o34 : (Int × Int)) : List Blk := [ab 55 e55 p0, ab 55 e55 v18, cl 55 [iv o34.1, iv o34.2]]
def H29_2 (p0 : (List (Int × Int))) (v18 : (List (Int × Int))) : List Blk := [ab 55 e55 p0, ab 55 e55 v18]
def H29_3 (p0 : (List (Int × Int))) (r43 : (List (Int × Int))) : List Blk := [ab 55 e55 p0, ab 55 e55 r43]
def S29_4 (r43 : (List (Int × Int))) : CAct := (st 41 [(5, accV 1 r43.length), (38, accV 1 r43.length)])
def F29l0 (p0 : (List (Int × Int))) (v18 : (List (Int × Int))) (v17 : Int) : Option (List (Int × Int)) :=
 if decide (v17 < (p0.length : Int)) then
  if (0 : Int) ≤ v17 ∧ v17 < (p0.length : Int) then
   some (List.getD p0 (Int.toNat v17) (0, 0)) >>= fun o34 =>
   F72 o34.1 o34.2 >>= fun r36 =>
   F55 r36 >>= fun r38 =>
   F73 r38.1 r38.2 >>= fun r40 =>
   if List.length v18 ≤ 1000000000 then
    F29l0 p0 (v18 ++ [(r40.1, w64 (0 - o34.2))]) (w64 (v17 + 1))
   else none
  else none
 else
  some v18
 partial_fixpoint
def F29 (p0 : (List (Int × Int))) : Option ((List (Int × Int)) × Int) :=
 F22 p0 >>= fun r1 =>
 if r1 != 0 then
  some ([], r1)
 else
  F60 p0 >>= fun r4 =>
  if decide ((r4.length : Int) > 0) then
   some ([], 21)
  else
   F29l0 p0 ([]) 0 >>= fun r43 =>
   sort74 r43 >>= fun r45 =>
   some (r45, 0)
def V29 (b : Nat) (r : ((List (Int × Int)) × Int)) : Value := .tuple ⟨[accV (b + 0) r.1.length, iv r.2]⟩
def N29 (b : Nat) (r : ((List (Int × Int)) × Int)) : List Blk := [ab 55 e55 r.1]
def P29l0 (p0 : (List (Int × Int))) (r : (List (Int × Int))) : Post := fun e a h => e = .exit 1 ∧ Wk Try.prog 1 1 a h (st 41 [(5, accV 1 r.length)]) [ab 55 e55 p0, ab 55 e55 r]
theorem L29l0 (p0 : (List (Int × Int))) (v18 : (List (Int × Int))) (v17 : Int) (r : (List (Int × Int))) (hF : F29l0 p0 v18 v17 = some r) : TL Try.prog 1 1 c29.s2.s2.s2.s2.s1.s2.bd.bd (st 41 [(5, accV 1 v18.length), (19, sv 0 p0.length ANY), (20, iv (p0.length : Int)), (21, iv v17)]) (H29_2 p0 v18) (P29l0 p0 r) := by
 refine F29l0.partial_correctness p0 (motive := fun v18 v17 r => TL Try.prog 1 1 c29.s2.s2.s2.s2.s1.s2.bd.bd (st 41 [(5, accV 1 v18.length), (19, sv 0 p0.length ANY), (20, iv (p0.length : Int)), (21, iv v17)]) (H29_2 p0 v18) (P29l0 p0 r)) ?_ v18 v17 r hF
 clear hF r v18 v17
 intro again ih v18 v17 r hF
 refine TL.round (TS.sq (TS.rg (TI.ra 1 [5, 19, 20, 21, 22] (st 41 [(5, accV 1 v18.length), (19, sv 0 p0.length ANY), (20, iv (p0.length : Int)), (21, iv v17), (22, .bool (decide (v17 < (p0.length : Int))))]) (TI.dn (NX.sq (TS.sq ?_))))))
 refine TS.cd (.tmp 22) (decide (v17 < (p0.length : Int))) (fun hc32 => ?_) (fun hc32 => ?_)
 · replace hF := of_pos hF hc32
   refine TS.sk (NX.sq (TS.sq (TS.bk 2 (TS.sq ?_))))
   have hX := of_guard hF
   clear hF
   obtain ⟨hg33, hF⟩ := hX
   have hX := of_do hF
   clear hF
   obtain ⟨o34, h35, hF⟩ := hX
   replace h35 := Option.some.inj h35
   refine TS.rg (TI.o { val := .pointer (some ⟨0, 0 + (Int.toNat v17) * 2, none⟩) } (q_ixS 0 0 ((Int.toNat v17) * 2) (by kernel_rfl) hg33) [5, 19, 20, 21, 23] [0, 1] (st 41 [(5, accV 1 v18.length), (19, sv 0 p0.length ANY), (20, iv (p0.length : Int)), (21, iv v17), (23, .pointer (some ⟨0, 0 + (Int.toNat v17) * 2, none⟩))]) (H29_2 p0 v18) (TI.o { val := ag [iv o34.1, iv o34.2] } (q_nAa Try.prog (H29_2 p0 v18) 55 0 (0 + (Int.toNat v17) * 2) p0 e55 2 55 (Int.toNat v17) (0, 0) h35) [5, 19, 20, 21, 24] [0, 1] (st 41 [(5, accV 1 v18.length), (19, sv 0 p0.length ANY), (20, iv (p0.length : Int)), (21, iv v17), (24, ag [iv o34.1, iv o34.2])]) (H29_2 p0 v18) (TI.rn 2 [5, 7, 19, 20, 21] [0, 1, 2] (st 41 [(5, accV 1 v18.length), (7, pt 2 0), (19, sv 0 p0.length ANY), (20, iv (p0.length : Int)), (21, iv v17)]) (H29_1 p0 v18 o34) (TI.dn (NX.sq ?_)))))
   have hX := of_do hF
   clear hF
   obtain ⟨r36, h37, hF⟩ := hX
   have hX := of_do hF
   clear hF
   obtain ⟨r38, h39, hF⟩ := hX
   have hX := of_do hF
   clear hF
   obtain ⟨r40, h41, hF⟩ := hX
   have hX := of_guard hF
   clear hF
   obtain ⟨hg42, hF⟩ := hX
   have hT : ∀ e ∈ ([⟨72, [ag [iv o34.1, iv o34.2]], (H29_1 p0 v18 o34), iv r36, []⟩, ⟨55, [iv r36], (H29_1 p0 v18 o34), ag [iv r38.1, iv r38.2], []⟩, ⟨73, [ag [iv r38.1, iv r38.2]], (H29_1 p0 v18 o34), ag [iv r40.1, iv r40.2], []⟩] : List Entry), PureSim Try.prog e.g e.args e.h e.v e.new := by
    intro e he
    simp only [List.mem_cons, List.not_mem_nil, or_false] at he
    rcases he with rfl | rfl | rfl
    · exact PureSim.ak (C72 _ _ _ h37)
    · exact PureSim.ak (C55 _ _ h39)
    exact PureSim.ak (C73 _ _ _ h41)
   refine TS.drawT [⟨72, [ag [iv o34.1, iv o34.2]], (H29_1 p0 v18 o34), iv r36, []⟩, ⟨55, [iv r36], (H29_1 p0 v18 o34), ag [iv r38.1, iv r38.2], []⟩, ⟨73, [ag [iv r38.1, iv r38.2]], (H29_1 p0 v18 o34), ag [iv r40.1, iv r40.2], []⟩] hT mixed 11 [] (S29_0 v18 p0 v17 o34 r36 r38 r40) [ab 55 e55 p0, ab 55 e55 v18, cl 55 [iv o34.1, iv o34.2], cl 55 [iv r40.1, iv (w64 (0 - o34.2))]] ?_ ?_
   · exact QJ.rn (qs (st 41 [(5, accV 1 v18.length), (7, pt 2 0), (19, sv 0 p0.length ANY), (20, iv (p0.length : Int)), (21, iv v17), (25, accV 1 v18.length), (26, ag [iv o34.1, iv o34.2])]) (H29_1 p0 v18 o34) [] []) 2 (QJ.o { val := iv r36, new := [] } (qOf_call (g := 72) (args := [ag [iv o34.1, iv o34.2]]) (by kernel_rfl) lookC_hit) (QJ.o { val := ag [iv r38.1, iv r38.2], new := [] } (qOf_call (g := 55) (args := [iv r36]) (by kernel_rfl) (lookC_skip (fun hg => absurd (show (72 : Nat) = 55 from hg) (by decide)) lookC_hit)) (QJ.o { val := ag [iv r40.1, iv r40.2], new := [] } (qOf_call (g := 73) (args := [ag [iv r38.1, iv r38.2]]) (by kernel_rfl) (lookC_skip (fun hg => absurd (show (72 : Nat) = 73 from hg) (by decide)) (lookC_skip (fun hg => absurd (show (55 : Nat) = 73 from hg) (by decide)) lookC_hit))) (QJ.rn (qs (S29_0 v18 p0 v17 o34 r36 r38 r40) [ab 55 e55 p0, ab 55 e55 v18, cl 55 [iv o34.1, iv o34.2], cl 55 [iv r40.1, iv (w64 (0 - o34.2))]] [(10, 3, 4)] []) 6 (QJ.dn ⟨by kernel_rfl, by kernel_rfl, by kernel_rfl⟩)))))
   refine TI.rn 0 [19, 20, 21, 25, 35] [0, 1, 3] (st 41 [(19, sv 0 p0.length ANY), (20, iv (p0.length : Int)), (21, iv v17), (25, accV 1 v18.length), (35, sv 3 1 1)]) [ab 55 e55 p0, ab 55 e55 v18, .dead, cl 55 [iv r40.1, iv (w64 (0 - o34.2))]] (TI.acc (l := v18) (b := 1) (ts := #[23, 23]) (e := 55) (bytes := 16) (z := ag [iv 0, iv 0]) (y := sv 3 1 1) (ys := [(r40.1, w64 (0 - o34.2))]) (xs := List.flatMap e55 ([(r40.1, w64 (0 - o34.2))])) (m := 1) (s := 2) (enc := e55) (by kernel_rfl) (by kernel_rfl) (by decide) (by kernel_rfl) (by kernel_rfl) (by kernel_rfl) (by kernel_rfl) (by kernel_rfl) (by kernel_rfl) (by kernel_rfl) (by kernel_rfl) (fun _ => rfl) rfl rfl (by omega) [19, 20, 21, 36] [0, 4] (a2 := (st 41 [(19, sv 0 p0.length ANY), (20, iv (p0.length : Int)), (21, iv v17), (36, sv 4 (List.length (v18 ++ [(r40.1, w64 (0 - o34.2))])) UNK)])) (h2 := [ab 55 e55 p0, .dead, .dead, .dead, .cells 55 (List.flatMap e55 (v18 ++ [(r40.1, w64 (0 - o34.2))]))]) (by kernel_rfl) (TI.ra 1 [5, 19, 20, 21] (st 41 [(5, sv 4 (List.length (v18 ++ [(r40.1, w64 (0 - o34.2))])) UNK), (19, sv 0 p0.length ANY), (20, iv (p0.length : Int)), (21, iv v17)]) (TI.dn (NX.bk (NX.sq (TS.rg (TI.ra 2 [5, 19, 20, 21] (st 41 [(5, sv 4 (List.length (v18 ++ [(r40.1, w64 (0 - o34.2))])) UNK), (19, sv 0 p0.length ANY), (20, iv (p0.length : Int)), (21, iv (w64 (v17 + 1)))]) (TI.dn ?_))))))))
   exact Rd.again (a2 := (st 41 [(5, accV 1 (List.length (v18 ++ [(r40.1, w64 (0 - o34.2))]))), (19, sv 0 p0.length ANY), (20, iv (p0.length : Int)), (21, iv (w64 (v17 + 1)))])) (h2 := [ab 55 e55 p0, accB 55 (List.length (v18 ++ [(r40.1, w64 (0 - o34.2))])) (List.flatMap e55 (v18 ++ [(r40.1, w64 (0 - o34.2))]))]) (Wk.an [4] (.ac (.cons (At.accU (by kernel_rfl) rfl (fun _ => rfl)) (.nil _))) [sv 4 (List.length (v18 ++ [(r40.1, w64 (0 - o34.2))])) UNK, sv 0 p0.length ANY, iv (p0.length : Int), iv (w64 (v17 + 1))] (.cons (Rn.accU (Nat.le_of_ble_eq_true rfl) rfl (by simp)) (.sl (.fl (.fl .nil))))) (ih (v18 ++ [(r40.1, w64 (0 - o34.2))]) (w64 (v17 + 1)) _ hF)
 replace hF := of_neg hF hc32
 refine TS.ex 1 (NX.sqX ?_)
 have hF := Option.some.inj hF
 subst hF
 exact Rd.out (e := .exit 1) (by intro h; cases h) (And.intro rfl (Wk.an [1] (.ac (.ac (.nil _))) [accV 1 v18.length] (.cons (Rn.acc (Nat.le_of_ble_eq_true rfl) rfl) .nil)))
theorem B29 (p0 : (List (Int × Int))) (r : ((List (Int × Int)) × Int)) (hF : F29 p0 = some r) : TS Try.prog 1 1 c29 (st 41 [(0, sv 0 p0.length ANY)]) [ab 55 e55 p0] (NX Try.prog 1 1 [] (FinP Try.prog Try.f29 1 (V29 1 r) (N29 1 r))) := by
 unfold F29 at hF
 refine TS.sq (TS.rg (TI.ra 2 [0] (st 41 [(0, sv 0 p0.length ANY)]) (TI.dn (NX.sq (TS.sq ?_)))))
 have hX := of_do hF
 clear hF
 obtain ⟨r1, h2, hF⟩ := hX
 refine TS.rg (TI.ra 1 [0, 8] (st 41 [(0, sv 0 p0.length ANY), (8, sv 0 p0.length ANY)]) (TI.cp 22 [sv 0 p0.length ANY] (iv r1) [] (PureSim.ren (hc := [ab 55 e55 p0]) (fun i => List.getD [(0, 0)] i (0, 0)) (C22 _ _ h2) (.ac (.nil _)) (.cons (Rn.any _ _ _ _ _ _ (Nat.le_of_ble_eq_true rfl) rfl rfl (by decide)) .nil) (.flat (by kernel_rfl)) newflat_nil) (TI.ra 1 [0, 4] (st 41 [(0, sv 0 p0.length ANY), (4, iv r1)]) (TI.dn (NX.sq (TS.sq (TS.bk 0 (TS.sq ?_))))))))
 refine TS.rg (TI.ra 3 [0, 4, 10] (st 41 [(0, sv 0 p0.length ANY), (4, iv r1), (10, .bool (r1 != 0))]) (TI.dn (NX.sq ?_)))
 refine TS.cd (.tmp 10) (r1 != 0) (fun hc3 => ?_) (fun hc3 => ?_)
 · replace hF := of_pos hF hc3
   refine TS.sq (TS.rg (TI.ra 3 [2, 3] (st 41 [(2, .slice none 0 0), (3, iv r1)]) (TI.dn (NX.sq (TS.rt (NX.bkR (NX.sqR ?_)))))))
   have hF := Option.some.inj hF
   subst hF
   exact ⟨.inr rfl, rfl, .tuple ⟨[.slice none 0 0, iv r1]⟩, by kernel_rfl, WkV.made (L := 1) (f := [1]) (by decide) (by decide) rfl (.cons At.accN (.nil _)) (Rn.tuple' (.cons Rn.accN (.fl .nil)))⟩
 replace hF := of_neg hF hc3
 refine TS.sq ?_
 have hX := of_do hF
 clear hF
 obtain ⟨r4, h5, hF⟩ := hX
 refine TS.rg (TI.ra 1 [0, 15] (st 41 [(0, sv 0 p0.length ANY), (15, sv 0 p0.length ANY)]) (TI.cp 60 [sv 0 p0.length ANY] (accV 1 r4.length) [ab 3 e3 r4] (PureSim.ren (hc := [ab 55 e55 p0]) (fun i => List.getD [(0, 0)] i (0, 0)) (C60 _ _ h5) (.ac (.nil _)) (.cons (Rn.any _ _ _ _ _ _ (Nat.le_of_ble_eq_true rfl) rfl rfl (by decide)) .nil) (Rn.acc (i' := 1) (Nat.le_of_ble_eq_true rfl) rfl) (newflat_cons (accB_flat (fun _ => rfl)) newflat_nil)) (TI.rn 3 [0, 14] [0] (st 41 [(0, sv 0 p0.length ANY), (14, .bool (decide ((r4.length : Int) > 0)))]) [ab 55 e55 p0, .dead] (TI.dn (NX.sq ?_)))))
 refine TS.cd (.tmp 14) (decide ((r4.length : Int) > 0)) (fun hc6 => ?_) (fun hc6 => ?_)
 · replace hF := of_pos hF hc6
   refine TS.sq (TS.rg (TI.ra 2 [2, 3] (st 41 [(2, .slice none 0 0), (3, iv 21)]) (TI.dn (NX.sq (TS.rt (NX.bkR (NX.sqR ?_)))))))
   have hF := Option.some.inj hF
   subst hF
   exact ⟨.inr rfl, rfl, .tuple ⟨[.slice none 0 0, iv 21]⟩, by kernel_rfl, WkV.made (L := 1) (f := [2]) (by decide) (by decide) rfl (.cons At.accN (.nil _)) (Rn.tuple' (.cons Rn.accN (.fl .nil)))⟩
 replace hF := of_neg hF hc6
 refine TS.sk (NX.bk (NX.sq (TS.sq (TS.rg (TI.ra 1 [0, 5] (st 41 [(0, sv 0 p0.length ANY), (5, .slice none 0 0)]) (TI.dn (NX.sq (TS.sq ?_))))))))
 refine TS.sq (TS.rg (TI.ra 3 [5, 19, 20, 21] (st 41 [(5, .slice none 0 0), (19, sv 0 p0.length ANY), (20, iv (p0.length : Int)), (21, iv 0)]) (TI.dn (NX.sq (TS.bk 1 ?_)))))
 have hX := of_do hF
 clear hF
 obtain ⟨r43, h44, hF⟩ := hX
 refine TS.lp (TL.weak (a2 := (st 41 [(5, accV 1 (List.length ([]))), (19, sv 0 p0.length ANY), (20, iv (p0.length : Int)), (21, iv 0)])) (h2 := [ab 55 e55 p0, accB 55 (List.length ([])) (List.flatMap e55 ([]))]) (Wk.an [2] (.ac (.cons At.accN (.nil _))) [.slice none 0 0, sv 0 p0.length ANY, iv (p0.length : Int), iv 0] (.cons (Rn.accN) (.sl (.fl (.fl .nil))))) (TL.post (L29l0 p0 ([]) 0 r43 h44) ?_))
 rintro e a1 h1 hp
 obtain ⟨rfl, hw⟩ := hp
 refine ⟨(st 41 [(5, accV 1 r43.length)]), (H29_3 p0 r43), (NX.bkX (NX.sq (TS.sq ?_))), hw⟩
 have hX := of_do hF
 clear hF
 obtain ⟨r45, h46, hF⟩ := hX
 refine TS.rg (TI.ra 1 [5, 38] (S29_4 r43) (TI.rn 0 [5, 38] [0, 1] (S29_4 r43) (H29_3 p0 r43) ?_))
 have hl47 := sort74_len h46
 refine TI.sort74 (k := 1) h46 (by kernel_rfl) (by kernel_rfl) (by decide) rfl [5] [0, 1] (a2 := (st 41 [(5, accV 1 r45.length)])) (h2 := [ab 55 e55 p0, ab 55 e55 r45]) (Eq.subst (motive := fun nn => mk2 [5] [0, 1] (putAt c29.s2.s2.s2.s2.s2.s1.rops 1 (S29_4 r43) (.tuple ⟨[]⟩), List.set (H29_3 p0 r43) 1 (accB 55 nn (List.flatMap e55 r45))) = ((st 41 [(5, accV 1 (nn))]), [ab 55 e55 p0, accB 55 (nn) (List.flatMap e55 r45)])) hl47.symm (by kernel_rfl)) (TI.dn (NX.sq (TS.sq (TS.rg (TI.ra 3 [2, 3] (st 41 [(2, accV 1 r45.length), (3, iv 0)]) (TI.dn (NX.sq (TS.rt ?_))))))))
 have hF := Option.some.inj hF
 subst hF
 exact ⟨.inr rfl, rfl, .tuple ⟨[accV 1 r45.length, iv 0]⟩, by kernel_rfl, WkV.made (L := 1) (f := [1]) (by decide) (by decide) rfl (.ac (.nil _)) (Rn.tuple' (.cons (Rn.acc (Nat.le_of_ble_eq_true rfl) rfl) (.fl .nil)))⟩
theorem C29 (p0 : (List (Int × Int))) (r : ((List (Int × Int)) × Int)) (hF : F29 p0 = some r) : PureSim Try.prog 29 [sv 0 p0.length ANY] [ab 55 e55 p0] (V29 1 r) (N29 1 r) :=
 PureSim.of_Fin Try.func29 (c := c29) (by kernel_rfl) (by kernel_rfl) 1 rfl [0] [0] (by kernel_rfl) (B29 p0 r hF)
noncomputable def c45 : Code := Try.f45.code
def H45_0 (p0 : (List (Int × Int))) (p1 : (List (Int × Int))) : List Blk := [ab 55 e55 p0, ab 55 e55 p1]
def F45l0 (p0 : (List (Int × Int))) (p1 : (List (Int × Int))) (v10 : Int) : Option (Unit ⊕ Unit) :=
 if decide (v10 < (p0.length : Int)) then
  if (0 : Int) ≤ v10 ∧ v10 < (p0.length : Int) then
   some (List.getD p0 (Int.toNat v10) (0, 0)) >>= fun o22 =>
   if (0 : Int) ≤ v10 ∧ v10 < (p1.length : Int) then
    some (List.getD p1 (Int.toNat v10) (0, 0)) >>= fun o25 =>
    if !((o22.1 == o25.1) && ((o22.2 == o25.2) && true)) then
     some (.inl ())
    else
     F45l0 p0 p1 (w64 (v10 + 1))
   else none
  else none
 else
  some (.inr ())
 partial_fixpoint
def F45 (p0 : (List (Int × Int))) (p1 : (List (Int × Int))) : Option Bool :=
 if (p0.length : Int) != (p1.length : Int) then
  some false
 else
  F45l0 p0 p1 0 >>= fun r28 =>
  match r28 with
  | .inl o30 =>
   some false
  | .inr o31 =>
   some true
def V45 (b : Nat) (r : Bool) : Value := .bool r
def N45 (b : Nat) (r : Bool) : List Blk := []
def P45l0 (p0 : (List (Int × Int))) (p1 : (List (Int × Int))) (r : (Unit ⊕ Unit)) : Post := fun e a h => (match r with | .inl q0 => e = .ret ∧ Wk Try.prog 2 2 a h (st 26 [(4, .bool false)]) (H45_0 p0 p1) | .inr q0 => e = .exit 0 ∧ Wk Try.prog 2 2 a h (st 26 []) (H45_0 p0 p1))
theorem L45l0 (p0 : (List (Int × Int))) (p1 : (List (Int × Int))) (v10 : Int) (r : (Unit ⊕ Unit)) (hF : F45l0 p0 p1 v10 = some r) : TL Try.prog 2 2 c45.s2.s2.s1.s2.bd.bd (st 26 [(0, sv 0 p0.length ANY), (1, sv 1 p1.length ANY), (5, iv v10)]) (H45_0 p0 p1) (P45l0 p0 p1 r) := by
 refine F45l0.partial_correctness p0 p1 (motive := fun v10 r => TL Try.prog 2 2 c45.s2.s2.s1.s2.bd.bd (st 26 [(0, sv 0 p0.length ANY), (1, sv 1 p1.length ANY), (5, iv v10)]) (H45_0 p0 p1) (P45l0 p0 p1 r)) ?_ v10 r hF
 clear hF r v10
 intro again ih v10 r hF
 refine TL.round (TS.sq (TS.sq (TS.rg (TI.ra 4 [0, 1, 5, 14] (st 26 [(0, sv 0 p0.length ANY), (1, sv 1 p1.length ANY), (5, iv v10), (14, .bool (decide (v10 < (p0.length : Int))))]) (TI.dn (NX.sq ?_))))))
 refine TS.cd (.tmp 14) (decide (v10 < (p0.length : Int))) (fun hc20 => ?_) (fun hc20 => ?_)
 · replace hF := of_pos hF hc20
   refine TS.sk (NX.sq (TS.sq (TS.bk 1 (TS.sq ?_))))
   have hX := of_guard hF
   clear hF
   obtain ⟨hg21, hF⟩ := hX
   have hX := of_do hF
   clear hF
   obtain ⟨o22, h23, hF⟩ := hX
   replace h23 := Option.some.inj h23
   have hX := of_guard hF
   clear hF
   obtain ⟨hg24, hF⟩ := hX
   have hX := of_do hF
   clear hF
   obtain ⟨o25, h26, hF⟩ := hX
   replace h26 := Option.some.inj h26
   refine TS.dp [] (fun e he => by cases he) mixed 8 [0, 1, 5, 25] [0, 1] (st 26 [(0, sv 0 p0.length ANY), (1, sv 1 p1.length ANY), (5, iv v10), (25, .bool (!((o22.1 == o25.1) && ((o22.2 == o25.2) && true))))]) (H45_0 p0 p1) ?_ ?_
   · exact QJ.rn (qs (st 26 [(0, sv 0 p0.length ANY), (1, sv 1 p1.length ANY), (5, iv v10), (14, .bool (decide (v10 < (p0.length : Int)))), (17, sv 0 p0.length ANY), (18, iv v10)]) (H45_0 p0 p1) [] []) 2 (QJ.o { val := .pointer (some ⟨0, 0 + (Int.toNat v10) * 2, none⟩) } (q_ixS 0 0 ((Int.toNat v10) * 2) (by kernel_rfl) hg21) (QJ.o { val := ag [iv o22.1, iv o22.2] } (q_nAa Try.prog (H45_0 p0 p1) 55 0 (0 + (Int.toNat v10) * 2) p0 e55 2 55 (Int.toNat v10) (0, 0) h23) (QJ.rn (qs (st 26 [(0, sv 0 p0.length ANY), (1, sv 1 p1.length ANY), (5, iv v10), (14, .bool (decide (v10 < (p0.length : Int)))), (17, sv 0 p0.length ANY), (18, iv v10), (19, .pointer (some ⟨0, 0 + (Int.toNat v10) * 2, none⟩)), (20, ag [iv o22.1, iv o22.2]), (21, sv 1 p1.length ANY), (22, iv v10)]) (H45_0 p0 p1) [] []) 2 (QJ.o { val := .pointer (some ⟨1, 0 + (Int.toNat v10) * 2, none⟩) } (q_ixS 1 0 ((Int.toNat v10) * 2) (by kernel_rfl) hg24) (QJ.o { val := ag [iv o25.1, iv o25.2] } (q_nAa Try.prog (H45_0 p0 p1) 55 1 (0 + (Int.toNat v10) * 2) p1 e55 2 55 (Int.toNat v10) (0, 0) h26) (QJ.dn ⟨rfl, SJ.la⟩))))))
   refine TS.cd (.tmp 25) (!((o22.1 == o25.1) && ((o22.2 == o25.2) && true))) (fun hc27 => ?_) (fun hc27 => ?_)
   · replace hF := of_pos hF hc27
     refine TS.sq (TS.rg (TI.ra 1 [4] (st 26 [(4, .bool false)]) (TI.dn (NX.sq (TS.rt (NX.bkR (NX.sqR ?_)))))))
     have hF := Option.some.inj hF
     subst hF
     exact Rd.out (e := .ret) (by intro h; cases h) (And.intro rfl (Wk.an [] (.ac (.ac (.nil _))) [.bool false] (.fl .nil)))
   replace hF := of_neg hF hc27
   refine TS.sk (NX.bk (NX.sq (TS.rg (TI.ra 3 [0, 1, 5] (st 26 [(0, sv 0 p0.length ANY), (1, sv 1 p1.length ANY), (5, iv (w64 (v10 + 1)))]) (TI.dn ?_)))))
   exact Rd.again (a2 := (st 26 [(0, sv 0 p0.length ANY), (1, sv 1 p1.length ANY), (5, iv (w64 (v10 + 1)))])) (h2 := (H45_0 p0 p1)) (Wk.an [] (.ac (.ac (.nil _))) [sv 0 p0.length ANY, sv 1 p1.length ANY, iv (w64 (v10 + 1))] (.sl (.sl (.fl .nil)))) (ih (w64 (v10 + 1)) _ hF)
 replace hF := of_neg hF hc20
 refine TS.ex 0 (NX.sqX ?_)
 have hF := Option.some.inj hF
 subst hF
 exact Rd.out (e := .exit 0) (by intro h; cases h) (And.intro rfl (Wk.an [] (.ac (.ac (.nil _))) [] .nil))
theorem B45 (p0 : (List (Int × Int))) (p1 : (List (Int × Int))) (r : Bool) (hF : F45 p0 p1 = some r) : TS Try.prog 2 2 c45 (st 26 [(0, sv 0 p0.length ANY), (1, sv 1 p1.length ANY)]) (H45_0 p0 p1) (NX Try.prog 2 2 [] (FinP Try.prog Try.f45 2 (V45 2 r) (N45 2 r))) := by
 unfold F45 at hF
 refine TS.sq (TS.rg (TI.ra 1 [0, 1] (st 26 [(0, sv 0 p0.length ANY), (1, sv 1 p1.length ANY)]) (TI.dn (NX.sq (TS.sq (TS.sq (TS.rg (TI.ra 5 [0, 1, 10] (st 26 [(0, sv 0 p0.length ANY), (1, sv 1 p1.length ANY), (10, .bool ((p0.length : Int) != (p1.length : Int)))]) ?_))))))))
 refine TI.dn (NX.sq ?_)
 refine TS.cd (.tmp 10) ((p0.length : Int) != (p1.length : Int)) (fun hc1 => ?_) (fun hc1 => ?_)
 · replace hF := of_pos hF hc1
   refine TS.sq (TS.rg (TI.ra 1 [4] (st 26 [(4, .bool false)]) (TI.dn (NX.sq (TS.rt (NX.sqR ?_))))))
   have hF := Option.some.inj hF
   subst hF
   exact ⟨.inr rfl, rfl, .bool false, by kernel_rfl, WkV.flat0 (by kernel_rfl) (Nat.le_of_ble_eq_true rfl)⟩
 replace hF := of_neg hF hc1
 refine TS.sk (NX.sq (TS.sq (TS.sq (TS.rg (TI.ra 1 [0, 1, 5] (st 26 [(0, sv 0 p0.length ANY), (1, sv 1 p1.length ANY), (5, iv 0)]) (TI.dn (NX.sq (TS.bk 0 ?_))))))))
 have hX := of_do hF
 clear hF
 obtain ⟨r28, h29, hF⟩ := hX
 refine TS.lp (TL.weak (a2 := (st 26 [(0, sv 0 p0.length ANY), (1, sv 1 p1.length ANY), (5, iv 0)])) (h2 := (H45_0 p0 p1)) (Wk.an [] (.ac (.ac (.nil _))) [sv 0 p0.length ANY, sv 1 p1.length ANY, iv 0] (.sl (.sl (.fl .nil)))) (TL.post (L45l0 p0 p1 0 r28 h29) ?_))
 rintro e a1 h1 hp
 rcases r28 with o30 | o31
 · skip
   obtain ⟨rfl, hw⟩ := hp
   refine ⟨(st 26 [(4, .bool false)]), (H45_0 p0 p1), (NX.bkR (NX.sqR ?_)), hw⟩
   have hF := Option.some.inj hF
   subst hF
   exact ⟨.inr rfl, rfl, .bool false, by kernel_rfl, WkV.flat0 (by kernel_rfl) (Nat.le_of_ble_eq_true rfl)⟩
 skip
 obtain ⟨rfl, hw⟩ := hp
 refine ⟨(st 26 []), (H45_0 p0 p1), (NX.bkX (NX.sq (TS.sq (TS.rg (TI.ra 1 [4] (st 26 [(4, .bool true)]) (TI.dn (NX.sq (TS.rt ?_)))))))), hw⟩
 have hF := Option.some.inj hF
 subst hF
 exact ⟨.inr rfl, rfl, .bool true, by kernel_rfl, WkV.flat0 (by kernel_rfl) (Nat.le_of_ble_eq_true rfl)⟩
theorem C45 (p0 : (List (Int × Int))) (p1 : (List (Int × Int))) (r : Bool) (hF : F45 p0 p1 = some r) : PureSim Try.prog 45 [sv 0 p0.length ANY, sv 1 p1.length ANY] (H45_0 p0 p1) (V45 2 r) (N45 2 r) :=
 PureSim.of_Fin Try.func45 (c := c45) (by kernel_rfl) (by kernel_rfl) 2 rfl [0, 1] [0, 1] (by kernel_rfl) (B45 p0 p1 r hF)
end
end Go.Proofs.Ythpfffijnkmdgaa
