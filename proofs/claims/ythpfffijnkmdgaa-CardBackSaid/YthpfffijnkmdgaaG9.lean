/- What functions of the program compute, and that they do. -/
import Derived.Test.YthpfffijnkmdgaaCT
import Derived.Test.YthpfffijnkmdgaaGiven
set_option linter.unusedVariables false
set_option linter.unusedSimpArgs false
set_option maxRecDepth 100000
set_option maxHeartbeats 4000000
namespace Go.Proofs.Ythpfffijnkmdgaa
open Go Go.Cl
noncomputable section
noncomputable def c31 : Code := Try.f31.code
def H31_0 (p0 p1 : List I2) (r16 r12 r18 : I2) : List Blk := [cl 23 [sv 1 p0.length ANY, sv 2 p1.length ANY], ab 55 e55 p0, ab 55 e55 p1, cl 29 [iv 0, iv 0], cl 101 [iv r16.1, iv r16.2], .dead, .dead, .cells 101 (List.flatMap e101 ([(r12.1, r12.2)])), .dead, cl 101 [iv r18.1, iv r18.2], cl 101 [iv r18.1, iv r18.2]]
def H31_1 (p0 p1 : List I2) (r10 r12 : I2) : List Blk := [cl 23 [sv 1 p0.length ANY, sv 2 p1.length ANY], ab 55 e55 p0, ab 55 e55 p1, cl 29 [iv 0, iv 0], cl 101 [iv r10.1, iv r10.2], cl 101 [iv r12.1, iv r12.2], cl 101 [iv r12.1, iv r12.2]]
def H31_2 (p0 p1 : List I2) : List Blk := [cl 23 [sv 1 p0.length ANY, sv 2 p1.length ANY], ab 55 e55 p0, ab 55 e55 p1]
def F31 (p0 p1 : List I2) (p2 : Int) : Option (I2 × Int) :=
 F22 p0 >>= fun r1 =>
 if r1 != 0 then
  some ((0, 0), r1)
 else
  F22 p1 >>= fun r4 =>
  if r4 != 0 then
   some ((0, 0), r4)
  else
   F53 p2 >>= fun r7 =>
   if !r7 then
    some ((0, 0), 1)
   else
    F55 p2 >>= fun r10 =>
    F54 p0 r10.1 r10.2 >>= fun r12 =>
    F77 r10.1 r10.2 ([(r12.1, r12.2)]) >>= fun r14 =>
    F73 r14.1 r14.2 >>= fun r16 =>
    F54 p1 r16.1 r16.2 >>= fun r18 =>
    if List.length ([(r12.1, r12.2)]) ≤ 1000000000 then
     F77 r16.1 r16.2 ([(r18.1, r18.2)]) >>= fun r21 =>
     F73 r21.1 r21.2 >>= fun r23 =>
     F55 0 >>= fun r25 =>
     F77 r25.1 r25.2 (([(r12.1, r12.2)]) ++ [(r18.1, r18.2)]) >>= fun r27 =>
     F56 r27.1 r27.2 >>= fun r29 =>
     some ((r29.1, r29.2), 0)
    else none
def V31 (b : Nat) (r : I2 × Int) : Value := .tuple ⟨[ag [iv r.1.1, iv r.1.2], iv r.2]⟩
def N31 (b : Nat) (r : I2 × Int) : List Blk := []
theorem B31 (p0 p1 : List I2) (p2 : Int) (r : I2 × Int) (hF : F31 p0 p1 p2 = some r) : TS Try.prog 3 3 c31 (st 69 [(0, sv 0 2 2), (1, iv p2)]) (H31_2 p0 p1) (NX Try.prog 3 3 [] (FinP Try.prog Try.f31 3 (V31 3 r) (N31 3 r))) := by
 unfold F31 at hF
 refine TS.sq (TS.rg (TI.rn 2 [0, 1, 4] [0, 1, 2, 3] (st 69 [(0, sv 0 2 2), (1, iv p2), (4, pt 3 0)]) [cl 23 [sv 1 p0.length ANY, sv 2 p1.length ANY], ab 55 e55 p0, ab 55 e55 p1, cl 29 [iv 0, iv 0]] (TI.dn (NX.sq (TS.sq (TS.bk 0 (TS.sq (TS.rg ?_))))))))
 refine TI.ra 4 [0, 1, 4, 15] (st 69 [(0, sv 0 2 2), (1, iv p2), (4, pt 3 0), (15, .bool false)]) (TI.dn (NX.sq (TS.cdF (.tmp 15) (TS.sq (TS.rg (TI.ra 4 [0, 1, 4, 20] (st 69 [(0, sv 0 2 2), (1, iv p2), (4, pt 3 0), (20, .bool false)]) (TI.dn (NX.sq ?_))))))))
 refine TS.cdF (.tmp 20) (TS.sk (NX.bk (NX.sq (TS.sq (TS.sq (TS.rg (TI.ra 3 [0, 1, 4, 25, 26, 27] (st 69 [(0, sv 0 2 2), (1, iv p2), (4, pt 3 0), (25, sv 0 2 2), (26, iv 2), (27, iv 0)]) (TI.dn ?_))))))))
 refine NX.sq (TS.bk 1 (TS.lp (TL.round (TS.sq (TS.rg (TI.ra 1 [0, 1, 4, 25, 26, 27, 28] (st 69 [(0, sv 0 2 2), (1, iv p2), (4, pt 3 0), (25, sv 0 2 2), (26, iv 2), (27, iv 0), (28, .bool true)]) (TI.dn (NX.sq ?_))))))))
 refine TS.sq (TS.cdT (.tmp 28) (TS.sk (NX.sq (TS.sq (TS.bk 2 (TS.sq (TS.rg (TI.ra 3 [0, 1, 4, 7, 25, 26, 27] (st 69 [(0, sv 0 2 2), (1, iv p2), (4, pt 3 0), (7, sv 1 p0.length ANY), (25, sv 0 2 2), (26, iv 2), (27, iv 0)]) ?_))))))))
 refine TI.dn (NX.sq (TS.sq ?_))
 obtain ⟨r1, h2, hF⟩ := of_do hF
 refine TS.rg (TI.ra 1 [0, 1, 4, 25, 26, 27, 31] (st 69 [(0, sv 0 2 2), (1, iv p2), (4, pt 3 0), (25, sv 0 2 2), (26, iv 2), (27, iv 0), (31, sv 1 p0.length ANY)]) (TI.cp 22 [sv 1 p0.length ANY] (iv r1) [] (PureSim.ren (hc := [ab 55 e55 p0]) (fun i => List.getD [(1, 0)] i (0, 0)) (C22 _ _ h2) (.ac (.nil _)) (.cons (Rn.any _ _ _ _ _ _ (nl rfl) rfl rfl (by decide)) .nil) (.flat (by kernel_rfl)) newflat_nil) (TI.ra 1 [0, 1, 4, 8, 25, 26, 27] (st 69 [(0, sv 0 2 2), (1, iv p2), (4, pt 3 0), (8, iv r1), (25, sv 0 2 2), (26, iv 2), (27, iv 0)]) (TI.dn (NX.sq (TS.sq (TS.rg (TI.ra 2 [0, 1, 4, 8, 25, 26, 27, 34] (st 69 [(0, sv 0 2 2), (1, iv p2), (4, pt 3 0), (8, iv r1), (25, sv 0 2 2), (26, iv 2), (27, iv 0), (34, .bool (r1 != 0))]) ?_))))))))
 refine TI.dn (NX.sq ?_)
 refine TS.cd (.tmp 34) (r1 != 0) (fun hc3 => ?_) (fun hc3 => ?_)
 · replace hF := of_pos hF hc3
   refine TS.sq (TS.rg (TI.ra 4 [4, 5] (st 69 [(4, pt 3 0), (5, iv r1)]) (TI.dn (NX.sq (TS.rt (NX.bkR (NX.sqR ?_)))))))
   refine Rd.out (by simp) (NX.bkR (NX.sqR ?_))
   have hF := sj hF
   subst hF
   exact ⟨.inr rfl, rfl, .tuple ⟨[ag [iv 0, iv 0], iv r1]⟩, by kernel_rfl, WkV.flat0 (by kernel_rfl) (nl rfl)⟩
 replace hF := of_neg hF hc3
 refine TS.sk (NX.bk (NX.sq (TS.rg (TI.ra 2 [0, 1, 4, 25, 26, 27] (st 69 [(0, sv 0 2 2), (1, iv p2), (4, pt 3 0), (25, sv 0 2 2), (26, iv 2), (27, iv 1)]) (TI.dn ?_)))))
 refine Rd.again Wk.refl (TL.round (TS.sq (TS.rg (TI.ra 1 [0, 1, 4, 25, 26, 27, 28] (st 69 [(0, sv 0 2 2), (1, iv p2), (4, pt 3 0), (25, sv 0 2 2), (26, iv 2), (27, iv 1), (28, .bool true)]) (TI.dn (NX.sq (TS.sq (TS.cdT (.tmp 28) (TS.sk ?_)))))))))
 refine NX.sq (TS.sq (TS.bk 2 (TS.sq (TS.rg (TI.ra 3 [0, 1, 4, 7, 25, 26, 27] (st 69 [(0, sv 0 2 2), (1, iv p2), (4, pt 3 0), (7, sv 2 p1.length ANY), (25, sv 0 2 2), (26, iv 2), (27, iv 1)]) (TI.dn (NX.sq (TS.sq ?_))))))))
 obtain ⟨r4, h5, hF⟩ := of_do hF
 refine TS.rg (TI.ra 1 [0, 1, 4, 25, 26, 27, 31] (st 69 [(0, sv 0 2 2), (1, iv p2), (4, pt 3 0), (25, sv 0 2 2), (26, iv 2), (27, iv 1), (31, sv 2 p1.length ANY)]) (TI.cp 22 [sv 2 p1.length ANY] (iv r4) [] (PureSim.ren (hc := [ab 55 e55 p1]) (fun i => List.getD [(2, 0)] i (0, 0)) (C22 _ _ h5) (.ac (.nil _)) (.cons (Rn.any _ _ _ _ _ _ (nl rfl) rfl rfl (by decide)) .nil) (.flat (by kernel_rfl)) newflat_nil) (TI.ra 1 [0, 1, 4, 8, 25, 26, 27] (st 69 [(0, sv 0 2 2), (1, iv p2), (4, pt 3 0), (8, iv r4), (25, sv 0 2 2), (26, iv 2), (27, iv 1)]) (TI.dn (NX.sq (TS.sq (TS.rg (TI.ra 2 [0, 1, 4, 8, 25, 26, 27, 34] (st 69 [(0, sv 0 2 2), (1, iv p2), (4, pt 3 0), (8, iv r4), (25, sv 0 2 2), (26, iv 2), (27, iv 1), (34, .bool (r4 != 0))]) ?_))))))))
 refine TI.dn (NX.sq ?_)
 refine TS.cd (.tmp 34) (r4 != 0) (fun hc6 => ?_) (fun hc6 => ?_)
 · replace hF := of_pos hF hc6
   refine TS.sq (TS.rg (TI.ra 4 [4, 5] (st 69 [(4, pt 3 0), (5, iv r4)]) (TI.dn (NX.sq (TS.rt (NX.bkR (NX.sqR ?_)))))))
   refine Rd.out (by simp) (NX.bkR (NX.sqR ?_))
   have hF := sj hF
   subst hF
   exact ⟨.inr rfl, rfl, .tuple ⟨[ag [iv 0, iv 0], iv r4]⟩, by kernel_rfl, WkV.flat0 (by kernel_rfl) (nl rfl)⟩
 replace hF := of_neg hF hc6
 refine TS.sk (NX.bk (NX.sq (TS.rg (TI.ra 2 [0, 1, 4, 25, 26, 27] (st 69 [(0, sv 0 2 2), (1, iv p2), (4, pt 3 0), (25, sv 0 2 2), (26, iv 2), (27, iv 2)]) (TI.dn ?_)))))
 refine Rd.again Wk.refl (TL.round (TS.sq (TS.rg (TI.ra 1 [0, 1, 4, 25, 26, 27, 28] (st 69 [(0, sv 0 2 2), (1, iv p2), (4, pt 3 0), (25, sv 0 2 2), (26, iv 2), (27, iv 2), (28, .bool false)]) (TI.dn (NX.sq (TS.sq (TS.cdF (.tmp 28) (TS.ex 1 ?_)))))))))
 refine NX.sqX ?_
 refine Rd.out (by simp) (NX.bkX (NX.sq (TS.sq (TS.sq ?_))))
 obtain ⟨r7, h8, hF⟩ := of_do hF
 refine TS.rg (TI.ra 1 [0, 1, 4, 38] (st 69 [(0, sv 0 2 2), (1, iv p2), (4, pt 3 0), (38, iv p2)]) (TI.cf (C53 _ _ h8) (TI.ra 1 [0, 1, 4, 40] (st 69 [(0, sv 0 2 2), (1, iv p2), (4, pt 3 0), (40, .bool (!r7))]) (TI.dn (NX.sq ?_)))))
 refine TS.cd (.tmp 40) (!r7) (fun hc9 => ?_) (fun hc9 => ?_)
 · replace hF := of_pos hF hc9
   refine TS.sq (TS.rg (TI.ra 3 [4, 5] (st 69 [(4, pt 3 0), (5, iv 1)]) (TI.dn (NX.sq (TS.rt (NX.sqR ?_))))))
   have hF := sj hF
   subst hF
   exact ⟨.inr rfl, rfl, .tuple ⟨[ag [iv 0, iv 0], iv 1]⟩, by kernel_rfl, WkV.flat0 (by kernel_rfl) (nl rfl)⟩
 replace hF := of_neg hF hc9
 refine TS.sk (NX.sq (TS.sq ?_))
 obtain ⟨r10, h11, hF⟩ := of_do hF
 refine TS.rg (TI.ra 1 [0, 4, 42] (st 69 [(0, sv 0 2 2), (4, pt 3 0), (42, iv p2)]) (TI.cf (C55 _ _ h11) (TI.rn 2 [0, 4, 9] [0, 1, 2, 3, 4] (st 69 [(0, sv 0 2 2), (4, pt 3 0), (9, pt 4 0)]) [cl 23 [sv 1 p0.length ANY, sv 2 p1.length ANY], ab 55 e55 p0, ab 55 e55 p1, cl 29 [iv 0, iv 0], cl 101 [iv r10.1, iv r10.2]] (TI.dn (NX.sq (TS.sq (TS.rg (TI.ra 1 [0, 4, 9, 10] (st 69 [(0, sv 0 2 2), (4, pt 3 0), (9, pt 4 0), (10, .slice none 0 0)]) ?_))))))))
 refine TI.dn (NX.sq (TS.sq (TS.sq (TS.rg (TI.ra 3 [4, 9, 10, 44, 45, 46] (st 69 [(4, pt 3 0), (9, pt 4 0), (10, .slice none 0 0), (44, sv 0 2 2), (45, iv 2), (46, iv 0)]) (TI.dn (NX.sq (TS.bk 3 ?_))))))))
 refine TS.lp (TL.round (TS.sq (TS.rg (TI.ra 1 [4, 9, 10, 44, 45, 46, 47] (st 69 [(4, pt 3 0), (9, pt 4 0), (10, .slice none 0 0), (44, sv 0 2 2), (45, iv 2), (46, iv 0), (47, .bool true)]) (TI.dn (NX.sq (TS.sq (TS.cdT (.tmp 47) ?_))))))))
 refine TS.sk (NX.sq (TS.sq (TS.bk 4 (TS.sq (TS.rg (TI.ra 3 [4, 9, 10, 12, 44, 45, 46] (st 69 [(4, pt 3 0), (9, pt 4 0), (10, .slice none 0 0), (12, sv 1 p0.length ANY), (44, sv 0 2 2), (45, iv 2), (46, iv 0)]) (TI.dn (NX.sq ?_))))))))
 refine TS.sq (TS.rg (TI.ra 3 [4, 9, 10, 13, 44, 45, 46] (st 69 [(4, pt 3 0), (9, pt 4 0), (10, .slice none 0 0), (13, .func (.func 54) ⟨[sv 1 p0.length ANY]⟩ ⟨[]⟩), (44, sv 0 2 2), (45, iv 2), (46, iv 0)]) (TI.dn (NX.sq (TS.sq ?_)))))
 obtain ⟨r12, h13, hF⟩ := of_do hF
 refine TS.rg (TI.ra 2 [4, 9, 10, 44, 45, 46, 52, 53] (st 69 [(4, pt 3 0), (9, pt 4 0), (10, .slice none 0 0), (44, sv 0 2 2), (45, iv 2), (46, iv 0), (52, .func (.func 54) ⟨[sv 1 p0.length ANY]⟩ ⟨[]⟩), (53, ag [iv r10.1, iv r10.2])]) (TI.cp 54 [sv 1 p0.length ANY, ag [iv r10.1, iv r10.2]] (ag [iv r12.1, iv r12.2]) [] (PureSim.ren (hc := [ab 55 e55 p0]) (fun i => List.getD [(1, 0)] i (0, 0)) (C54 _ _ _ _ h13) (.ac (.nil _)) (.cons (Rn.any _ _ _ _ _ _ (nl rfl) rfl rfl (by decide)) (.fl .nil)) (.flat (by kernel_rfl)) newflat_nil) (TI.rn 2 [4, 9, 10, 14, 44, 45, 46] [0, 1, 2, 3, 4, 5] (st 69 [(4, pt 3 0), (9, pt 4 0), (10, .slice none 0 0), (14, pt 5 0), (44, sv 0 2 2), (45, iv 2), (46, iv 0)]) [cl 23 [sv 1 p0.length ANY, sv 2 p1.length ANY], ab 55 e55 p0, ab 55 e55 p1, cl 29 [iv 0, iv 0], cl 101 [iv r10.1, iv r10.2], cl 101 [iv r12.1, iv r12.2]] (TI.dn (NX.sq (TS.sq (TS.rg (TI.rn 3 [4, 9, 14, 44, 45, 46, 55, 57] [0, 1, 2, 3, 4, 5, 6] (st 69 [(4, pt 3 0), (9, pt 4 0), (14, pt 5 0), (44, sv 0 2 2), (45, iv 2), (46, iv 0), (55, .slice none 0 0), (57, sv 6 1 1)]) (H31_1 p0 p1 r10 r12) ?_))))))))
 refine TI.o { val := sv 7 (List.length [(r12.1, r12.2)]) UNK, new := [.cells 101 (List.flatMap e101 ([(r12.1, r12.2)]))] } (q_appN (P := Try.prog) (base := 3) (hp := (H31_1 p0 p1 r10 r12)) (n := 7) (ts := #[111, 111]) (e := 101) (bytes := 16) (z := ag [iv 0, iv 0]) (y := sv 6 1 1) (ys := [(r12.1, r12.2)]) (xs := List.flatMap e101 ([(r12.1, r12.2)])) (m := 1) (s := 2) (enc := e101) (by kernel_rfl) (by kernel_rfl) (by kernel_rfl) (by kernel_rfl) (by kernel_rfl) (by kernel_rfl) (by kernel_rfl) (by kernel_rfl) rfl rfl (by omega)) [4, 9, 14, 44, 45, 46, 58] [0, 1, 2, 3, 4, 5, 7] (st 69 [(4, pt 3 0), (9, pt 4 0), (14, pt 5 0), (44, sv 0 2 2), (45, iv 2), (46, iv 0), (58, sv 7 (List.length [(r12.1, r12.2)]) UNK)]) [cl 23 [sv 1 p0.length ANY, sv 2 p1.length ANY], ab 55 e55 p0, ab 55 e55 p1, cl 29 [iv 0, iv 0], cl 101 [iv r10.1, iv r10.2], cl 101 [iv r12.1, iv r12.2], .dead, .cells 101 (List.flatMap e101 ([(r12.1, r12.2)]))] (TI.ra 1 [4, 9, 10, 14, 44, 45, 46] (st 69 [(4, pt 3 0), (9, pt 4 0), (10, sv 7 (List.length [(r12.1, r12.2)]) UNK), (14, pt 5 0), (44, sv 0 2 2), (45, iv 2), (46, iv 0)]) (TI.dn (NX.sq ?_)))
 obtain ⟨r14, h15, hF⟩ := of_do hF
 obtain ⟨r16, h17, hF⟩ := of_do hF
 refine TS.rg (TI.rn 3 [4, 9, 10, 44, 45, 46, 59, 61] [0, 1, 2, 3, 4, 7, 8] (st 69 [(4, pt 3 0), (9, pt 4 0), (10, sv 7 (List.length [(r12.1, r12.2)]) UNK), (44, sv 0 2 2), (45, iv 2), (46, iv 0), (59, ag [iv r10.1, iv r10.2]), (61, sv 8 1 1)]) [cl 23 [sv 1 p0.length ANY, sv 2 p1.length ANY], ab 55 e55 p0, ab 55 e55 p1, cl 29 [iv 0, iv 0], cl 101 [iv r10.1, iv r10.2], .dead, .dead, .cells 101 (List.flatMap e101 ([(r12.1, r12.2)])), cl 101 [iv r12.1, iv r12.2]] (TI.callM (g := 77) (args := [ag [iv r10.1, iv r10.2], sv 8 1 1]) (v := ag [iv r14.1, iv r14.2]) (new := []) (by kernel_rfl) (PureSim.ren (hc := [accB 101 (List.length ([(r12.1, r12.2)])) (List.flatMap e101 ([(r12.1, r12.2)]))]) (fun i => List.getD [(8, 0)] i (0, 0)) (C77 _ _ _ _ h15) (.cons (At.accU (by kernel_rfl) rfl (fun _ => rfl)) (.nil _)) (.fl (.cons (Rn.any _ _ _ _ _ _ (nl rfl) rfl rfl (by decide)) .nil)) (.flat (by kernel_rfl)) newflat_nil) [4, 9, 10, 44, 45, 46, 62] [0, 1, 2, 3, 4, 7] (a2 := (st 69 [(4, pt 3 0), (9, pt 4 0), (10, sv 7 (List.length [(r12.1, r12.2)]) UNK), (44, sv 0 2 2), (45, iv 2), (46, iv 0), (62, ag [iv r14.1, iv r14.2])])) (h2 := [cl 23 [sv 1 p0.length ANY, sv 2 p1.length ANY], ab 55 e55 p0, ab 55 e55 p1, cl 29 [iv 0, iv 0], cl 101 [iv r10.1, iv r10.2], .dead, .dead, .cells 101 (List.flatMap e101 ([(r12.1, r12.2)])), .dead]) (by kernel_rfl) (TI.cf (C73 _ _ _ h17) (TI.rn 1 [4, 9, 10, 44, 45, 46] [0, 1, 2, 3, 4, 7] (st 69 [(4, pt 3 0), (9, pt 4 0), (10, sv 7 (List.length [(r12.1, r12.2)]) UNK), (44, sv 0 2 2), (45, iv 2), (46, iv 0)]) [cl 23 [sv 1 p0.length ANY, sv 2 p1.length ANY], ab 55 e55 p0, ab 55 e55 p1, cl 29 [iv 0, iv 0], cl 101 [iv r16.1, iv r16.2], .dead, .dead, .cells 101 (List.flatMap e101 ([(r12.1, r12.2)])), .dead] (TI.dn (NX.bk (NX.sq (TS.rg ?_))))))))
 refine TI.ra 2 [4, 9, 10, 44, 45, 46] (st 69 [(4, pt 3 0), (9, pt 4 0), (10, sv 7 (List.length [(r12.1, r12.2)]) UNK), (44, sv 0 2 2), (45, iv 2), (46, iv 1)]) (TI.dn ?_)
 refine Rd.again Wk.refl (TL.round (TS.sq (TS.rg (TI.ra 1 [4, 9, 10, 44, 45, 46, 47] (st 69 [(4, pt 3 0), (9, pt 4 0), (10, sv 7 (List.length [(r12.1, r12.2)]) UNK), (44, sv 0 2 2), (45, iv 2), (46, iv 1), (47, .bool true)]) (TI.dn (NX.sq (TS.sq (TS.cdT (.tmp 47) (TS.sk ?_)))))))))
 refine NX.sq (TS.sq (TS.bk 4 (TS.sq (TS.rg (TI.ra 3 [4, 9, 10, 12, 44, 45, 46] (st 69 [(4, pt 3 0), (9, pt 4 0), (10, sv 7 (List.length [(r12.1, r12.2)]) UNK), (12, sv 2 p1.length ANY), (44, sv 0 2 2), (45, iv 2), (46, iv 1)]) (TI.dn (NX.sq (TS.sq ?_))))))))
 refine TS.rg (TI.ra 3 [4, 9, 10, 13, 44, 45, 46] (st 69 [(4, pt 3 0), (9, pt 4 0), (10, sv 7 (List.length [(r12.1, r12.2)]) UNK), (13, .func (.func 54) ⟨[sv 2 p1.length ANY]⟩ ⟨[]⟩), (44, sv 0 2 2), (45, iv 2), (46, iv 1)]) (TI.dn (NX.sq (TS.sq ?_))))
 obtain ⟨r18, h19, hF⟩ := of_do hF
 refine TS.rg (TI.ra 2 [4, 9, 10, 44, 45, 46, 52, 53] (st 69 [(4, pt 3 0), (9, pt 4 0), (10, sv 7 (List.length [(r12.1, r12.2)]) UNK), (44, sv 0 2 2), (45, iv 2), (46, iv 1), (52, .func (.func 54) ⟨[sv 2 p1.length ANY]⟩ ⟨[]⟩), (53, ag [iv r16.1, iv r16.2])]) (TI.cp 54 [sv 2 p1.length ANY, ag [iv r16.1, iv r16.2]] (ag [iv r18.1, iv r18.2]) [] (PureSim.ren (hc := [ab 55 e55 p1]) (fun i => List.getD [(2, 0)] i (0, 0)) (C54 _ _ _ _ h19) (.ac (.nil _)) (.cons (Rn.any _ _ _ _ _ _ (nl rfl) rfl rfl (by decide)) (.fl .nil)) (.flat (by kernel_rfl)) newflat_nil) (TI.rn 2 [4, 9, 10, 14, 44, 45, 46] [0, 1, 2, 3, 4, 7, 9] (st 69 [(4, pt 3 0), (9, pt 4 0), (10, sv 7 (List.length [(r12.1, r12.2)]) UNK), (14, pt 9 0), (44, sv 0 2 2), (45, iv 2), (46, iv 1)]) [cl 23 [sv 1 p0.length ANY, sv 2 p1.length ANY], ab 55 e55 p0, ab 55 e55 p1, cl 29 [iv 0, iv 0], cl 101 [iv r16.1, iv r16.2], .dead, .dead, .cells 101 (List.flatMap e101 ([(r12.1, r12.2)])), .dead, cl 101 [iv r18.1, iv r18.2]] (TI.dn (NX.sq (TS.sq ?_))))))
 obtain ⟨hg20, hF⟩ := of_guard hF
 refine TS.rg (TI.rn 3 [4, 9, 14, 44, 45, 46, 55, 57] [0, 1, 2, 3, 4, 7, 9, 10] (st 69 [(4, pt 3 0), (9, pt 4 0), (14, pt 9 0), (44, sv 0 2 2), (45, iv 2), (46, iv 1), (55, sv 7 (List.length [(r12.1, r12.2)]) UNK), (57, sv 10 1 1)]) (H31_0 p0 p1 r16 r12 r18) (TI.o { val := sv 11 (List.length (([(r12.1, r12.2)]) ++ [(r18.1, r18.2)])) UNK, new := [.cells 101 (List.flatMap e101 (([(r12.1, r12.2)]) ++ [(r18.1, r18.2)]))], upd := some (7, .dead) } (q_appU (P := Try.prog) (base := 3) (hp := (H31_0 p0 p1 r16 r12 r18)) (n := 11) (l := [(r12.1, r12.2)]) (b := 7) (ts := #[111, 111]) (e := 101) (bytes := 16) (z := ag [iv 0, iv 0]) (y := sv 10 1 1) (ys := [(r18.1, r18.2)]) (xs := List.flatMap e101 ([(r18.1, r18.2)])) (m := 1) (s := 2) (enc := e101) (by kernel_rfl) (by kernel_rfl) (by decide) (by kernel_rfl) (by kernel_rfl) (by kernel_rfl) (by kernel_rfl) (by kernel_rfl) (by kernel_rfl) (by kernel_rfl) (by kernel_rfl) (fun _ => rfl) rfl rfl (by omega)) [4, 9, 14, 44, 45, 46, 58] [0, 1, 2, 3, 4, 9, 11] (st 69 [(4, pt 3 0), (9, pt 4 0), (14, pt 9 0), (44, sv 0 2 2), (45, iv 2), (46, iv 1), (58, sv 11 (List.length (([(r12.1, r12.2)]) ++ [(r18.1, r18.2)])) UNK)]) [cl 23 [sv 1 p0.length ANY, sv 2 p1.length ANY], ab 55 e55 p0, ab 55 e55 p1, cl 29 [iv 0, iv 0], cl 101 [iv r16.1, iv r16.2], .dead, .dead, .dead, .dead, cl 101 [iv r18.1, iv r18.2], .dead, .cells 101 (List.flatMap e101 (([(r12.1, r12.2)]) ++ [(r18.1, r18.2)]))] (TI.ra 1 [4, 9, 10, 14, 44, 45, 46] (st 69 [(4, pt 3 0), (9, pt 4 0), (10, sv 11 (List.length (([(r12.1, r12.2)]) ++ [(r18.1, r18.2)])) UNK), (14, pt 9 0), (44, sv 0 2 2), (45, iv 2), (46, iv 1)]) (TI.dn (NX.sq ?_)))))
 obtain ⟨r21, h22, hF⟩ := of_do hF
 obtain ⟨r23, h24, hF⟩ := of_do hF
 refine TS.rg (TI.rn 3 [4, 9, 10, 44, 45, 46, 59, 61] [0, 1, 2, 3, 4, 11, 12] (st 69 [(4, pt 3 0), (9, pt 4 0), (10, sv 11 (List.length (([(r12.1, r12.2)]) ++ [(r18.1, r18.2)])) UNK), (44, sv 0 2 2), (45, iv 2), (46, iv 1), (59, ag [iv r16.1, iv r16.2]), (61, sv 12 1 1)]) [cl 23 [sv 1 p0.length ANY, sv 2 p1.length ANY], ab 55 e55 p0, ab 55 e55 p1, cl 29 [iv 0, iv 0], cl 101 [iv r16.1, iv r16.2], .dead, .dead, .dead, .dead, .dead, .dead, .cells 101 (List.flatMap e101 (([(r12.1, r12.2)]) ++ [(r18.1, r18.2)])), cl 101 [iv r18.1, iv r18.2]] (TI.callM (g := 77) (args := [ag [iv r16.1, iv r16.2], sv 12 1 1]) (v := ag [iv r21.1, iv r21.2]) (new := []) (by kernel_rfl) (PureSim.ren (hc := [accB 101 (List.length ([(r18.1, r18.2)])) (List.flatMap e101 ([(r18.1, r18.2)]))]) (fun i => List.getD [(12, 0)] i (0, 0)) (C77 _ _ _ _ h22) (.cons (At.accU (by kernel_rfl) rfl (fun _ => rfl)) (.nil _)) (.fl (.cons (Rn.any _ _ _ _ _ _ (nl rfl) rfl rfl (by decide)) .nil)) (.flat (by kernel_rfl)) newflat_nil) [4, 9, 10, 44, 45, 46, 62] [0, 1, 2, 3, 4, 11] (a2 := (st 69 [(4, pt 3 0), (9, pt 4 0), (10, sv 11 (List.length (([(r12.1, r12.2)]) ++ [(r18.1, r18.2)])) UNK), (44, sv 0 2 2), (45, iv 2), (46, iv 1), (62, ag [iv r21.1, iv r21.2])])) (h2 := [cl 23 [sv 1 p0.length ANY, sv 2 p1.length ANY], ab 55 e55 p0, ab 55 e55 p1, cl 29 [iv 0, iv 0], cl 101 [iv r16.1, iv r16.2], .dead, .dead, .dead, .dead, .dead, .dead, .cells 101 (List.flatMap e101 (([(r12.1, r12.2)]) ++ [(r18.1, r18.2)])), .dead]) (by kernel_rfl) (TI.cf (C73 _ _ _ h24) (TI.rn 1 [4, 9, 10, 44, 45, 46] [0, 1, 2, 3, 4, 11] (st 69 [(4, pt 3 0), (9, pt 4 0), (10, sv 11 (List.length (([(r12.1, r12.2)]) ++ [(r18.1, r18.2)])) UNK), (44, sv 0 2 2), (45, iv 2), (46, iv 1)]) [cl 23 [sv 1 p0.length ANY, sv 2 p1.length ANY], ab 55 e55 p0, ab 55 e55 p1, cl 29 [iv 0, iv 0], cl 101 [iv r23.1, iv r23.2], .dead, .dead, .dead, .dead, .dead, .dead, .cells 101 (List.flatMap e101 (([(r12.1, r12.2)]) ++ [(r18.1, r18.2)])), .dead] (TI.dn (NX.bk (NX.sq (TS.rg ?_))))))))
 refine TI.ra 2 [4, 9, 10, 44, 45, 46] (st 69 [(4, pt 3 0), (9, pt 4 0), (10, sv 11 (List.length (([(r12.1, r12.2)]) ++ [(r18.1, r18.2)])) UNK), (44, sv 0 2 2), (45, iv 2), (46, iv 2)]) (TI.dn ?_)
 refine Rd.again Wk.refl (TL.round (TS.sq (TS.rg (TI.ra 1 [4, 9, 10, 44, 45, 46, 47] (st 69 [(4, pt 3 0), (9, pt 4 0), (10, sv 11 (List.length (([(r12.1, r12.2)]) ++ [(r18.1, r18.2)])) UNK), (44, sv 0 2 2), (45, iv 2), (46, iv 2), (47, .bool false)]) (TI.dn (NX.sq (TS.sq (TS.cdF (.tmp 47) (TS.ex 3 ?_)))))))))
 refine NX.sqX ?_
 refine Rd.out (by simp) (NX.bkX (NX.sq (TS.sq ?_)))
 obtain ⟨r25, h26, hF⟩ := of_do hF
 obtain ⟨r27, h28, hF⟩ := of_do hF
 obtain ⟨r29, h30, hF⟩ := of_do hF
 refine TS.rg (TI.cf (C55 _ _ h26) (TI.rn 1 [4, 65, 66] [0, 1, 2, 3, 11] (st 69 [(4, pt 3 0), (65, ag [iv r25.1, iv r25.2]), (66, sv 11 (List.length (([(r12.1, r12.2)]) ++ [(r18.1, r18.2)])) UNK)]) [cl 23 [sv 1 p0.length ANY, sv 2 p1.length ANY], ab 55 e55 p0, ab 55 e55 p1, cl 29 [iv 0, iv 0], .dead, .dead, .dead, .dead, .dead, .dead, .dead, .cells 101 (List.flatMap e101 (([(r12.1, r12.2)]) ++ [(r18.1, r18.2)])), .dead] (TI.callM (g := 77) (args := [ag [iv r25.1, iv r25.2], sv 11 (List.length (([(r12.1, r12.2)]) ++ [(r18.1, r18.2)])) UNK]) (v := ag [iv r27.1, iv r27.2]) (new := []) (by kernel_rfl) (PureSim.ren (hc := [accB 101 (List.length (([(r12.1, r12.2)]) ++ [(r18.1, r18.2)])) (List.flatMap e101 (([(r12.1, r12.2)]) ++ [(r18.1, r18.2)]))]) (fun i => List.getD [(11, 0)] i (0, 0)) (C77 _ _ _ _ h28) (.cons (At.accU (by kernel_rfl) rfl (fun _ => rfl)) (.nil _)) (.fl (.cons (Rn.any _ _ _ _ _ _ (nl rfl) rfl rfl (by decide)) .nil)) (.flat (by kernel_rfl)) newflat_nil) [4, 67] [0, 1, 2, 3] (a2 := (st 69 [(4, pt 3 0), (67, ag [iv r27.1, iv r27.2])])) (h2 := [cl 23 [sv 1 p0.length ANY, sv 2 p1.length ANY], ab 55 e55 p0, ab 55 e55 p1, cl 29 [iv 0, iv 0], .dead, .dead, .dead, .dead, .dead, .dead, .dead, .dead, .dead]) (by kernel_rfl) (TI.cf (C56 _ _ _ h30) (TI.rn 2 [4, 5] [0, 1, 2, 3] (st 69 [(4, pt 3 0), (5, iv 0)]) [cl 23 [sv 1 p0.length ANY, sv 2 p1.length ANY], ab 55 e55 p0, ab 55 e55 p1, cl 29 [iv r29.1, iv r29.2], .dead, .dead, .dead, .dead, .dead, .dead, .dead, .dead, .dead] (TI.dn (NX.sq (TS.rt ?_))))))))
 have hF := sj hF
 subst hF
 exact ⟨.inr rfl, rfl, .tuple ⟨[ag [iv r29.1, iv r29.2], iv 0]⟩, by kernel_rfl, WkV.flat0 (by kernel_rfl) (nl rfl)⟩
theorem C31 (p0 p1 : List I2) (p2 : Int) (r : I2 × Int) (hF : F31 p0 p1 p2 = some r) : PureSim Try.prog 31 [sv 0 2 2, iv p2] (H31_2 p0 p1) (V31 3 r) (N31 3 r) :=
 PureSim.of_Fin Try.func31 (c := c31) (by kernel_rfl) (by kernel_rfl) 3 rfl [0, 1] [0, 1, 2] (by kernel_rfl) (B31 p0 p1 p2 r hF)
noncomputable def c9 : Code := Try.f9.code
def S9_0 (r1 : List I2) (r25 r27 r29 r31 : I2 × Int) (r33 : (List I2) × Int) (r40 : I2) : CAct := (st 154 [(5, accV 3 r1.length), (7, iv r25.2), (12, pt 6 0), (13, pt 8 0), (14, iv r27.2), (15, pt 9 0), (16, iv r29.2), (17, pt 10 0), (18, iv r31.2), (19, accV 11 r33.1.length), (20, iv r33.2), (110, iv r25.2), (111, .bool false), (112, .bool false), (113, iv r27.2), (114, .bool false), (115, .bool false), (116, .bool false), (117, iv r29.2), (118, .bool false), (119, .bool false), (120, .bool false), (121, iv r31.2), (122, .bool false), (123, .bool false), (124, .bool false), (125, iv r33.2), (126, .bool false), (127, .bool false), (128, .bool false), (129, ag [iv r25.1.1, iv r25.1.2]), (130, ag [iv r40.1, iv r40.2]), (131, .bool false), (132, .bool false), (133, .bool false), (134, ag [iv r27.1.1, iv r27.1.2]), (135, ag [iv r25.1.1, iv r25.1.2])])
def S9_1 (r1 : List I2) (r25 r27 r29 r31 : I2 × Int) (r33 : (List I2) × Int) : CAct := (st 154 [(5, accV 3 r1.length), (7, iv r25.2), (12, pt 6 0), (13, pt 8 0), (14, iv r27.2), (15, pt 9 0), (16, iv r29.2), (17, pt 10 0), (18, iv r31.2), (19, accV 11 r33.1.length), (20, iv r33.2), (110, iv r25.2), (111, .bool false), (112, .bool false), (113, iv r27.2), (114, .bool false), (115, .bool false), (116, .bool false), (117, iv r29.2), (118, .bool false), (119, .bool false), (120, .bool false), (121, iv r31.2), (122, .bool false), (123, .bool false), (124, .bool false), (125, iv r33.2), (126, .bool false), (127, .bool false), (128, .bool false), (129, ag [iv r25.1.1, iv r25.1.2])])
def S9_2 (r1 : List I2) (r25 r27 r29 r31 : I2 × Int) (r33 : (List I2) × Int) : CAct := (st 154 [(5, accV 3 r1.length), (7, iv r25.2), (12, pt 6 0), (13, pt 8 0), (14, iv r27.2), (15, pt 9 0), (16, iv r29.2), (17, pt 10 0), (18, iv r31.2), (19, accV 11 r33.1.length), (20, iv r33.2), (110, iv r25.2), (111, .bool false), (112, .bool false), (113, iv r27.2), (114, .bool false), (115, .bool false), (116, .bool false), (117, iv r29.2), (118, .bool false), (119, .bool false), (120, .bool false), (121, iv r31.2), (122, .bool false), (123, .bool false), (124, .bool false), (125, iv r33.2)])
def S9_3 (r1 : List I2) (r25 r27 r29 r31 : I2 × Int) (r33 : (List I2) × Int) : CAct := (st 154 [(5, accV 3 r1.length), (7, iv r25.2), (12, pt 6 0), (13, pt 8 0), (14, iv r27.2), (15, pt 9 0), (16, iv r29.2), (17, pt 10 0), (18, iv r31.2), (19, accV 11 r33.1.length), (20, iv r33.2), (110, iv r25.2), (111, .bool false), (112, .bool false), (113, iv r27.2), (114, .bool false), (115, .bool false), (116, .bool false), (117, iv r29.2), (118, .bool false), (119, .bool false), (120, .bool false), (121, iv r31.2)])
def S9_4 (r1 : List I2) (r25 r27 r29 r31 : I2 × Int) (r33 : (List I2) × Int) : CAct := (st 154 [(5, accV 3 r1.length), (7, iv r25.2), (12, pt 6 0), (13, pt 8 0), (14, iv r27.2), (15, pt 9 0), (16, iv r29.2), (17, pt 10 0), (18, iv r31.2), (19, accV 11 r33.1.length), (20, iv r33.2), (110, iv r25.2), (111, .bool false), (112, .bool false), (113, iv r27.2), (114, .bool false), (115, .bool false), (116, .bool false), (117, iv r29.2)])
def H9_5 (p0 r1 : List I2) (r25 r27 r29 r31 : I2 × Int) (r33 : (List I2) × Int) : List Blk := [ab 81 e81 p0, .dead, .dead, ab 55 e55 r1, .dead, .dead, cl 29 [iv r25.1.1, iv r25.1.2], .dead, cl 29 [iv r27.1.1, iv r27.1.2], cl 29 [iv r29.1.1, iv r29.1.2], cl 29 [iv r31.1.1, iv r31.1.2], ab 55 e55 r33.1]
def S9_6 (r1 : List I2) (r25 r27 r29 r31 : I2 × Int) (r33 : (List I2) × Int) : CAct := (st 154 [(5, accV 3 r1.length), (7, iv r25.2), (12, pt 6 0), (13, pt 8 0), (14, iv r27.2), (15, pt 9 0), (16, iv r29.2), (17, pt 10 0), (18, iv r31.2), (19, accV 11 r33.1.length), (20, iv r33.2), (110, iv r25.2), (111, .bool false), (112, .bool false), (113, iv r27.2)])
def S9_7 (r1 : List I2) (r25 r27 r29 r31 : I2 × Int) (r33 : (List I2) × Int) : CAct := (st 154 [(5, accV 3 r1.length), (7, iv r25.2), (12, pt 6 0), (13, pt 8 0), (14, iv r27.2), (15, pt 9 0), (16, iv r29.2), (17, pt 10 0), (18, iv r31.2), (19, accV 11 r33.1.length), (20, iv r33.2), (110, iv r25.2)])
def H9_8 (p0 r1 : List I2) (r33 : (List I2) × Int) : List Blk := [ab 81 e81 p0, .dead, .dead, ab 55 e55 r1, .dead, .dead, .dead, .dead, .dead, .dead, .dead, ab 55 e55 r33.1]
def H9_9 (p0 : List I2) (p2 p3 : Int) (r1 : List I2) (r3 : (List I2) × Int) : List Blk := [ab 81 e81 p0, .dead, cl 81 [.int .u16 p2, .int .u16 p3], ab 55 e55 r1, ab 55 e55 r3.1]
def S9_10 (r1 : List I2) (r3 : (List I2) × Int) : CAct := (st 154 [(3, pt 2 0), (5, accV 3 r1.length), (6, accV 4 r3.1.length), (57, .bool false), (59, iv (r3.1.length : Int)), (61, iv (r1.length : Int))])
def S9_11 (r1 : List I2) (r3 : (List I2) × Int) : CAct := (st 154 [(3, pt 2 0), (5, accV 3 r1.length), (6, accV 4 r3.1.length), (52, .bool false), (53, accV 4 r3.1.length)])
def H9_12 (p0 : List I2) (r3 : (List I2) × Int) : List Blk := [ab 81 e81 p0, .dead, .dead, .dead, ab 55 e55 r3.1, .dead]
def H9_13 (p0 : List I2) : List Blk := [ab 81 e81 p0, .dead, .dead, .dead, .dead, .dead, .dead, .dead, .dead, .dead, .dead, .dead]
def S9_14 (r1 : List I2) (r3 : (List I2) × Int) (r18 : Int) : CAct := (st 154 [(3, pt 2 0), (5, accV 3 r1.length), (6, accV 4 r3.1.length), (52, .bool false), (54, iv r18)])
def S9_15 (r1 : List I2) (r3 : (List I2) × Int) : CAct := (st 154 [(3, pt 2 0), (5, accV 3 r1.length), (6, accV 4 r3.1.length), (51, .bool false)])
def S9_16 (r1 : List I2) (r3 : (List I2) × Int) : CAct := (st 154 [(3, pt 2 0), (5, accV 3 r1.length), (6, accV 4 r3.1.length), (68, .bool true)])
def S9_17 (r1 : List I2) (r3 : (List I2) × Int) : CAct := (st 154 [(3, pt 2 0), (5, accV 3 r1.length), (6, accV 4 r3.1.length), (50, iv r3.2)])
def S9_18 (r1 : List I2) (r33 : (List I2) × Int) : CAct := (st 154 [(5, accV 3 r1.length), (19, accV 11 r33.1.length), (147, .bool true)])
def H9_19 (p0 : List I2) : List Blk := [ab 81 e81 p0, .dead, .dead, .dead, .dead, .dead]
def S9_20 (r3 : (List I2) × Int) (r8 : I2 × Int) : CAct := (st 154 [(6, accV 4 r3.1.length), (9, iv r8.2), (36, iv r3.2)])
def F9 (p0 : List I2) (p1 p2 p3 : Int) : Option Bool :=
 F38 p0 p1 >>= fun r1 =>
 F29 r1 >>= fun r3 =>
 F43 r1 >>= fun r5 =>
 if !r5 then
  F26 r1 0 >>= fun r8 =>
  (
   if r3.2 == 21 then
    if r8.2 == 21 then
     if (r3.1.length : Int) == 0 then
      F15 >>= fun r13 =>
      some (r13)
     else
      some (false)
    else
     some (false)
   else
    some (false)
  : Option Bool) >>= fun m15 =>
  some m15
 else
  (
   if r3.2 != 0 then
    some (true)
   else
    F22 r3.1 >>= fun r18 =>
    if r18 != 0 then
     some (true)
    else
     if (r3.1.length : Int) != (r1.length : Int) then
      some (true)
     else
      F43 r3.1 >>= fun r22 =>
      some (!r22)
  : Option Bool) >>= fun m24 =>
  if m24 then
   some false
  else
   F31 r1 r3.1 (Int.tmod (w64 p2) 3600) >>= fun r25 =>
   F31 r3.1 r1 (Int.tmod (w64 p3) 3600) >>= fun r27 =>
   F26 r1 (Int.tmod (w64 p3) 3600) >>= fun r29 =>
   F17 r3.1 (Int.tmod (w64 p3) 3600) >>= fun r31 =>
   F29 r3.1 >>= fun r33 =>
   (
    if r25.2 != 0 then
     some (true)
    else
     if r27.2 != 0 then
      some (true)
     else
      if r29.2 != 0 then
       some (true)
      else
       if r31.2 != 0 then
        some (true)
       else
        if r33.2 != 0 then
         some (true)
        else
         F44 0 1 >>= fun r40 =>
         if !((r25.1.1 == r40.1) && ((r25.1.2 == r40.2) && true)) then
          some (true)
         else
          if !((r27.1.1 == r25.1.1) && ((r27.1.2 == r25.1.2) && true)) then
           some (true)
          else
           F44 (w64 (0 - r31.1.1)) r31.1.2 >>= fun r44 =>
           some (!((r29.1.1 == r44.1) && ((r29.1.2 == r44.2) && true)))
   : Option Bool) >>= fun m46 =>
   if m46 then
    some false
   else
    F45 r33.1 r1 >>= fun r47 =>
    (
     if r47 then
      F15 >>= fun r49 =>
      some (r49)
     else
      some (false)
    : Option Bool) >>= fun m51 =>
    some m51
def V9 (b : Nat) (r : Bool) : Value := .bool r
def N9 (b : Nat) (r : Bool) : List Blk := []
theorem B9 (p0 : List I2) (p1 p2 p3 : Int) (r : Bool) (hF : F9 p0 p1 p2 p3 = some r) : TS Try.prog 1 1 c9 (st 154 [(0, ag [sv 0 p0.length ANY, .int .u8 p1]), (1, ag [.int .u16 p2, .int .u16 p3])]) [ab 81 e81 p0] (NX Try.prog 1 1 [] (FinP Try.prog Try.f9 1 (V9 1 r) (N9 1 r))) := by
 unfold F9 at hF
 refine TS.sq (TS.rg (TI.rn 3 [2, 3] [0, 1, 2] (st 154 [(2, pt 1 0), (3, pt 2 0)]) [ab 81 e81 p0, cl 72 [sv 0 p0.length ANY, .int .u8 p1], cl 81 [.int .u16 p2, .int .u16 p3]] (TI.dn (NX.sq (TS.sq ?_)))))
 obtain ⟨r1, h2, hF⟩ := of_do hF
 refine TS.rg (TI.rn 1 [3, 21] [0, 2] (st 154 [(3, pt 2 0), (21, ag [sv 0 p0.length ANY, .int .u8 p1])]) [ab 81 e81 p0, .dead, cl 81 [.int .u16 p2, .int .u16 p3]] (TI.cp 38 [ag [sv 0 p0.length ANY, .int .u8 p1]] (accV 3 r1.length) [ab 55 e55 r1] (PureSim.ren (hc := [ab 81 e81 p0]) (fun i => List.getD [(0, 0)] i (0, 0)) (C38 _ _ _ h2) (.ac (.nil _)) (.cons (Rn.agg' (.cons (Rn.any _ _ _ _ _ _ (nl rfl) rfl rfl (by decide)) (.fl .nil))) .nil) (Rn.acc (i' := 3) (nl rfl) rfl) (newflat_cons (accB_flat (fun _ => rfl)) newflat_nil)) (TI.rn 1 [3, 5] [0, 2, 3] (st 154 [(3, pt 2 0), (5, accV 3 r1.length)]) [ab 81 e81 p0, .dead, cl 81 [.int .u16 p2, .int .u16 p3], ab 55 e55 r1] (TI.dn (NX.sq (TS.sq ?_))))))
 obtain ⟨r3, h4, hF⟩ := of_do hF
 refine TS.rg (TI.ra 1 [3, 5, 24] (st 154 [(3, pt 2 0), (5, accV 3 r1.length), (24, accV 3 r1.length)]) (TI.cp 29 [accV 3 r1.length] (.tuple ⟨[accV 4 r3.1.length, iv r3.2]⟩) [ab 55 e55 r3.1] (PureSim.ren (hc := [ab 55 e55 r1]) (fun i => List.getD [(3, 0)] i (0, 0)) (C29 _ _ h4) (.ac (.nil _)) (.cons (Rn.accA (i' := 3) (nl rfl) rfl) .nil) (Rn.tuple' (.cons (Rn.acc (i' := 4) (nl rfl) rfl) (.fl .nil))) (newflat_cons (accB_flat (fun _ => rfl)) newflat_nil)) (TI.rn 5 [3, 5, 6, 7] [0, 2, 3, 4] (st 154 [(3, pt 2 0), (5, accV 3 r1.length), (6, accV 4 r3.1.length), (7, iv r3.2)]) (H9_9 p0 p2 p3 r1 r3) (TI.dn (NX.sq (TS.sq (TS.sq ?_)))))))
 obtain ⟨r5, h6, hF⟩ := of_do hF
 refine TS.rg (TI.ra 1 [3, 5, 6, 7, 28] (st 154 [(3, pt 2 0), (5, accV 3 r1.length), (6, accV 4 r3.1.length), (7, iv r3.2), (28, accV 3 r1.length)]) (TI.cp 43 [accV 3 r1.length] (.bool r5) [] (PureSim.ren (hc := [ab 55 e55 r1]) (fun i => List.getD [(3, 0)] i (0, 0)) (C43 _ _ h6) (.ac (.nil _)) (.cons (Rn.accA (i' := 3) (nl rfl) rfl) .nil) (.flat (by kernel_rfl)) newflat_nil) (TI.ra 1 [3, 5, 6, 7, 30] (st 154 [(3, pt 2 0), (5, accV 3 r1.length), (6, accV 4 r3.1.length), (7, iv r3.2), (30, .bool (!r5))]) (TI.dn (NX.sq ?_)))))
 refine TS.cd (.tmp 30) (!r5) (fun hc7 => ?_) (fun hc7 => ?_)
 · replace hF := of_pos hF hc7
   refine TS.sq ?_
   obtain ⟨r8, h9, hF⟩ := of_do hF
   refine TS.rg (TI.rn 1 [6, 7, 32] [0, 3, 4] (st 154 [(6, accV 4 r3.1.length), (7, iv r3.2), (32, accV 3 r1.length)]) [ab 81 e81 p0, .dead, .dead, ab 55 e55 r1, ab 55 e55 r3.1] (TI.cp 26 [accV 3 r1.length, iv 0] (.tuple ⟨[ag [iv r8.1.1, iv r8.1.2], iv r8.2]⟩) [] (PureSim.ren (hc := [ab 55 e55 r1]) (fun i => List.getD [(3, 0)] i (0, 0)) (C26 _ _ _ h9) (.ac (.nil _)) (.cons (Rn.accA (i' := 3) (nl rfl) rfl) (.fl .nil)) (.flat (by kernel_rfl)) newflat_nil) (TI.rn 6 [6, 7, 9] [0, 4] (st 154 [(6, accV 4 r3.1.length), (7, iv r3.2), (9, iv r8.2)]) (H9_12 p0 r3) (TI.dn (NX.sq (TS.sq ?_))))))
   obtain ⟨m15, hm16, hF⟩ := of_do hF
   have hK : NX Try.prog 1 1 [.sq c9.s2.s2.s2.s1.s2.th.s2.s2, .sq c9.s2.s2.s2.s2] (FinP Try.prog Try.f9 1 (V9 1 r) (N9 1 r)) .normal (st 154 [(4, .bool m15)]) (H9_19 p0) := by
    refine NX.sq (TS.rt (NX.sqR ?_))
    have hF := sj hF
    subst hF
    exact ⟨.inr rfl, rfl, .bool m15, by kernel_rfl, WkV.flat0 (by kernel_rfl) (nl rfl)⟩
   rcases Bool.eq_false_or_eq_true (r3.2 == 21) with hc10 | hc10
   · replace hm16 := of_pos hm16 hc10
     rcases Bool.eq_false_or_eq_true (r8.2 == 21) with hc11 | hc11
     · replace hm16 := of_pos hm16 hc11
       rcases Bool.eq_false_or_eq_true ((r3.1.length : Int) == 0) with hc12 | hc12
       · replace hm16 := of_pos hm16 hc12
         have hX := of_do hm16
         clear hm16
         obtain ⟨r13, h14, hm16⟩ := hX
         have hm16 := sj hm16
         subst hm16
         refine TS.rg (TI.ra 1 [6, 9, 36] (S9_20 r3 r8) (TI.o { val := .bool true } (q_conv (e := r3.2 == 21) (b := true) (by kernel_rfl) hc10) [6, 9, 37] [0, 4] (st 154 [(6, accV 4 r3.1.length), (9, iv r8.2), (37, .bool true)]) (H9_12 p0 r3) (TI.ra 2 [6, 38, 39] (st 154 [(6, accV 4 r3.1.length), (38, .bool true), (39, iv r8.2)]) (TI.o { val := .bool true } (q_conv (e := r8.2 == 21) (b := true) (by kernel_rfl) hc11) [6, 38, 40] [0, 4] (st 154 [(6, accV 4 r3.1.length), (38, .bool true), (40, .bool true)]) (H9_12 p0 r3) (TI.rn 4 [42, 44] [0] (st 154 [(42, .bool true), (44, iv (r3.1.length : Int))]) (H9_19 p0) (TI.o { val := .bool true } (q_conv (e := (r3.1.length : Int) == 0) (b := true) (by kernel_rfl) hc12) [42, 45] [0] (st 154 [(42, .bool true), (45, .bool true)]) (H9_19 p0) (TI.ra 2 [47] (st 154 [(47, .bool true)]) (TI.cf (C15 _ h14) ?_))))))))
         exact TI.ra 2 [4] (st 154 [(4, .bool r13)]) (TI.dn hK)
       replace hm16 := of_neg hm16 hc12
       have hm16 := sj hm16
       subst hm16
       refine TS.rg (TI.ra 1 [6, 9, 36] (S9_20 r3 r8) (TI.o { val := .bool true } (q_conv (e := r3.2 == 21) (b := true) (by kernel_rfl) hc10) [6, 9, 37] [0, 4] (st 154 [(6, accV 4 r3.1.length), (9, iv r8.2), (37, .bool true)]) (H9_12 p0 r3) (TI.ra 2 [6, 38, 39] (st 154 [(6, accV 4 r3.1.length), (38, .bool true), (39, iv r8.2)]) (TI.o { val := .bool true } (q_conv (e := r8.2 == 21) (b := true) (by kernel_rfl) hc11) [6, 38, 40] [0, 4] (st 154 [(6, accV 4 r3.1.length), (38, .bool true), (40, .bool true)]) (H9_12 p0 r3) (TI.rn 4 [42, 44] [0] (st 154 [(42, .bool true), (44, iv (r3.1.length : Int))]) (H9_19 p0) (TI.o { val := .bool false } (q_conv (e := (r3.1.length : Int) == 0) (b := false) (by kernel_rfl) hc12) [42, 45] [0] (st 154 [(42, .bool true), (45, .bool false)]) (H9_19 p0) (TI.ra 5 [4] (st 154 [(4, .bool false)]) (TI.dn ?_))))))))
       exact hK
     replace hm16 := of_neg hm16 hc11
     have hm16 := sj hm16
     subst hm16
     exact TS.rg (TI.ra 1 [6, 9, 36] (S9_20 r3 r8) (TI.o { val := .bool true } (q_conv (e := r3.2 == 21) (b := true) (by kernel_rfl) hc10) [6, 9, 37] [0, 4] (st 154 [(6, accV 4 r3.1.length), (9, iv r8.2), (37, .bool true)]) (H9_12 p0 r3) (TI.ra 2 [6, 38, 39] (st 154 [(6, accV 4 r3.1.length), (38, .bool true), (39, iv r8.2)]) (TI.o { val := .bool false } (q_conv (e := r8.2 == 21) (b := false) (by kernel_rfl) hc11) [6, 38, 40] [0, 4] (st 154 [(6, accV 4 r3.1.length), (38, .bool true), (40, .bool false)]) (H9_12 p0 r3) (TI.rn 10 [4] [0] (st 154 [(4, .bool false)]) (H9_19 p0) (TI.dn hK))))))
   replace hm16 := of_neg hm16 hc10
   have hm16 := sj hm16
   subst hm16
   exact TS.rg (TI.ra 1 [6, 9, 36] (S9_20 r3 r8) (TI.o { val := .bool false } (q_conv (e := r3.2 == 21) (b := false) (by kernel_rfl) hc10) [6, 9, 37] [0, 4] (st 154 [(6, accV 4 r3.1.length), (9, iv r8.2), (37, .bool false)]) (H9_12 p0 r3) (TI.rn 13 [4] [0] (st 154 [(4, .bool false)]) (H9_19 p0) (TI.dn hK))))
 replace hF := of_neg hF hc7
 refine TS.sk (NX.sq (TS.sq (TS.sq ?_)))
 obtain ⟨m24, hm54, hF⟩ := of_do hF
 have hK : NX Try.prog 1 1 [.sq c9.s2.s2.s2.s2.s1.s2, .sq c9.s2.s2.s2.s2.s2] (FinP Try.prog Try.f9 1 (V9 1 r) (N9 1 r)) .normal (st 154 [(3, pt 2 0), (5, accV 3 r1.length), (6, accV 4 r3.1.length), (68, .bool m24)]) (H9_9 p0 p2 p3 r1 r3) := by
  refine NX.sq ?_
  cases m24 with
  | true =>
   replace hF := of_pos hF rfl
   refine TS.cdT (.tmp 68) (TS.sq (TS.rg (TI.rn 1 [4] [0] (st 154 [(4, .bool false)]) [ab 81 e81 p0, .dead, .dead, .dead, .dead] (TI.dn (NX.sq (TS.rt (NX.sqR ?_)))))))
   have hF := sj hF
   subst hF
   exact ⟨.inr rfl, rfl, .bool false, by kernel_rfl, WkV.flat0 (by kernel_rfl) (nl rfl)⟩
  | false =>
   replace hF := of_neg hF rfl
   refine TS.cdF (.tmp 68) (TS.sk (NX.sq (TS.sq ?_)))
   refine TS.dp [] (fun e he => by cases he) mixed 9 [5, 6, 10, 11] [0, 3, 4] (st 154 [(5, accV 3 r1.length), (6, accV 4 r3.1.length), (10, iv (Int.tmod (w64 p2) 3600)), (11, iv (Int.tmod (w64 p3) 3600))]) [ab 81 e81 p0, .dead, .dead, ab 55 e55 r1, ab 55 e55 r3.1] ?_ ?_
   · exact QJ.rn (qs (st 154 [(3, pt 2 0), (5, accV 3 r1.length), (6, accV 4 r3.1.length), (10, iv (Int.tmod (w64 p2) 3600)), (68, .bool false), (69, pt 2 0), (70, .int .u16 p2), (71, iv (w64 p2)), (72, iv (Int.tmod (w64 p2) 3600)), (73, pt 2 1), (74, .int .u16 p3), (75, iv (w64 p3)), (76, iv (Int.tmod (w64 p3) 3600))]) (H9_9 p0 p2 p3 r1 r3) [] []) 9 (QJ.dn ⟨rfl, SJ.la⟩)
   refine TS.sq ?_
   obtain ⟨r25, h26, hF⟩ := of_do hF
   refine TS.rg (TI.rn 4 [5, 6, 11, 80, 81] [0, 3, 4, 5] (st 154 [(5, accV 3 r1.length), (6, accV 4 r3.1.length), (11, iv (Int.tmod (w64 p3) 3600)), (80, sv 5 2 2), (81, iv (Int.tmod (w64 p2) 3600))]) [ab 81 e81 p0, .dead, .dead, ab 55 e55 r1, ab 55 e55 r3.1, cl 23 [accV 3 r1.length, accV 4 r3.1.length]] (TI.cp 31 [sv 5 2 2, iv (Int.tmod (w64 p2) 3600)] (.tuple ⟨[ag [iv r25.1.1, iv r25.1.2], iv r25.2]⟩) [] (PureSim.ren (hc := [cl 23 [sv 1 r1.length ANY, sv 2 r3.1.length ANY], ab 55 e55 r1, ab 55 e55 r3.1]) (fun i => List.getD [(5, 0), (3, 0), (4, 0)] i (0, 0)) (C31 _ _ _ _ h26) (.cons (At.blk (b1 := cl 23 [accV 3 r1.length, accV 4 r3.1.length]) (by kernel_rfl) (RnB.lit (.cons (Rn.accA (i' := 3) (nl rfl) rfl) (.cons (Rn.accA (i' := 4) (nl rfl) rfl) .nil)))) (.ac (.ac (.nil _)))) (.sl (.fl .nil)) (.flat (by kernel_rfl)) newflat_nil) (TI.rn 6 [5, 6, 7, 11, 12] [0, 3, 4, 6] (st 154 [(5, accV 3 r1.length), (6, accV 4 r3.1.length), (7, iv r25.2), (11, iv (Int.tmod (w64 p3) 3600)), (12, pt 6 0)]) [ab 81 e81 p0, .dead, .dead, ab 55 e55 r1, ab 55 e55 r3.1, .dead, cl 29 [iv r25.1.1, iv r25.1.2]] (TI.dn (NX.sq (TS.sq ?_))))))
   obtain ⟨r27, h28, hF⟩ := of_do hF
   refine TS.rg (TI.rn 4 [5, 6, 7, 11, 12, 88, 89] [0, 3, 4, 6, 7] (st 154 [(5, accV 3 r1.length), (6, accV 4 r3.1.length), (7, iv r25.2), (11, iv (Int.tmod (w64 p3) 3600)), (12, pt 6 0), (88, sv 7 2 2), (89, iv (Int.tmod (w64 p3) 3600))]) [ab 81 e81 p0, .dead, .dead, ab 55 e55 r1, ab 55 e55 r3.1, .dead, cl 29 [iv r25.1.1, iv r25.1.2], cl 23 [accV 4 r3.1.length, accV 3 r1.length]] (TI.cp 31 [sv 7 2 2, iv (Int.tmod (w64 p3) 3600)] (.tuple ⟨[ag [iv r27.1.1, iv r27.1.2], iv r27.2]⟩) [] (PureSim.ren (hc := [cl 23 [sv 1 r3.1.length ANY, sv 2 r1.length ANY], ab 55 e55 r3.1, ab 55 e55 r1]) (fun i => List.getD [(7, 0), (4, 0), (3, 0)] i (0, 0)) (C31 _ _ _ _ h28) (.cons (At.blk (b1 := cl 23 [accV 4 r3.1.length, accV 3 r1.length]) (by kernel_rfl) (RnB.lit (.cons (Rn.accA (i' := 4) (nl rfl) rfl) (.cons (Rn.accA (i' := 3) (nl rfl) rfl) .nil)))) (.ac (.ac (.nil _)))) (.sl (.fl .nil)) (.flat (by kernel_rfl)) newflat_nil) (TI.rn 6 [5, 6, 7, 11, 12, 13, 14] [0, 3, 4, 6, 8] (st 154 [(5, accV 3 r1.length), (6, accV 4 r3.1.length), (7, iv r25.2), (11, iv (Int.tmod (w64 p3) 3600)), (12, pt 6 0), (13, pt 8 0), (14, iv r27.2)]) [ab 81 e81 p0, .dead, .dead, ab 55 e55 r1, ab 55 e55 r3.1, .dead, cl 29 [iv r25.1.1, iv r25.1.2], .dead, cl 29 [iv r27.1.1, iv r27.1.2]] (TI.dn (NX.sq (TS.sq ?_))))))
   obtain ⟨r29, h30, hF⟩ := of_do hF
   refine TS.rg (TI.ra 2 [5, 6, 7, 11, 12, 13, 14, 94, 95] (st 154 [(5, accV 3 r1.length), (6, accV 4 r3.1.length), (7, iv r25.2), (11, iv (Int.tmod (w64 p3) 3600)), (12, pt 6 0), (13, pt 8 0), (14, iv r27.2), (94, accV 3 r1.length), (95, iv (Int.tmod (w64 p3) 3600))]) (TI.cp 26 [accV 3 r1.length, iv (Int.tmod (w64 p3) 3600)] (.tuple ⟨[ag [iv r29.1.1, iv r29.1.2], iv r29.2]⟩) [] (PureSim.ren (hc := [ab 55 e55 r1]) (fun i => List.getD [(3, 0)] i (0, 0)) (C26 _ _ _ h30) (.ac (.nil _)) (.cons (Rn.accA (i' := 3) (nl rfl) rfl) (.fl .nil)) (.flat (by kernel_rfl)) newflat_nil) (TI.rn 6 [5, 6, 7, 11, 12, 13, 14, 15, 16] [0, 3, 4, 6, 8, 9] (st 154 [(5, accV 3 r1.length), (6, accV 4 r3.1.length), (7, iv r25.2), (11, iv (Int.tmod (w64 p3) 3600)), (12, pt 6 0), (13, pt 8 0), (14, iv r27.2), (15, pt 9 0), (16, iv r29.2)]) [ab 81 e81 p0, .dead, .dead, ab 55 e55 r1, ab 55 e55 r3.1, .dead, cl 29 [iv r25.1.1, iv r25.1.2], .dead, cl 29 [iv r27.1.1, iv r27.1.2], cl 29 [iv r29.1.1, iv r29.1.2]] (TI.dn (NX.sq (TS.sq ?_))))))
   obtain ⟨r31, h32, hF⟩ := of_do hF
   refine TS.rg (TI.ra 2 [5, 6, 7, 12, 13, 14, 15, 16, 100, 101] (st 154 [(5, accV 3 r1.length), (6, accV 4 r3.1.length), (7, iv r25.2), (12, pt 6 0), (13, pt 8 0), (14, iv r27.2), (15, pt 9 0), (16, iv r29.2), (100, accV 4 r3.1.length), (101, iv (Int.tmod (w64 p3) 3600))]) (TI.cp 17 [accV 4 r3.1.length, iv (Int.tmod (w64 p3) 3600)] (.tuple ⟨[ag [iv r31.1.1, iv r31.1.2], iv r31.2]⟩) [] (PureSim.ren (hc := [ab 55 e55 r3.1]) (fun i => List.getD [(4, 0)] i (0, 0)) (C17 _ _ _ h32) (.ac (.nil _)) (.cons (Rn.accA (i' := 4) (nl rfl) rfl) (.fl .nil)) (.flat (by kernel_rfl)) newflat_nil) (TI.rn 6 [5, 6, 7, 12, 13, 14, 15, 16, 17, 18] [0, 3, 4, 6, 8, 9, 10] (st 154 [(5, accV 3 r1.length), (6, accV 4 r3.1.length), (7, iv r25.2), (12, pt 6 0), (13, pt 8 0), (14, iv r27.2), (15, pt 9 0), (16, iv r29.2), (17, pt 10 0), (18, iv r31.2)]) [ab 81 e81 p0, .dead, .dead, ab 55 e55 r1, ab 55 e55 r3.1, .dead, cl 29 [iv r25.1.1, iv r25.1.2], .dead, cl 29 [iv r27.1.1, iv r27.1.2], cl 29 [iv r29.1.1, iv r29.1.2], cl 29 [iv r31.1.1, iv r31.1.2]] (TI.dn (NX.sq (TS.sq ?_))))))
   obtain ⟨r33, h34, hF⟩ := of_do hF
   refine TS.rg (TI.ra 1 [5, 7, 12, 13, 14, 15, 16, 17, 18, 106] (st 154 [(5, accV 3 r1.length), (7, iv r25.2), (12, pt 6 0), (13, pt 8 0), (14, iv r27.2), (15, pt 9 0), (16, iv r29.2), (17, pt 10 0), (18, iv r31.2), (106, accV 4 r3.1.length)]) (TI.cp 29 [accV 4 r3.1.length] (.tuple ⟨[accV 11 r33.1.length, iv r33.2]⟩) [ab 55 e55 r33.1] (PureSim.ren (hc := [ab 55 e55 r3.1]) (fun i => List.getD [(4, 0)] i (0, 0)) (C29 _ _ h34) (.ac (.nil _)) (.cons (Rn.accA (i' := 4) (nl rfl) rfl) .nil) (Rn.tuple' (.cons (Rn.acc (i' := 11) (nl rfl) rfl) (.fl .nil))) (newflat_cons (accB_flat (fun _ => rfl)) newflat_nil)) (TI.rn 5 [5, 7, 12, 13, 14, 15, 16, 17, 18, 19, 20] [0, 3, 6, 8, 9, 10, 11] (st 154 [(5, accV 3 r1.length), (7, iv r25.2), (12, pt 6 0), (13, pt 8 0), (14, iv r27.2), (15, pt 9 0), (16, iv r29.2), (17, pt 10 0), (18, iv r31.2), (19, accV 11 r33.1.length), (20, iv r33.2)]) (H9_5 p0 r1 r25 r27 r29 r31 r33) (TI.dn (NX.sq (TS.sq (TS.sq ?_)))))))
   obtain ⟨m46, hm53, hF⟩ := of_do hF
   have hK : NX Try.prog 1 1 [.sq c9.s2.s2.s2.s2.s2.s2.s2.s2.s2.s2.s2.s1.s2, .sq c9.s2.s2.s2.s2.s2.s2.s2.s2.s2.s2.s2.s2] (FinP Try.prog Try.f9 1 (V9 1 r) (N9 1 r)) .normal (st 154 [(5, accV 3 r1.length), (19, accV 11 r33.1.length), (147, .bool m46)]) (H9_8 p0 r1 r33) := by
    refine NX.sq ?_
    cases m46 with
    | true =>
     replace hF := of_pos hF rfl
     refine TS.cdT (.tmp 147) (TS.sq (TS.rg (TI.rn 1 [4] [0] (st 154 [(4, .bool false)]) (H9_13 p0) (TI.dn (NX.sq (TS.rt (NX.sqR ?_)))))))
     have hF := sj hF
     subst hF
     exact ⟨.inr rfl, rfl, .bool false, by kernel_rfl, WkV.flat0 (by kernel_rfl) (nl rfl)⟩
    | false =>
     replace hF := of_neg hF rfl
     refine TS.cdF (.tmp 147) (TS.sk (NX.sq (TS.sq ?_)))
     obtain ⟨r47, h48, hF⟩ := of_do hF
     obtain ⟨m51, hm52, hF⟩ := of_do hF
     have hK : NX Try.prog 1 1 [.sq c9.s2.s2.s2.s2.s2.s2.s2.s2.s2.s2.s2.s2.s2] (FinP Try.prog Try.f9 1 (V9 1 r) (N9 1 r)) .normal (st 154 [(4, .bool m51)]) (H9_13 p0) := by
      refine NX.sq (TS.rt ?_)
      have hF := sj hF
      subst hF
      exact ⟨.inr rfl, rfl, .bool m51, by kernel_rfl, WkV.flat0 (by kernel_rfl) (nl rfl)⟩
     cases r47 with
     | true =>
      replace hm52 := of_pos hm52 rfl
      have hX := of_do hm52
      clear hm52
      obtain ⟨r49, h50, hm52⟩ := hX
      have hm52 := sj hm52
      subst hm52
      exact TS.rg (TI.ra 2 [148, 149] (st 154 [(148, accV 11 r33.1.length), (149, accV 3 r1.length)]) (TI.cp 45 [accV 11 r33.1.length, accV 3 r1.length] (.bool true) [] (PureSim.ren (hc := [ab 55 e55 r33.1, ab 55 e55 r1]) (fun i => List.getD [(11, 0), (3, 0)] i (0, 0)) (C45 _ _ _ h48) (.ac (.ac (.nil _))) (.cons (Rn.accA (i' := 11) (nl rfl) rfl) (.cons (Rn.accA (i' := 3) (nl rfl) rfl) .nil)) (.flat (by kernel_rfl)) newflat_nil) (TI.rn 1 [151] [0] (st 154 [(151, .bool true)]) (H9_13 p0) (TI.cf (C15 _ h50) (TI.ra 2 [4] (st 154 [(4, .bool r49)]) (TI.dn hK))))))
     | false =>
      replace hm52 := of_neg hm52 rfl
      have hm52 := sj hm52
      subst hm52
      exact TS.rg (TI.ra 2 [148, 149] (st 154 [(148, accV 11 r33.1.length), (149, accV 3 r1.length)]) (TI.cp 45 [accV 11 r33.1.length, accV 3 r1.length] (.bool false) [] (PureSim.ren (hc := [ab 55 e55 r33.1, ab 55 e55 r1]) (fun i => List.getD [(11, 0), (3, 0)] i (0, 0)) (C45 _ _ _ h48) (.ac (.ac (.nil _))) (.cons (Rn.accA (i' := 11) (nl rfl) rfl) (.cons (Rn.accA (i' := 3) (nl rfl) rfl) .nil)) (.flat (by kernel_rfl)) newflat_nil) (TI.rn 4 [4] [0] (st 154 [(4, .bool false)]) (H9_13 p0) (TI.dn hK))))
   rcases Bool.eq_false_or_eq_true (r25.2 != 0) with hc35 | hc35
   · replace hm53 := of_pos hm53 hc35
     have hm53 := sj hm53
     subst hm53
     refine TS.dp [] (fun e he => by cases he) mixed 36 [5, 19, 147] [0, 3, 11] (S9_18 r1 r33) (H9_8 p0 r1 r33) ?_ ?_
     · exact QJ.rn (qs (S9_7 r1 r25 r27 r29 r31 r33) (H9_5 p0 r1 r25 r27 r29 r31 r33) [] []) 1 (QJ.o { val := .bool true } (q_conv (e := r25.2 != 0) (b := true) (by kernel_rfl) hc35) (QJ.rn (qs (st 154 [(5, accV 3 r1.length), (7, iv r25.2), (12, pt 6 0), (13, pt 8 0), (14, iv r27.2), (15, pt 9 0), (16, iv r29.2), (17, pt 10 0), (18, iv r31.2), (19, accV 11 r33.1.length), (20, iv r33.2), (110, iv r25.2), (111, .bool true), (112, .bool true), (113, undef), (114, undef), (115, .bool true), (116, .bool true), (117, undef), (118, undef), (119, .bool true), (120, .bool true), (121, undef), (122, undef), (123, .bool true), (124, .bool true), (125, undef), (126, undef), (127, .bool true), (128, .bool true), (129, undef), (130, undef), (131, undef), (132, .bool true), (133, .bool true), (134, undef), (135, undef), (136, undef), (137, .bool true), (138, .bool true), (139, undef), (140, undef), (141, undef), (142, undef), (143, undef), (144, undef), (145, undef)]) (H9_5 p0 r1 r25 r27 r29 r31 r33) [] []) 34 (QJ.dn ⟨rfl, SJ.la⟩)))
     exact hK
   replace hm53 := of_neg hm53 hc35
   rcases Bool.eq_false_or_eq_true (r27.2 != 0) with hc36 | hc36
   · replace hm53 := of_pos hm53 hc36
     have hm53 := sj hm53
     subst hm53
     refine TS.dp [] (fun e he => by cases he) mixed 36 [5, 19, 147] [0, 3, 11] (S9_18 r1 r33) (H9_8 p0 r1 r33) ?_ ?_
     · exact QJ.rn (qs (S9_7 r1 r25 r27 r29 r31 r33) (H9_5 p0 r1 r25 r27 r29 r31 r33) [] []) 1 (QJ.o { val := .bool false } (q_conv (e := r25.2 != 0) (b := false) (by kernel_rfl) hc35) (QJ.rn (qs (S9_6 r1 r25 r27 r29 r31 r33) (H9_5 p0 r1 r25 r27 r29 r31 r33) [] []) 2 (QJ.o { val := .bool true } (q_conv (e := r27.2 != 0) (b := true) (by kernel_rfl) hc36) (QJ.rn (qs (st 154 [(5, accV 3 r1.length), (7, iv r25.2), (12, pt 6 0), (13, pt 8 0), (14, iv r27.2), (15, pt 9 0), (16, iv r29.2), (17, pt 10 0), (18, iv r31.2), (19, accV 11 r33.1.length), (20, iv r33.2), (110, iv r25.2), (111, .bool false), (112, .bool false), (113, iv r27.2), (114, .bool true), (115, .bool true), (116, .bool true), (117, undef), (118, undef), (119, .bool true), (120, .bool true), (121, undef), (122, undef), (123, .bool true), (124, .bool true), (125, undef), (126, undef), (127, .bool true), (128, .bool true), (129, undef), (130, undef), (131, undef), (132, .bool true), (133, .bool true), (134, undef), (135, undef), (136, undef), (137, .bool true), (138, .bool true), (139, undef), (140, undef), (141, undef), (142, undef), (143, undef), (144, undef), (145, undef)]) (H9_5 p0 r1 r25 r27 r29 r31 r33) [] []) 31 (QJ.dn ⟨rfl, SJ.la⟩)))))
     exact hK
   replace hm53 := of_neg hm53 hc36
   rcases Bool.eq_false_or_eq_true (r29.2 != 0) with hc37 | hc37
   · replace hm53 := of_pos hm53 hc37
     have hm53 := sj hm53
     subst hm53
     refine TS.dp [] (fun e he => by cases he) mixed 36 [5, 19, 147] [0, 3, 11] (S9_18 r1 r33) (H9_8 p0 r1 r33) ?_ ?_
     · exact QJ.rn (qs (S9_7 r1 r25 r27 r29 r31 r33) (H9_5 p0 r1 r25 r27 r29 r31 r33) [] []) 1 (QJ.o { val := .bool false } (q_conv (e := r25.2 != 0) (b := false) (by kernel_rfl) hc35) (QJ.rn (qs (S9_6 r1 r25 r27 r29 r31 r33) (H9_5 p0 r1 r25 r27 r29 r31 r33) [] []) 2 (QJ.o { val := .bool false } (q_conv (e := r27.2 != 0) (b := false) (by kernel_rfl) hc36) (QJ.rn (qs (S9_4 r1 r25 r27 r29 r31 r33) (H9_5 p0 r1 r25 r27 r29 r31 r33) [] []) 3 (QJ.o { val := .bool true } (q_conv (e := r29.2 != 0) (b := true) (by kernel_rfl) hc37) (QJ.rn (qs (st 154 [(5, accV 3 r1.length), (7, iv r25.2), (12, pt 6 0), (13, pt 8 0), (14, iv r27.2), (15, pt 9 0), (16, iv r29.2), (17, pt 10 0), (18, iv r31.2), (19, accV 11 r33.1.length), (20, iv r33.2), (110, iv r25.2), (111, .bool false), (112, .bool false), (113, iv r27.2), (114, .bool false), (115, .bool false), (116, .bool false), (117, iv r29.2), (118, .bool true), (119, .bool true), (120, .bool true), (121, undef), (122, undef), (123, .bool true), (124, .bool true), (125, undef), (126, undef), (127, .bool true), (128, .bool true), (129, undef), (130, undef), (131, undef), (132, .bool true), (133, .bool true), (134, undef), (135, undef), (136, undef), (137, .bool true), (138, .bool true), (139, undef), (140, undef), (141, undef), (142, undef), (143, undef), (144, undef), (145, undef)]) (H9_5 p0 r1 r25 r27 r29 r31 r33) [] []) 27 (QJ.dn ⟨rfl, SJ.la⟩)))))))
     exact hK
   replace hm53 := of_neg hm53 hc37
   rcases Bool.eq_false_or_eq_true (r31.2 != 0) with hc38 | hc38
   · replace hm53 := of_pos hm53 hc38
     have hm53 := sj hm53
     subst hm53
     refine TS.dp [] (fun e he => by cases he) mixed 36 [5, 19, 147] [0, 3, 11] (S9_18 r1 r33) (H9_8 p0 r1 r33) ?_ ?_
     · refine QJ.rn (qs (S9_7 r1 r25 r27 r29 r31 r33) (H9_5 p0 r1 r25 r27 r29 r31 r33) [] []) 1 (QJ.o { val := .bool false } (q_conv (e := r25.2 != 0) (b := false) (by kernel_rfl) hc35) (QJ.rn (qs (S9_6 r1 r25 r27 r29 r31 r33) (H9_5 p0 r1 r25 r27 r29 r31 r33) [] []) 2 (QJ.o { val := .bool false } (q_conv (e := r27.2 != 0) (b := false) (by kernel_rfl) hc36) (QJ.rn (qs (S9_4 r1 r25 r27 r29 r31 r33) (H9_5 p0 r1 r25 r27 r29 r31 r33) [] []) 3 (QJ.o { val := .bool false } (q_conv (e := r29.2 != 0) (b := false) (by kernel_rfl) hc37) (QJ.rn (qs (S9_3 r1 r25 r27 r29 r31 r33) (H9_5 p0 r1 r25 r27 r29 r31 r33) [] []) 3 (QJ.o { val := .bool true } (q_conv (e := r31.2 != 0) (b := true) (by kernel_rfl) hc38) (QJ.rn (qs (st 154 [(5, accV 3 r1.length), (7, iv r25.2), (12, pt 6 0), (13, pt 8 0), (14, iv r27.2), (15, pt 9 0), (16, iv r29.2), (17, pt 10 0), (18, iv r31.2), (19, accV 11 r33.1.length), (20, iv r33.2), (110, iv r25.2), (111, .bool false), (112, .bool false), (113, iv r27.2), (114, .bool false), (115, .bool false), (116, .bool false), (117, iv r29.2), (118, .bool false), (119, .bool false), (120, .bool false), (121, iv r31.2), (122, .bool true), (123, .bool true), (124, .bool true), (125, undef), (126, undef), (127, .bool true), (128, .bool true), (129, undef), (130, undef), (131, undef), (132, .bool true), (133, .bool true), (134, undef), (135, undef), (136, undef), (137, .bool true), (138, .bool true), (139, undef), (140, undef), (141, undef), (142, undef), (143, undef), (144, undef), (145, undef)]) (H9_5 p0 r1 r25 r27 r29 r31 r33) [] []) 23 ?_))))))))
       exact QJ.dn ⟨rfl, SJ.la⟩
     exact hK
   replace hm53 := of_neg hm53 hc38
   rcases Bool.eq_false_or_eq_true (r33.2 != 0) with hc39 | hc39
   · replace hm53 := of_pos hm53 hc39
     have hm53 := sj hm53
     subst hm53
     refine TS.dp [] (fun e he => by cases he) mixed 36 [5, 19, 147] [0, 3, 11] (S9_18 r1 r33) (H9_8 p0 r1 r33) ?_ ?_
     · refine QJ.rn (qs (S9_7 r1 r25 r27 r29 r31 r33) (H9_5 p0 r1 r25 r27 r29 r31 r33) [] []) 1 (QJ.o { val := .bool false } (q_conv (e := r25.2 != 0) (b := false) (by kernel_rfl) hc35) (QJ.rn (qs (S9_6 r1 r25 r27 r29 r31 r33) (H9_5 p0 r1 r25 r27 r29 r31 r33) [] []) 2 (QJ.o { val := .bool false } (q_conv (e := r27.2 != 0) (b := false) (by kernel_rfl) hc36) (QJ.rn (qs (S9_4 r1 r25 r27 r29 r31 r33) (H9_5 p0 r1 r25 r27 r29 r31 r33) [] []) 3 (QJ.o { val := .bool false } (q_conv (e := r29.2 != 0) (b := false) (by kernel_rfl) hc37) (QJ.rn (qs (S9_3 r1 r25 r27 r29 r31 r33) (H9_5 p0 r1 r25 r27 r29 r31 r33) [] []) 3 (QJ.o { val := .bool false } (q_conv (e := r31.2 != 0) (b := false) (by kernel_rfl) hc38) (QJ.rn (qs (S9_2 r1 r25 r27 r29 r31 r33) (H9_5 p0 r1 r25 r27 r29 r31 r33) [] []) 3 ?_))))))))
       exact QJ.o { val := .bool true } (q_conv (e := r33.2 != 0) (b := true) (by kernel_rfl) hc39) (QJ.rn (qs (st 154 [(5, accV 3 r1.length), (7, iv r25.2), (12, pt 6 0), (13, pt 8 0), (14, iv r27.2), (15, pt 9 0), (16, iv r29.2), (17, pt 10 0), (18, iv r31.2), (19, accV 11 r33.1.length), (20, iv r33.2), (110, iv r25.2), (111, .bool false), (112, .bool false), (113, iv r27.2), (114, .bool false), (115, .bool false), (116, .bool false), (117, iv r29.2), (118, .bool false), (119, .bool false), (120, .bool false), (121, iv r31.2), (122, .bool false), (123, .bool false), (124, .bool false), (125, iv r33.2), (126, .bool true), (127, .bool true), (128, .bool true), (129, undef), (130, undef), (131, undef), (132, .bool true), (133, .bool true), (134, undef), (135, undef), (136, undef), (137, .bool true), (138, .bool true), (139, undef), (140, undef), (141, undef), (142, undef), (143, undef), (144, undef), (145, undef)]) (H9_5 p0 r1 r25 r27 r29 r31 r33) [] []) 19 (QJ.dn ⟨rfl, SJ.la⟩))
     exact hK
   replace hm53 := of_neg hm53 hc39
   have hX := of_do hm53
   clear hm53
   obtain ⟨r40, h41, hm53⟩ := hX
   rcases Bool.eq_false_or_eq_true (!((r25.1.1 == r40.1) && ((r25.1.2 == r40.2) && true))) with hc42 | hc42
   · replace hm53 := of_pos hm53 hc42
     have hm53 := sj hm53
     subst hm53
     have hT : ∀ e ∈ ([⟨44, [iv 0, iv 1], (H9_5 p0 r1 r25 r27 r29 r31 r33), ag [iv r40.1, iv r40.2], []⟩] : List Entry), PureSim Try.prog e.g e.args e.h e.v e.new := by
      intro e he
      simp only [List.mem_cons, List.not_mem_nil, or_false] at he
      rcases he with rfl
      exact PureSim.ak (C44 _ _ _ h41)
     refine TS.dp [⟨44, [iv 0, iv 1], (H9_5 p0 r1 r25 r27 r29 r31 r33), ag [iv r40.1, iv r40.2], []⟩] hT mixed 36 [5, 19, 147] [0, 3, 11] (S9_18 r1 r33) (H9_8 p0 r1 r33) ?_ ?_
     · refine QJ.rn (qs (S9_7 r1 r25 r27 r29 r31 r33) (H9_5 p0 r1 r25 r27 r29 r31 r33) [] []) 1 (QJ.o { val := .bool false } (q_conv (e := r25.2 != 0) (b := false) (by kernel_rfl) hc35) (QJ.rn (qs (S9_6 r1 r25 r27 r29 r31 r33) (H9_5 p0 r1 r25 r27 r29 r31 r33) [] []) 2 (QJ.o { val := .bool false } (q_conv (e := r27.2 != 0) (b := false) (by kernel_rfl) hc36) (QJ.rn (qs (S9_4 r1 r25 r27 r29 r31 r33) (H9_5 p0 r1 r25 r27 r29 r31 r33) [] []) 3 (QJ.o { val := .bool false } (q_conv (e := r29.2 != 0) (b := false) (by kernel_rfl) hc37) (QJ.rn (qs (S9_3 r1 r25 r27 r29 r31 r33) (H9_5 p0 r1 r25 r27 r29 r31 r33) [] []) 3 (QJ.o { val := .bool false } (q_conv (e := r31.2 != 0) (b := false) (by kernel_rfl) hc38) (QJ.rn (qs (S9_2 r1 r25 r27 r29 r31 r33) (H9_5 p0 r1 r25 r27 r29 r31 r33) [] []) 3 ?_))))))))
       exact QJ.o { val := .bool false } (q_conv (e := r33.2 != 0) (b := false) (by kernel_rfl) hc39) (QJ.rn (qs (S9_1 r1 r25 r27 r29 r31 r33) (H9_5 p0 r1 r25 r27 r29 r31 r33) [] []) 3 (QJ.o { val := ag [iv r40.1, iv r40.2], new := [] } (qOf_call (g := 44) (args := [iv 0, iv 1]) (by kernel_rfl) lookC_hit) (QJ.o { val := .bool true } (q_conv (e := !((r25.1.1 == r40.1) && ((r25.1.2 == r40.2) && true))) (b := true) (by kernel_rfl) hc42) (QJ.rn (qs (st 154 [(5, accV 3 r1.length), (7, iv r25.2), (12, pt 6 0), (13, pt 8 0), (14, iv r27.2), (15, pt 9 0), (16, iv r29.2), (17, pt 10 0), (18, iv r31.2), (19, accV 11 r33.1.length), (20, iv r33.2), (110, iv r25.2), (111, .bool false), (112, .bool false), (113, iv r27.2), (114, .bool false), (115, .bool false), (116, .bool false), (117, iv r29.2), (118, .bool false), (119, .bool false), (120, .bool false), (121, iv r31.2), (122, .bool false), (123, .bool false), (124, .bool false), (125, iv r33.2), (126, .bool false), (127, .bool false), (128, .bool false), (129, ag [iv r25.1.1, iv r25.1.2]), (130, ag [iv r40.1, iv r40.2]), (131, .bool true), (132, .bool true), (133, .bool true), (134, undef), (135, undef), (136, undef), (137, .bool true), (138, .bool true), (139, undef), (140, undef), (141, undef), (142, undef), (143, undef), (144, undef), (145, undef)]) (H9_5 p0 r1 r25 r27 r29 r31 r33) [] []) 14 (QJ.dn ⟨rfl, SJ.la⟩)))))
     exact hK
   replace hm53 := of_neg hm53 hc42
   rcases Bool.eq_false_or_eq_true (!((r27.1.1 == r25.1.1) && ((r27.1.2 == r25.1.2) && true))) with hc43 | hc43
   · replace hm53 := of_pos hm53 hc43
     have hm53 := sj hm53
     subst hm53
     have hT : ∀ e ∈ ([⟨44, [iv 0, iv 1], (H9_5 p0 r1 r25 r27 r29 r31 r33), ag [iv r40.1, iv r40.2], []⟩] : List Entry), PureSim Try.prog e.g e.args e.h e.v e.new := by
      intro e he
      simp only [List.mem_cons, List.not_mem_nil, or_false] at he
      rcases he with rfl
      exact PureSim.ak (C44 _ _ _ h41)
     refine TS.dp [⟨44, [iv 0, iv 1], (H9_5 p0 r1 r25 r27 r29 r31 r33), ag [iv r40.1, iv r40.2], []⟩] hT mixed 36 [5, 19, 147] [0, 3, 11] (S9_18 r1 r33) (H9_8 p0 r1 r33) ?_ ?_
     · refine QJ.rn (qs (S9_7 r1 r25 r27 r29 r31 r33) (H9_5 p0 r1 r25 r27 r29 r31 r33) [] []) 1 (QJ.o { val := .bool false } (q_conv (e := r25.2 != 0) (b := false) (by kernel_rfl) hc35) (QJ.rn (qs (S9_6 r1 r25 r27 r29 r31 r33) (H9_5 p0 r1 r25 r27 r29 r31 r33) [] []) 2 (QJ.o { val := .bool false } (q_conv (e := r27.2 != 0) (b := false) (by kernel_rfl) hc36) (QJ.rn (qs (S9_4 r1 r25 r27 r29 r31 r33) (H9_5 p0 r1 r25 r27 r29 r31 r33) [] []) 3 (QJ.o { val := .bool false } (q_conv (e := r29.2 != 0) (b := false) (by kernel_rfl) hc37) (QJ.rn (qs (S9_3 r1 r25 r27 r29 r31 r33) (H9_5 p0 r1 r25 r27 r29 r31 r33) [] []) 3 (QJ.o { val := .bool false } (q_conv (e := r31.2 != 0) (b := false) (by kernel_rfl) hc38) (QJ.rn (qs (S9_2 r1 r25 r27 r29 r31 r33) (H9_5 p0 r1 r25 r27 r29 r31 r33) [] []) 3 ?_))))))))
       exact QJ.o { val := .bool false } (q_conv (e := r33.2 != 0) (b := false) (by kernel_rfl) hc39) (QJ.rn (qs (S9_1 r1 r25 r27 r29 r31 r33) (H9_5 p0 r1 r25 r27 r29 r31 r33) [] []) 3 (QJ.o { val := ag [iv r40.1, iv r40.2], new := [] } (qOf_call (g := 44) (args := [iv 0, iv 1]) (by kernel_rfl) lookC_hit) (QJ.o { val := .bool false } (q_conv (e := !((r25.1.1 == r40.1) && ((r25.1.2 == r40.2) && true))) (b := false) (by kernel_rfl) hc42) (QJ.rn (qs (S9_0 r1 r25 r27 r29 r31 r33 r40) (H9_5 p0 r1 r25 r27 r29 r31 r33) [] []) 4 (QJ.o { val := .bool true } (q_conv (e := !((r27.1.1 == r25.1.1) && ((r27.1.2 == r25.1.2) && true))) (b := true) (by kernel_rfl) hc43) (QJ.rn (qs (st 154 [(5, accV 3 r1.length), (7, iv r25.2), (12, pt 6 0), (13, pt 8 0), (14, iv r27.2), (15, pt 9 0), (16, iv r29.2), (17, pt 10 0), (18, iv r31.2), (19, accV 11 r33.1.length), (20, iv r33.2), (110, iv r25.2), (111, .bool false), (112, .bool false), (113, iv r27.2), (114, .bool false), (115, .bool false), (116, .bool false), (117, iv r29.2), (118, .bool false), (119, .bool false), (120, .bool false), (121, iv r31.2), (122, .bool false), (123, .bool false), (124, .bool false), (125, iv r33.2), (126, .bool false), (127, .bool false), (128, .bool false), (129, ag [iv r25.1.1, iv r25.1.2]), (130, ag [iv r40.1, iv r40.2]), (131, .bool false), (132, .bool false), (133, .bool false), (134, ag [iv r27.1.1, iv r27.1.2]), (135, ag [iv r25.1.1, iv r25.1.2]), (136, .bool true), (137, .bool true), (138, .bool true), (139, undef), (140, undef), (141, undef), (142, undef), (143, undef), (144, undef), (145, undef)]) (H9_5 p0 r1 r25 r27 r29 r31 r33) [] []) 9 (QJ.dn ⟨rfl, SJ.la⟩)))))))
     exact hK
   replace hm53 := of_neg hm53 hc43
   have hX := of_do hm53
   clear hm53
   obtain ⟨r44, h45, hm53⟩ := hX
   have hm53 := sj hm53
   subst hm53
   have hT : ∀ e ∈ ([⟨44, [iv 0, iv 1], (H9_5 p0 r1 r25 r27 r29 r31 r33), ag [iv r40.1, iv r40.2], []⟩, ⟨44, [iv (w64 (0 - r31.1.1)), iv r31.1.2], (H9_5 p0 r1 r25 r27 r29 r31 r33), ag [iv r44.1, iv r44.2], []⟩] : List Entry), PureSim Try.prog e.g e.args e.h e.v e.new := by
    intro e he
    simp only [List.mem_cons, List.not_mem_nil, or_false] at he
    rcases he with rfl | rfl
    · exact PureSim.ak (C44 _ _ _ h41)
    exact PureSim.ak (C44 _ _ _ h45)
   refine TS.dp [⟨44, [iv 0, iv 1], (H9_5 p0 r1 r25 r27 r29 r31 r33), ag [iv r40.1, iv r40.2], []⟩, ⟨44, [iv (w64 (0 - r31.1.1)), iv r31.1.2], (H9_5 p0 r1 r25 r27 r29 r31 r33), ag [iv r44.1, iv r44.2], []⟩] hT mixed 36 [5, 19, 147] [0, 3, 11] (st 154 [(5, accV 3 r1.length), (19, accV 11 r33.1.length), (147, .bool (!((r29.1.1 == r44.1) && ((r29.1.2 == r44.2) && true))))]) (H9_8 p0 r1 r33) ?_ ?_
   · refine QJ.rn (qs (S9_7 r1 r25 r27 r29 r31 r33) (H9_5 p0 r1 r25 r27 r29 r31 r33) [] []) 1 (QJ.o { val := .bool false } (q_conv (e := r25.2 != 0) (b := false) (by kernel_rfl) hc35) (QJ.rn (qs (S9_6 r1 r25 r27 r29 r31 r33) (H9_5 p0 r1 r25 r27 r29 r31 r33) [] []) 2 (QJ.o { val := .bool false } (q_conv (e := r27.2 != 0) (b := false) (by kernel_rfl) hc36) (QJ.rn (qs (S9_4 r1 r25 r27 r29 r31 r33) (H9_5 p0 r1 r25 r27 r29 r31 r33) [] []) 3 (QJ.o { val := .bool false } (q_conv (e := r29.2 != 0) (b := false) (by kernel_rfl) hc37) (QJ.rn (qs (S9_3 r1 r25 r27 r29 r31 r33) (H9_5 p0 r1 r25 r27 r29 r31 r33) [] []) 3 (QJ.o { val := .bool false } (q_conv (e := r31.2 != 0) (b := false) (by kernel_rfl) hc38) (QJ.rn (qs (S9_2 r1 r25 r27 r29 r31 r33) (H9_5 p0 r1 r25 r27 r29 r31 r33) [] []) 3 ?_))))))))
     refine QJ.o { val := .bool false } (q_conv (e := r33.2 != 0) (b := false) (by kernel_rfl) hc39) (QJ.rn (qs (S9_1 r1 r25 r27 r29 r31 r33) (H9_5 p0 r1 r25 r27 r29 r31 r33) [] []) 3 (QJ.o { val := ag [iv r40.1, iv r40.2], new := [] } (qOf_call (g := 44) (args := [iv 0, iv 1]) (by kernel_rfl) lookC_hit) (QJ.o { val := .bool false } (q_conv (e := !((r25.1.1 == r40.1) && ((r25.1.2 == r40.2) && true))) (b := false) (by kernel_rfl) hc42) (QJ.rn (qs (S9_0 r1 r25 r27 r29 r31 r33 r40) (H9_5 p0 r1 r25 r27 r29 r31 r33) [] []) 4 (QJ.o { val := .bool false } (q_conv (e := !((r27.1.1 == r25.1.1) && ((r27.1.2 == r25.1.2) && true))) (b := false) (by kernel_rfl) hc43) (QJ.rn (qs (st 154 [(5, accV 3 r1.length), (7, iv r25.2), (12, pt 6 0), (13, pt 8 0), (14, iv r27.2), (15, pt 9 0), (16, iv r29.2), (17, pt 10 0), (18, iv r31.2), (19, accV 11 r33.1.length), (20, iv r33.2), (110, iv r25.2), (111, .bool false), (112, .bool false), (113, iv r27.2), (114, .bool false), (115, .bool false), (116, .bool false), (117, iv r29.2), (118, .bool false), (119, .bool false), (120, .bool false), (121, iv r31.2), (122, .bool false), (123, .bool false), (124, .bool false), (125, iv r33.2), (126, .bool false), (127, .bool false), (128, .bool false), (129, ag [iv r25.1.1, iv r25.1.2]), (130, ag [iv r40.1, iv r40.2]), (131, .bool false), (132, .bool false), (133, .bool false), (134, ag [iv r27.1.1, iv r27.1.2]), (135, ag [iv r25.1.1, iv r25.1.2]), (136, .bool false), (137, .bool false), (138, .bool false), (139, ag [iv r29.1.1, iv r29.1.2]), (140, pt 10 0), (141, iv r31.1.1), (142, iv (w64 (0 - r31.1.1))), (143, pt 10 1), (144, iv r31.1.2)]) (H9_5 p0 r1 r25 r27 r29 r31 r33) [] []) 8 ?_))))))
     exact QJ.o { val := ag [iv r44.1, iv r44.2], new := [] } (qOf_call (g := 44) (args := [iv (w64 (0 - r31.1.1)), iv r31.1.2]) (by kernel_rfl) (lookC_skip (by intro _ ha hh; first | (exact absurd (congrArg List.length hh) (Nat.ne_of_beq_eq_false rfl)) | (have hr := sj (h41.symm.trans (Eq.trans (congr (congrArg F44 (show 0 = (w64 (0 - r31.1.1)) from congrArg (leafI 0) ha)) (show 1 = r31.1.2 from congrArg (leafI 1) ha)) h45)); first | (subst hr; rfl) | (cases hr; done) | (cases hr; rfl))) lookC_hit)) (QJ.dn ⟨rfl, SJ.la⟩)
   exact hK
 rcases Bool.eq_false_or_eq_true (r3.2 != 0) with hc17 | hc17
 · replace hm54 := of_pos hm54 hc17
   have hm54 := sj hm54
   subst hm54
   exact TS.rg (TI.ra 1 [3, 5, 6, 50] (S9_17 r1 r3) (TI.o { val := .bool true } (q_conv (e := r3.2 != 0) (b := true) (by kernel_rfl) hc17) [3, 5, 6, 51] [0, 2, 3, 4] (st 154 [(3, pt 2 0), (5, accV 3 r1.length), (6, accV 4 r3.1.length), (51, .bool true)]) (H9_9 p0 p2 p3 r1 r3) (TI.ra 17 [3, 5, 6, 68] (S9_16 r1 r3) (TI.dn hK))))
 replace hm54 := of_neg hm54 hc17
 have hX := of_do hm54
 clear hm54
 obtain ⟨r18, h19, hm54⟩ := hX
 rcases Bool.eq_false_or_eq_true (r18 != 0) with hc20 | hc20
 · replace hm54 := of_pos hm54 hc20
   have hm54 := sj hm54
   subst hm54
   exact TS.rg (TI.ra 1 [3, 5, 6, 50] (S9_17 r1 r3) (TI.o { val := .bool false } (q_conv (e := r3.2 != 0) (b := false) (by kernel_rfl) hc17) [3, 5, 6, 51] [0, 2, 3, 4] (S9_15 r1 r3) (H9_9 p0 p2 p3 r1 r3) (TI.ra 2 [3, 5, 6, 52, 53] (S9_11 r1 r3) (TI.callM (g := 22) (args := [accV 4 r3.1.length]) (v := iv r18) (new := []) (by kernel_rfl) (PureSim.ren (hc := [ab 55 e55 r3.1]) (fun i => List.getD [(4, 0)] i (0, 0)) (C22 _ _ h19) (.ac (.nil _)) (.cons (Rn.accA (i' := 4) (nl rfl) rfl) .nil) (.flat (by kernel_rfl)) newflat_nil) [3, 5, 6, 52, 54] [0, 2, 3, 4] (a2 := (S9_14 r1 r3 r18)) (h2 := (H9_9 p0 p2 p3 r1 r3)) (by kernel_rfl) (TI.o { val := .bool true } (q_conv (e := r18 != 0) (b := true) (by kernel_rfl) hc20) [3, 5, 6, 52, 55] [0, 2, 3, 4] (st 154 [(3, pt 2 0), (5, accV 3 r1.length), (6, accV 4 r3.1.length), (52, .bool false), (55, .bool true)]) (H9_9 p0 p2 p3 r1 r3) (TI.ra 13 [3, 5, 6, 68] (S9_16 r1 r3) (TI.dn hK)))))))
 replace hm54 := of_neg hm54 hc20
 rcases Bool.eq_false_or_eq_true ((r3.1.length : Int) != (r1.length : Int)) with hc21 | hc21
 · replace hm54 := of_pos hm54 hc21
   have hm54 := sj hm54
   subst hm54
   refine TS.rg (TI.ra 1 [3, 5, 6, 50] (S9_17 r1 r3) (TI.o { val := .bool false } (q_conv (e := r3.2 != 0) (b := false) (by kernel_rfl) hc17) [3, 5, 6, 51] [0, 2, 3, 4] (S9_15 r1 r3) (H9_9 p0 p2 p3 r1 r3) (TI.ra 2 [3, 5, 6, 52, 53] (S9_11 r1 r3) (TI.callM (g := 22) (args := [accV 4 r3.1.length]) (v := iv r18) (new := []) (by kernel_rfl) (PureSim.ren (hc := [ab 55 e55 r3.1]) (fun i => List.getD [(4, 0)] i (0, 0)) (C22 _ _ h19) (.ac (.nil _)) (.cons (Rn.accA (i' := 4) (nl rfl) rfl) .nil) (.flat (by kernel_rfl)) newflat_nil) [3, 5, 6, 52, 54] [0, 2, 3, 4] (a2 := (S9_14 r1 r3 r18)) (h2 := (H9_9 p0 p2 p3 r1 r3)) (by kernel_rfl) (TI.o { val := .bool false } (q_conv (e := r18 != 0) (b := false) (by kernel_rfl) hc20) [3, 5, 6, 52, 55] [0, 2, 3, 4] (st 154 [(3, pt 2 0), (5, accV 3 r1.length), (6, accV 4 r3.1.length), (52, .bool false), (55, .bool false)]) (H9_9 p0 p2 p3 r1 r3) (TI.ra 6 [3, 5, 6, 57, 59, 61] (S9_10 r1 r3) (TI.o { val := .bool true } (q_conv (e := (r3.1.length : Int) != (r1.length : Int)) (b := true) (by kernel_rfl) hc21) [3, 5, 6, 57, 62] [0, 2, 3, 4] (st 154 [(3, pt 2 0), (5, accV 3 r1.length), (6, accV 4 r3.1.length), (57, .bool false), (62, .bool true)]) (H9_9 p0 p2 p3 r1 r3) (TI.ra 6 [3, 5, 6, 68] (S9_16 r1 r3) ?_))))))))
   exact TI.dn hK
 replace hm54 := of_neg hm54 hc21
 have hX := of_do hm54
 clear hm54
 obtain ⟨r22, h23, hm54⟩ := hX
 have hm54 := sj hm54
 subst hm54
 refine TS.rg (TI.ra 1 [3, 5, 6, 50] (S9_17 r1 r3) (TI.o { val := .bool false } (q_conv (e := r3.2 != 0) (b := false) (by kernel_rfl) hc17) [3, 5, 6, 51] [0, 2, 3, 4] (S9_15 r1 r3) (H9_9 p0 p2 p3 r1 r3) (TI.ra 2 [3, 5, 6, 52, 53] (S9_11 r1 r3) (TI.callM (g := 22) (args := [accV 4 r3.1.length]) (v := iv r18) (new := []) (by kernel_rfl) (PureSim.ren (hc := [ab 55 e55 r3.1]) (fun i => List.getD [(4, 0)] i (0, 0)) (C22 _ _ h19) (.ac (.nil _)) (.cons (Rn.accA (i' := 4) (nl rfl) rfl) .nil) (.flat (by kernel_rfl)) newflat_nil) [3, 5, 6, 52, 54] [0, 2, 3, 4] (a2 := (S9_14 r1 r3 r18)) (h2 := (H9_9 p0 p2 p3 r1 r3)) (by kernel_rfl) (TI.o { val := .bool false } (q_conv (e := r18 != 0) (b := false) (by kernel_rfl) hc20) [3, 5, 6, 52, 55] [0, 2, 3, 4] (st 154 [(3, pt 2 0), (5, accV 3 r1.length), (6, accV 4 r3.1.length), (52, .bool false), (55, .bool false)]) (H9_9 p0 p2 p3 r1 r3) (TI.ra 6 [3, 5, 6, 57, 59, 61] (S9_10 r1 r3) (TI.o { val := .bool false } (q_conv (e := (r3.1.length : Int) != (r1.length : Int)) (b := false) (by kernel_rfl) hc21) [3, 5, 6, 57, 62] [0, 2, 3, 4] (st 154 [(3, pt 2 0), (5, accV 3 r1.length), (6, accV 4 r3.1.length), (57, .bool false), (62, .bool false)]) (H9_9 p0 p2 p3 r1 r3) (TI.ra 3 [3, 5, 6, 64, 65] (st 154 [(3, pt 2 0), (5, accV 3 r1.length), (6, accV 4 r3.1.length), (64, .bool false), (65, accV 4 r3.1.length)]) ?_))))))))
 exact TI.cp 43 [accV 4 r3.1.length] (.bool r22) [] (PureSim.ren (hc := [ab 55 e55 r3.1]) (fun i => List.getD [(4, 0)] i (0, 0)) (C43 _ _ h23) (.ac (.nil _)) (.cons (Rn.accA (i' := 4) (nl rfl) rfl) .nil) (.flat (by kernel_rfl)) newflat_nil) (TI.ra 2 [3, 5, 6, 68] (st 154 [(3, pt 2 0), (5, accV 3 r1.length), (6, accV 4 r3.1.length), (68, .bool (!r22))]) (TI.dn hK))
theorem C9 (p0 : List I2) (p1 p2 p3 : Int) (r : Bool) (hF : F9 p0 p1 p2 p3 = some r) : PureSim Try.prog 9 [ag [sv 0 p0.length ANY, .int .u8 p1], ag [.int .u16 p2, .int .u16 p3]] [ab 81 e81 p0] (V9 1 r) (N9 1 r) :=
 PureSim.of_Fin Try.func9 (c := c9) (by kernel_rfl) (by kernel_rfl) 1 rfl [0, 1] [0] (by kernel_rfl) (B9 p0 p1 p2 p3 r hF)
end
end Go.Proofs.Ythpfffijnkmdgaa
