/- What functions of the program compute, and that they do. -/
import Derived.Test.YthpfffijnkmdgaaCS
import Derived.Test.YthpfffijnkmdgaaGiven
set_option linter.unusedVariables false
set_option linter.unusedSimpArgs false
set_option maxRecDepth 100000
set_option maxHeartbeats 4000000
namespace Go.Proofs.Ythpfffijnkmdgaa
open Go Go.Cl
noncomputable section
noncomputable def c31 : Code := Try.f31.code
def H31_0 (p0 : List I2) (r7 r9 : I2) : List Blk := [cl 23 [sv 1 p0.length ANY], ab 55 e55 p0, cl 29 [iv 0, iv 0], cl 101 [iv r7.1, iv r7.2], cl 101 [iv r9.1, iv r9.2], cl 101 [iv r9.1, iv r9.2]]
def F31 (p0 : List I2) (p1 : Int) : Option (I2 × Int) :=
 F22 p0 >>= fun r1 =>
 if r1 != 0 then
  some ((0, 0), r1)
 else
  F53 p1 >>= fun r4 =>
  if !r4 then
   some ((0, 0), 1)
  else
   F55 p1 >>= fun r7 =>
   F54 p0 r7.1 r7.2 >>= fun r9 =>
   F77 r7.1 r7.2 ([(r9.1, r9.2)]) >>= fun r11 =>
   F73 r11.1 r11.2 >>= fun r13 =>
   F55 0 >>= fun r15 =>
   F77 r15.1 r15.2 ([(r9.1, r9.2)]) >>= fun r17 =>
   F56 r17.1 r17.2 >>= fun r19 =>
   some ((r19.1, r19.2), 0)
def V31 (b : Nat) (r : I2 × Int) : Value := .tuple ⟨[ag [iv r.1.1, iv r.1.2], iv r.2]⟩
def N31 (b : Nat) (r : I2 × Int) : List Blk := []
theorem B31 (p0 : List I2) (p1 : Int) (r : I2 × Int) (hF : F31 p0 p1 = some r) : TS Try.prog 2 2 c31 (st 69 [(0, sv 0 1 1), (1, iv p1)]) [cl 23 [sv 1 p0.length ANY], ab 55 e55 p0] (NX Try.prog 2 2 [] (FinP Try.prog Try.f31 2 (V31 2 r) (N31 2 r))) := by
 unfold F31 at hF
 refine TS.sq (TS.rg (TI.rn 2 [0, 1, 4] [0, 1, 2] (st 69 [(0, sv 0 1 1), (1, iv p1), (4, pt 2 0)]) [cl 23 [sv 1 p0.length ANY], ab 55 e55 p0, cl 29 [iv 0, iv 0]] (TI.dn (NX.sq (TS.sq (TS.bk 0 (TS.sq (TS.rg ?_))))))))
 refine TI.ra 4 [0, 1, 4, 15] (st 69 [(0, sv 0 1 1), (1, iv p1), (4, pt 2 0), (15, .bool false)]) (TI.dn (NX.sq (TS.cdF (.tmp 15) (TS.sq (TS.rg (TI.ra 4 [0, 1, 4, 20] (st 69 [(0, sv 0 1 1), (1, iv p1), (4, pt 2 0), (20, .bool false)]) (TI.dn (NX.sq ?_))))))))
 refine TS.cdF (.tmp 20) (TS.sk (NX.bk (NX.sq (TS.sq (TS.sq (TS.rg (TI.ra 3 [0, 1, 4, 25, 26, 27] (st 69 [(0, sv 0 1 1), (1, iv p1), (4, pt 2 0), (25, sv 0 1 1), (26, iv 1), (27, iv 0)]) (TI.dn ?_))))))))
 refine NX.sq (TS.bk 1 (TS.lp (TL.round (TS.sq (TS.rg (TI.ra 1 [0, 1, 4, 25, 26, 27, 28] (st 69 [(0, sv 0 1 1), (1, iv p1), (4, pt 2 0), (25, sv 0 1 1), (26, iv 1), (27, iv 0), (28, .bool true)]) (TI.dn (NX.sq ?_))))))))
 refine TS.sq (TS.cdT (.tmp 28) (TS.sk (NX.sq (TS.sq (TS.bk 2 (TS.sq (TS.rg (TI.ra 3 [0, 1, 4, 7, 25, 26, 27] (st 69 [(0, sv 0 1 1), (1, iv p1), (4, pt 2 0), (7, sv 1 p0.length ANY), (25, sv 0 1 1), (26, iv 1), (27, iv 0)]) ?_))))))))
 refine TI.dn (NX.sq (TS.sq ?_))
 obtain ⟨r1, h2, hF⟩ := of_do hF
 refine TS.rg (TI.ra 1 [0, 1, 4, 25, 26, 27, 31] (st 69 [(0, sv 0 1 1), (1, iv p1), (4, pt 2 0), (25, sv 0 1 1), (26, iv 1), (27, iv 0), (31, sv 1 p0.length ANY)]) (TI.cp 22 [sv 1 p0.length ANY] (iv r1) [] (PureSim.ren (hc := [ab 55 e55 p0]) (fun i => List.getD [(1, 0)] i (0, 0)) (C22 _ _ h2) (.ac (.nil _)) (.cons (Rn.any _ _ _ _ _ _ (nl rfl) rfl rfl (by decide)) .nil) (.flat (by kernel_rfl)) newflat_nil) (TI.ra 1 [0, 1, 4, 8, 25, 26, 27] (st 69 [(0, sv 0 1 1), (1, iv p1), (4, pt 2 0), (8, iv r1), (25, sv 0 1 1), (26, iv 1), (27, iv 0)]) (TI.dn (NX.sq (TS.sq (TS.rg (TI.ra 2 [0, 1, 4, 8, 25, 26, 27, 34] (st 69 [(0, sv 0 1 1), (1, iv p1), (4, pt 2 0), (8, iv r1), (25, sv 0 1 1), (26, iv 1), (27, iv 0), (34, .bool (r1 != 0))]) ?_))))))))
 refine TI.dn (NX.sq ?_)
 refine TS.cd (.tmp 34) (r1 != 0) (fun hc3 => ?_) (fun hc3 => ?_)
 · replace hF := of_pos hF hc3
   refine TS.sq (TS.rg (TI.ra 4 [4, 5] (st 69 [(4, pt 2 0), (5, iv r1)]) (TI.dn (NX.sq (TS.rt (NX.bkR (NX.sqR ?_)))))))
   refine Rd.out (by simp) (NX.bkR (NX.sqR ?_))
   have hF := sj hF
   subst hF
   exact ⟨.inr rfl, rfl, .tuple ⟨[ag [iv 0, iv 0], iv r1]⟩, by kernel_rfl, WkV.flat0 (by kernel_rfl) (nl rfl)⟩
 replace hF := of_neg hF hc3
 refine TS.sk (NX.bk (NX.sq (TS.rg (TI.ra 2 [0, 1, 4, 25, 26, 27] (st 69 [(0, sv 0 1 1), (1, iv p1), (4, pt 2 0), (25, sv 0 1 1), (26, iv 1), (27, iv 1)]) (TI.dn ?_)))))
 refine Rd.again Wk.refl (TL.round (TS.sq (TS.rg (TI.ra 1 [0, 1, 4, 25, 26, 27, 28] (st 69 [(0, sv 0 1 1), (1, iv p1), (4, pt 2 0), (25, sv 0 1 1), (26, iv 1), (27, iv 1), (28, .bool false)]) (TI.dn (NX.sq (TS.sq (TS.cdF (.tmp 28) (TS.ex 1 ?_)))))))))
 refine NX.sqX ?_
 refine Rd.out (by simp) (NX.bkX (NX.sq (TS.sq (TS.sq ?_))))
 obtain ⟨r4, h5, hF⟩ := of_do hF
 refine TS.rg (TI.ra 1 [0, 1, 4, 38] (st 69 [(0, sv 0 1 1), (1, iv p1), (4, pt 2 0), (38, iv p1)]) (TI.cf (C53 _ _ h5) (TI.ra 1 [0, 1, 4, 40] (st 69 [(0, sv 0 1 1), (1, iv p1), (4, pt 2 0), (40, .bool (!r4))]) (TI.dn (NX.sq ?_)))))
 refine TS.cd (.tmp 40) (!r4) (fun hc6 => ?_) (fun hc6 => ?_)
 · replace hF := of_pos hF hc6
   refine TS.sq (TS.rg (TI.ra 3 [4, 5] (st 69 [(4, pt 2 0), (5, iv 1)]) (TI.dn (NX.sq (TS.rt (NX.sqR ?_))))))
   have hF := sj hF
   subst hF
   exact ⟨.inr rfl, rfl, .tuple ⟨[ag [iv 0, iv 0], iv 1]⟩, by kernel_rfl, WkV.flat0 (by kernel_rfl) (nl rfl)⟩
 replace hF := of_neg hF hc6
 refine TS.sk (NX.sq (TS.sq ?_))
 obtain ⟨r7, h8, hF⟩ := of_do hF
 refine TS.rg (TI.ra 1 [0, 4, 42] (st 69 [(0, sv 0 1 1), (4, pt 2 0), (42, iv p1)]) (TI.cf (C55 _ _ h8) (TI.rn 2 [0, 4, 9] [0, 1, 2, 3] (st 69 [(0, sv 0 1 1), (4, pt 2 0), (9, pt 3 0)]) [cl 23 [sv 1 p0.length ANY], ab 55 e55 p0, cl 29 [iv 0, iv 0], cl 101 [iv r7.1, iv r7.2]] (TI.dn (NX.sq (TS.sq (TS.rg (TI.ra 1 [0, 4, 9, 10] (st 69 [(0, sv 0 1 1), (4, pt 2 0), (9, pt 3 0), (10, .slice none 0 0)]) ?_))))))))
 refine TI.dn (NX.sq (TS.sq (TS.sq (TS.rg (TI.ra 3 [4, 9, 10, 44, 45, 46] (st 69 [(4, pt 2 0), (9, pt 3 0), (10, .slice none 0 0), (44, sv 0 1 1), (45, iv 1), (46, iv 0)]) (TI.dn (NX.sq (TS.bk 3 ?_))))))))
 refine TS.lp (TL.round (TS.sq (TS.rg (TI.ra 1 [4, 9, 10, 44, 45, 46, 47] (st 69 [(4, pt 2 0), (9, pt 3 0), (10, .slice none 0 0), (44, sv 0 1 1), (45, iv 1), (46, iv 0), (47, .bool true)]) (TI.dn (NX.sq (TS.sq (TS.cdT (.tmp 47) ?_))))))))
 refine TS.sk (NX.sq (TS.sq (TS.bk 4 (TS.sq (TS.rg (TI.ra 3 [4, 9, 10, 12, 44, 45, 46] (st 69 [(4, pt 2 0), (9, pt 3 0), (10, .slice none 0 0), (12, sv 1 p0.length ANY), (44, sv 0 1 1), (45, iv 1), (46, iv 0)]) (TI.dn (NX.sq ?_))))))))
 refine TS.sq (TS.rg (TI.ra 3 [4, 9, 10, 13, 44, 45, 46] (st 69 [(4, pt 2 0), (9, pt 3 0), (10, .slice none 0 0), (13, .func (.func 54) ⟨[sv 1 p0.length ANY]⟩ ⟨[]⟩), (44, sv 0 1 1), (45, iv 1), (46, iv 0)]) (TI.dn (NX.sq (TS.sq ?_)))))
 obtain ⟨r9, h10, hF⟩ := of_do hF
 refine TS.rg (TI.ra 2 [4, 9, 10, 44, 45, 46, 52, 53] (st 69 [(4, pt 2 0), (9, pt 3 0), (10, .slice none 0 0), (44, sv 0 1 1), (45, iv 1), (46, iv 0), (52, .func (.func 54) ⟨[sv 1 p0.length ANY]⟩ ⟨[]⟩), (53, ag [iv r7.1, iv r7.2])]) (TI.cp 54 [sv 1 p0.length ANY, ag [iv r7.1, iv r7.2]] (ag [iv r9.1, iv r9.2]) [] (PureSim.ren (hc := [ab 55 e55 p0]) (fun i => List.getD [(1, 0)] i (0, 0)) (C54 _ _ _ _ h10) (.ac (.nil _)) (.cons (Rn.any _ _ _ _ _ _ (nl rfl) rfl rfl (by decide)) (.fl .nil)) (.flat (by kernel_rfl)) newflat_nil) (TI.rn 2 [4, 9, 10, 14, 44, 45, 46] [0, 1, 2, 3, 4] (st 69 [(4, pt 2 0), (9, pt 3 0), (10, .slice none 0 0), (14, pt 4 0), (44, sv 0 1 1), (45, iv 1), (46, iv 0)]) [cl 23 [sv 1 p0.length ANY], ab 55 e55 p0, cl 29 [iv 0, iv 0], cl 101 [iv r7.1, iv r7.2], cl 101 [iv r9.1, iv r9.2]] (TI.dn (NX.sq (TS.sq (TS.rg (TI.rn 3 [4, 9, 14, 44, 45, 46, 55, 57] [0, 1, 2, 3, 4, 5] (st 69 [(4, pt 2 0), (9, pt 3 0), (14, pt 4 0), (44, sv 0 1 1), (45, iv 1), (46, iv 0), (55, .slice none 0 0), (57, sv 5 1 1)]) (H31_0 p0 r7 r9) ?_))))))))
 refine TI.o { val := sv 6 (List.length [(r9.1, r9.2)]) UNK, new := [.cells 101 (List.flatMap e101 ([(r9.1, r9.2)]))] } (q_appN (P := Try.prog) (base := 2) (hp := (H31_0 p0 r7 r9)) (n := 6) (ts := #[111, 111]) (e := 101) (bytes := 16) (z := ag [iv 0, iv 0]) (y := sv 5 1 1) (ys := [(r9.1, r9.2)]) (xs := List.flatMap e101 ([(r9.1, r9.2)])) (m := 1) (s := 2) (enc := e101) (by kernel_rfl) (by kernel_rfl) (by kernel_rfl) (by kernel_rfl) (by kernel_rfl) (by kernel_rfl) (by kernel_rfl) (by kernel_rfl) rfl rfl (by omega)) [4, 9, 14, 44, 45, 46, 58] [0, 1, 2, 3, 4, 6] (st 69 [(4, pt 2 0), (9, pt 3 0), (14, pt 4 0), (44, sv 0 1 1), (45, iv 1), (46, iv 0), (58, sv 6 (List.length [(r9.1, r9.2)]) UNK)]) [cl 23 [sv 1 p0.length ANY], ab 55 e55 p0, cl 29 [iv 0, iv 0], cl 101 [iv r7.1, iv r7.2], cl 101 [iv r9.1, iv r9.2], .dead, .cells 101 (List.flatMap e101 ([(r9.1, r9.2)]))] (TI.ra 1 [4, 9, 10, 14, 44, 45, 46] (st 69 [(4, pt 2 0), (9, pt 3 0), (10, sv 6 (List.length [(r9.1, r9.2)]) UNK), (14, pt 4 0), (44, sv 0 1 1), (45, iv 1), (46, iv 0)]) (TI.dn (NX.sq ?_)))
 obtain ⟨r11, h12, hF⟩ := of_do hF
 obtain ⟨r13, h14, hF⟩ := of_do hF
 refine TS.rg (TI.rn 3 [4, 9, 10, 44, 45, 46, 59, 61] [0, 1, 2, 3, 6, 7] (st 69 [(4, pt 2 0), (9, pt 3 0), (10, sv 6 (List.length [(r9.1, r9.2)]) UNK), (44, sv 0 1 1), (45, iv 1), (46, iv 0), (59, ag [iv r7.1, iv r7.2]), (61, sv 7 1 1)]) [cl 23 [sv 1 p0.length ANY], ab 55 e55 p0, cl 29 [iv 0, iv 0], cl 101 [iv r7.1, iv r7.2], .dead, .dead, .cells 101 (List.flatMap e101 ([(r9.1, r9.2)])), cl 101 [iv r9.1, iv r9.2]] (TI.callM (g := 77) (args := [ag [iv r7.1, iv r7.2], sv 7 1 1]) (v := ag [iv r11.1, iv r11.2]) (new := []) (by kernel_rfl) (PureSim.ren (hc := [accB 101 (List.length ([(r9.1, r9.2)])) (List.flatMap e101 ([(r9.1, r9.2)]))]) (fun i => List.getD [(7, 0)] i (0, 0)) (C77 _ _ _ _ h12) (.cons (At.accU (by kernel_rfl) rfl (fun _ => rfl)) (.nil _)) (.fl (.cons (Rn.any _ _ _ _ _ _ (nl rfl) rfl rfl (by decide)) .nil)) (.flat (by kernel_rfl)) newflat_nil) [4, 9, 10, 44, 45, 46, 62] [0, 1, 2, 3, 6] (a2 := (st 69 [(4, pt 2 0), (9, pt 3 0), (10, sv 6 (List.length [(r9.1, r9.2)]) UNK), (44, sv 0 1 1), (45, iv 1), (46, iv 0), (62, ag [iv r11.1, iv r11.2])])) (h2 := [cl 23 [sv 1 p0.length ANY], ab 55 e55 p0, cl 29 [iv 0, iv 0], cl 101 [iv r7.1, iv r7.2], .dead, .dead, .cells 101 (List.flatMap e101 ([(r9.1, r9.2)])), .dead]) (by kernel_rfl) (TI.cf (C73 _ _ _ h14) (TI.rn 1 [4, 9, 10, 44, 45, 46] [0, 1, 2, 3, 6] (st 69 [(4, pt 2 0), (9, pt 3 0), (10, sv 6 (List.length [(r9.1, r9.2)]) UNK), (44, sv 0 1 1), (45, iv 1), (46, iv 0)]) [cl 23 [sv 1 p0.length ANY], ab 55 e55 p0, cl 29 [iv 0, iv 0], cl 101 [iv r13.1, iv r13.2], .dead, .dead, .cells 101 (List.flatMap e101 ([(r9.1, r9.2)])), .dead] (TI.dn (NX.bk (NX.sq (TS.rg ?_))))))))
 refine TI.ra 2 [4, 9, 10, 44, 45, 46] (st 69 [(4, pt 2 0), (9, pt 3 0), (10, sv 6 (List.length [(r9.1, r9.2)]) UNK), (44, sv 0 1 1), (45, iv 1), (46, iv 1)]) (TI.dn ?_)
 refine Rd.again Wk.refl (TL.round (TS.sq (TS.rg (TI.ra 1 [4, 9, 10, 44, 45, 46, 47] (st 69 [(4, pt 2 0), (9, pt 3 0), (10, sv 6 (List.length [(r9.1, r9.2)]) UNK), (44, sv 0 1 1), (45, iv 1), (46, iv 1), (47, .bool false)]) (TI.dn (NX.sq (TS.sq (TS.cdF (.tmp 47) (TS.ex 3 ?_)))))))))
 refine NX.sqX ?_
 refine Rd.out (by simp) (NX.bkX (NX.sq (TS.sq ?_)))
 obtain ⟨r15, h16, hF⟩ := of_do hF
 obtain ⟨r17, h18, hF⟩ := of_do hF
 obtain ⟨r19, h20, hF⟩ := of_do hF
 refine TS.rg (TI.cf (C55 _ _ h16) (TI.rn 1 [4, 65, 66] [0, 1, 2, 6] (st 69 [(4, pt 2 0), (65, ag [iv r15.1, iv r15.2]), (66, sv 6 (List.length [(r9.1, r9.2)]) UNK)]) [cl 23 [sv 1 p0.length ANY], ab 55 e55 p0, cl 29 [iv 0, iv 0], .dead, .dead, .dead, .cells 101 (List.flatMap e101 ([(r9.1, r9.2)])), .dead] (TI.callM (g := 77) (args := [ag [iv r15.1, iv r15.2], sv 6 (List.length [(r9.1, r9.2)]) UNK]) (v := ag [iv r17.1, iv r17.2]) (new := []) (by kernel_rfl) (PureSim.ren (hc := [accB 101 (List.length ([(r9.1, r9.2)])) (List.flatMap e101 ([(r9.1, r9.2)]))]) (fun i => List.getD [(6, 0)] i (0, 0)) (C77 _ _ _ _ h18) (.cons (At.accU (by kernel_rfl) rfl (fun _ => rfl)) (.nil _)) (.fl (.cons (Rn.any _ _ _ _ _ _ (nl rfl) rfl rfl (by decide)) .nil)) (.flat (by kernel_rfl)) newflat_nil) [4, 67] [0, 1, 2] (a2 := (st 69 [(4, pt 2 0), (67, ag [iv r17.1, iv r17.2])])) (h2 := [cl 23 [sv 1 p0.length ANY], ab 55 e55 p0, cl 29 [iv 0, iv 0], .dead, .dead, .dead, .dead, .dead]) (by kernel_rfl) (TI.cf (C56 _ _ _ h20) (TI.rn 2 [4, 5] [0, 1, 2] (st 69 [(4, pt 2 0), (5, iv 0)]) [cl 23 [sv 1 p0.length ANY], ab 55 e55 p0, cl 29 [iv r19.1, iv r19.2], .dead, .dead, .dead, .dead, .dead] (TI.dn (NX.sq (TS.rt ?_))))))))
 have hF := sj hF
 subst hF
 exact ⟨.inr rfl, rfl, .tuple ⟨[ag [iv r19.1, iv r19.2], iv 0]⟩, by kernel_rfl, WkV.flat0 (by kernel_rfl) (nl rfl)⟩
theorem C31 (p0 : List I2) (p1 : Int) (r : I2 × Int) (hF : F31 p0 p1 = some r) : PureSim Try.prog 31 [sv 0 1 1, iv p1] [cl 23 [sv 1 p0.length ANY], ab 55 e55 p0] (V31 2 r) (N31 2 r) :=
 PureSim.of_Fin Try.func31 (c := c31) (by kernel_rfl) (by kernel_rfl) 2 rfl [0, 1] [0, 1] (by kernel_rfl) (B31 p0 p1 r hF)
noncomputable def c31k1 : Code := Try.f31.code
def H31k1_0 (p0 p1 : List I2) (r16 r12 r18 : I2) : List Blk := [cl 23 [sv 1 p0.length ANY, sv 2 p1.length ANY], ab 55 e55 p0, ab 55 e55 p1, cl 29 [iv 0, iv 0], cl 101 [iv r16.1, iv r16.2], .dead, .dead, .cells 101 (List.flatMap e101 ([(r12.1, r12.2)])), .dead, cl 101 [iv r18.1, iv r18.2], cl 101 [iv r18.1, iv r18.2]]
def H31k1_1 (p0 p1 : List I2) (r10 r12 : I2) : List Blk := [cl 23 [sv 1 p0.length ANY, sv 2 p1.length ANY], ab 55 e55 p0, ab 55 e55 p1, cl 29 [iv 0, iv 0], cl 101 [iv r10.1, iv r10.2], cl 101 [iv r12.1, iv r12.2], cl 101 [iv r12.1, iv r12.2]]
def H31k1_2 (p0 p1 : List I2) : List Blk := [cl 23 [sv 1 p0.length ANY, sv 2 p1.length ANY], ab 55 e55 p0, ab 55 e55 p1]
def F31k1 (p0 p1 : List I2) (p2 : Int) : Option (I2 × Int) :=
 F22 p0 >>= fun r1 =>
 if r1 != 0 then
  some ((0, 0), r1)
 else
  F22 p1 >>= fun r4 =>
  if r4 != 0 then
   some ((0, 0), r4)
  else
   F53 p2 >>= fun r7 =>
   if !r7 then
    some ((0, 0), 1)
   else
    F55 p2 >>= fun r10 =>
    F54 p0 r10.1 r10.2 >>= fun r12 =>
    F77 r10.1 r10.2 ([(r12.1, r12.2)]) >>= fun r14 =>
    F73 r14.1 r14.2 >>= fun r16 =>
    F54 p1 r16.1 r16.2 >>= fun r18 =>
    if List.length ([(r12.1, r12.2)]) ≤ 1000000000 then
     F77 r16.1 r16.2 ([(r18.1, r18.2)]) >>= fun r21 =>
     F73 r21.1 r21.2 >>= fun r23 =>
     F55 0 >>= fun r25 =>
     F77 r25.1 r25.2 (([(r12.1, r12.2)]) ++ [(r18.1, r18.2)]) >>= fun r27 =>
     F56 r27.1 r27.2 >>= fun r29 =>
     some ((r29.1, r29.2), 0)
    else none
def V31k1 (b : Nat) (r : I2 × Int) : Value := .tuple ⟨[ag [iv r.1.1, iv r.1.2], iv r.2]⟩
def N31k1 (b : Nat) (r : I2 × Int) : List Blk := []
theorem B31k1 (p0 p1 : List I2) (p2 : Int) (r : I2 × Int) (hF : F31k1 p0 p1 p2 = some r) : TS Try.prog 3 3 c31k1 (st 69 [(0, sv 0 2 2), (1, iv p2)]) (H31k1_2 p0 p1) (NX Try.prog 3 3 [] (FinP Try.prog Try.f31 3 (V31k1 3 r) (N31k1 3 r))) := by
 unfold F31k1 at hF
 refine TS.sq (TS.rg (TI.rn 2 [0, 1, 4] [0, 1, 2, 3] (st 69 [(0, sv 0 2 2), (1, iv p2), (4, pt 3 0)]) [cl 23 [sv 1 p0.length ANY, sv 2 p1.length ANY], ab 55 e55 p0, ab 55 e55 p1, cl 29 [iv 0, iv 0]] (TI.dn (NX.sq (TS.sq (TS.bk 0 (TS.sq (TS.rg ?_))))))))
 refine TI.ra 4 [0, 1, 4, 15] (st 69 [(0, sv 0 2 2), (1, iv p2), (4, pt 3 0), (15, .bool false)]) (TI.dn (NX.sq (TS.cdF (.tmp 15) (TS.sq (TS.rg (TI.ra 4 [0, 1, 4, 20] (st 69 [(0, sv 0 2 2), (1, iv p2), (4, pt 3 0), (20, .bool false)]) (TI.dn (NX.sq ?_))))))))
 refine TS.cdF (.tmp 20) (TS.sk (NX.bk (NX.sq (TS.sq (TS.sq (TS.rg (TI.ra 3 [0, 1, 4, 25, 26, 27] (st 69 [(0, sv 0 2 2), (1, iv p2), (4, pt 3 0), (25, sv 0 2 2), (26, iv 2), (27, iv 0)]) (TI.dn ?_))))))))
 refine NX.sq (TS.bk 1 (TS.lp (TL.round (TS.sq (TS.rg (TI.ra 1 [0, 1, 4, 25, 26, 27, 28] (st 69 [(0, sv 0 2 2), (1, iv p2), (4, pt 3 0), (25, sv 0 2 2), (26, iv 2), (27, iv 0), (28, .bool true)]) (TI.dn (NX.sq ?_))))))))
 refine TS.sq (TS.cdT (.tmp 28) (TS.sk (NX.sq (TS.sq (TS.bk 2 (TS.sq (TS.rg (TI.ra 3 [0, 1, 4, 7, 25, 26, 27] (st 69 [(0, sv 0 2 2), (1, iv p2), (4, pt 3 0), (7, sv 1 p0.length ANY), (25, sv 0 2 2), (26, iv 2), (27, iv 0)]) ?_))))))))
 refine TI.dn (NX.sq (TS.sq ?_))
 obtain ⟨r1, h2, hF⟩ := of_do hF
 refine TS.rg (TI.ra 1 [0, 1, 4, 25, 26, 27, 31] (st 69 [(0, sv 0 2 2), (1, iv p2), (4, pt 3 0), (25, sv 0 2 2), (26, iv 2), (27, iv 0), (31, sv 1 p0.length ANY)]) (TI.cp 22 [sv 1 p0.length ANY] (iv r1) [] (PureSim.ren (hc := [ab 55 e55 p0]) (fun i => List.getD [(1, 0)] i (0, 0)) (C22 _ _ h2) (.ac (.nil _)) (.cons (Rn.any _ _ _ _ _ _ (nl rfl) rfl rfl (by decide)) .nil) (.flat (by kernel_rfl)) newflat_nil) (TI.ra 1 [0, 1, 4, 8, 25, 26, 27] (st 69 [(0, sv 0 2 2), (1, iv p2), (4, pt 3 0), (8, iv r1), (25, sv 0 2 2), (26, iv 2), (27, iv 0)]) (TI.dn (NX.sq (TS.sq (TS.rg (TI.ra 2 [0, 1, 4, 8, 25, 26, 27, 34] (st 69 [(0, sv 0 2 2), (1, iv p2), (4, pt 3 0), (8, iv r1), (25, sv 0 2 2), (26, iv 2), (27, iv 0), (34, .bool (r1 != 0))]) ?_))))))))
 refine TI.dn (NX.sq ?_)
 refine TS.cd (.tmp 34) (r1 != 0) (fun hc3 => ?_) (fun hc3 => ?_)
 · replace hF := of_pos hF hc3
   refine TS.sq (TS.rg (TI.ra 4 [4, 5] (st 69 [(4, pt 3 0), (5, iv r1)]) (TI.dn (NX.sq (TS.rt (NX.bkR (NX.sqR ?_)))))))
   refine Rd.out (by simp) (NX.bkR (NX.sqR ?_))
   have hF := sj hF
   subst hF
   exact ⟨.inr rfl, rfl, .tuple ⟨[ag [iv 0, iv 0], iv r1]⟩, by kernel_rfl, WkV.flat0 (by kernel_rfl) (nl rfl)⟩
 replace hF := of_neg hF hc3
 refine TS.sk (NX.bk (NX.sq (TS.rg (TI.ra 2 [0, 1, 4, 25, 26, 27] (st 69 [(0, sv 0 2 2), (1, iv p2), (4, pt 3 0), (25, sv 0 2 2), (26, iv 2), (27, iv 1)]) (TI.dn ?_)))))
 refine Rd.again Wk.refl (TL.round (TS.sq (TS.rg (TI.ra 1 [0, 1, 4, 25, 26, 27, 28] (st 69 [(0, sv 0 2 2), (1, iv p2), (4, pt 3 0), (25, sv 0 2 2), (26, iv 2), (27, iv 1), (28, .bool true)]) (TI.dn (NX.sq (TS.sq (TS.cdT (.tmp 28) (TS.sk ?_)))))))))
 refine NX.sq (TS.sq (TS.bk 2 (TS.sq (TS.rg (TI.ra 3 [0, 1, 4, 7, 25, 26, 27] (st 69 [(0, sv 0 2 2), (1, iv p2), (4, pt 3 0), (7, sv 2 p1.length ANY), (25, sv 0 2 2), (26, iv 2), (27, iv 1)]) (TI.dn (NX.sq (TS.sq ?_))))))))
 obtain ⟨r4, h5, hF⟩ := of_do hF
 refine TS.rg (TI.ra 1 [0, 1, 4, 25, 26, 27, 31] (st 69 [(0, sv 0 2 2), (1, iv p2), (4, pt 3 0), (25, sv 0 2 2), (26, iv 2), (27, iv 1), (31, sv 2 p1.length ANY)]) (TI.cp 22 [sv 2 p1.length ANY] (iv r4) [] (PureSim.ren (hc := [ab 55 e55 p1]) (fun i => List.getD [(2, 0)] i (0, 0)) (C22 _ _ h5) (.ac (.nil _)) (.cons (Rn.any _ _ _ _ _ _ (nl rfl) rfl rfl (by decide)) .nil) (.flat (by kernel_rfl)) newflat_nil) (TI.ra 1 [0, 1, 4, 8, 25, 26, 27] (st 69 [(0, sv 0 2 2), (1, iv p2), (4, pt 3 0), (8, iv r4), (25, sv 0 2 2), (26, iv 2), (27, iv 1)]) (TI.dn (NX.sq (TS.sq (TS.rg (TI.ra 2 [0, 1, 4, 8, 25, 26, 27, 34] (st 69 [(0, sv 0 2 2), (1, iv p2), (4, pt 3 0), (8, iv r4), (25, sv 0 2 2), (26, iv 2), (27, iv 1), (34, .bool (r4 != 0))]) ?_))))))))
 refine TI.dn (NX.sq ?_)
 refine TS.cd (.tmp 34) (r4 != 0) (fun hc6 => ?_) (fun hc6 => ?_)
 · replace hF := of_pos hF hc6
   refine TS.sq (TS.rg (TI.ra 4 [4, 5] (st 69 [(4, pt 3 0), (5, iv r4)]) (TI.dn (NX.sq (TS.rt (NX.bkR (NX.sqR ?_)))))))
   refine Rd.out (by simp) (NX.bkR (NX.sqR ?_))
   have hF := sj hF
   subst hF
   exact ⟨.inr rfl, rfl, .tuple ⟨[ag [iv 0, iv 0], iv r4]⟩, by kernel_rfl, WkV.flat0 (by kernel_rfl) (nl rfl)⟩
 replace hF := of_neg hF hc6
 refine TS.sk (NX.bk (NX.sq (TS.rg (TI.ra 2 [0, 1, 4, 25, 26, 27] (st 69 [(0, sv 0 2 2), (1, iv p2), (4, pt 3 0), (25, sv 0 2 2), (26, iv 2), (27, iv 2)]) (TI.dn ?_)))))
 refine Rd.again Wk.refl (TL.round (TS.sq (TS.rg (TI.ra 1 [0, 1, 4, 25, 26, 27, 28] (st 69 [(0, sv 0 2 2), (1, iv p2), (4, pt 3 0), (25, sv 0 2 2), (26, iv 2), (27, iv 2), (28, .bool false)]) (TI.dn (NX.sq (TS.sq (TS.cdF (.tmp 28) (TS.ex 1 ?_)))))))))
 refine NX.sqX ?_
 refine Rd.out (by simp) (NX.bkX (NX.sq (TS.sq (TS.sq ?_))))
 obtain ⟨r7, h8, hF⟩ := of_do hF
 refine TS.rg (TI.ra 1 [0, 1, 4, 38] (st 69 [(0, sv 0 2 2), (1, iv p2), (4, pt 3 0), (38, iv p2)]) (TI.cf (C53 _ _ h8) (TI.ra 1 [0, 1, 4, 40] (st 69 [(0, sv 0 2 2), (1, iv p2), (4, pt 3 0), (40, .bool (!r7))]) (TI.dn (NX.sq ?_)))))
 refine TS.cd (.tmp 40) (!r7) (fun hc9 => ?_) (fun hc9 => ?_)
 · replace hF := of_pos hF hc9
   refine TS.sq (TS.rg (TI.ra 3 [4, 5] (st 69 [(4, pt 3 0), (5, iv 1)]) (TI.dn (NX.sq (TS.rt (NX.sqR ?_))))))
   have hF := sj hF
   subst hF
   exact ⟨.inr rfl, rfl, .tuple ⟨[ag [iv 0, iv 0], iv 1]⟩, by kernel_rfl, WkV.flat0 (by kernel_rfl) (nl rfl)⟩
 replace hF := of_neg hF hc9
 refine TS.sk (NX.sq (TS.sq ?_))
 obtain ⟨r10, h11, hF⟩ := of_do hF
 refine TS.rg (TI.ra 1 [0, 4, 42] (st 69 [(0, sv 0 2 2), (4, pt 3 0), (42, iv p2)]) (TI.cf (C55 _ _ h11) (TI.rn 2 [0, 4, 9] [0, 1, 2, 3, 4] (st 69 [(0, sv 0 2 2), (4, pt 3 0), (9, pt 4 0)]) [cl 23 [sv 1 p0.length ANY, sv 2 p1.length ANY], ab 55 e55 p0, ab 55 e55 p1, cl 29 [iv 0, iv 0], cl 101 [iv r10.1, iv r10.2]] (TI.dn (NX.sq (TS.sq (TS.rg (TI.ra 1 [0, 4, 9, 10] (st 69 [(0, sv 0 2 2), (4, pt 3 0), (9, pt 4 0), (10, .slice none 0 0)]) ?_))))))))
 refine TI.dn (NX.sq (TS.sq (TS.sq (TS.rg (TI.ra 3 [4, 9, 10, 44, 45, 46] (st 69 [(4, pt 3 0), (9, pt 4 0), (10, .slice none 0 0), (44, sv 0 2 2), (45, iv 2), (46, iv 0)]) (TI.dn (NX.sq (TS.bk 3 ?_))))))))
 refine TS.lp (TL.round (TS.sq (TS.rg (TI.ra 1 [4, 9, 10, 44, 45, 46, 47] (st 69 [(4, pt 3 0), (9, pt 4 0), (10, .slice none 0 0), (44, sv 0 2 2), (45, iv 2), (46, iv 0), (47, .bool true)]) (TI.dn (NX.sq (TS.sq (TS.cdT (.tmp 47) ?_))))))))
 refine TS.sk (NX.sq (TS.sq (TS.bk 4 (TS.sq (TS.rg (TI.ra 3 [4, 9, 10, 12, 44, 45, 46] (st 69 [(4, pt 3 0), (9, pt 4 0), (10, .slice none 0 0), (12, sv 1 p0.length ANY), (44, sv 0 2 2), (45, iv 2), (46, iv 0)]) (TI.dn (NX.sq ?_))))))))
 refine TS.sq (TS.rg (TI.ra 3 [4, 9, 10, 13, 44, 45, 46] (st 69 [(4, pt 3 0), (9, pt 4 0), (10, .slice none 0 0), (13, .func (.func 54) ⟨[sv 1 p0.length ANY]⟩ ⟨[]⟩), (44, sv 0 2 2), (45, iv 2), (46, iv 0)]) (TI.dn (NX.sq (TS.sq ?_)))))
 obtain ⟨r12, h13, hF⟩ := of_do hF
 refine TS.rg (TI.ra 2 [4, 9, 10, 44, 45, 46, 52, 53] (st 69 [(4, pt 3 0), (9, pt 4 0), (10, .slice none 0 0), (44, sv 0 2 2), (45, iv 2), (46, iv 0), (52, .func (.func 54) ⟨[sv 1 p0.length ANY]⟩ ⟨[]⟩), (53, ag [iv r10.1, iv r10.2])]) (TI.cp 54 [sv 1 p0.length ANY, ag [iv r10.1, iv r10.2]] (ag [iv r12.1, iv r12.2]) [] (PureSim.ren (hc := [ab 55 e55 p0]) (fun i => List.getD [(1, 0)] i (0, 0)) (C54 _ _ _ _ h13) (.ac (.nil _)) (.cons (Rn.any _ _ _ _ _ _ (nl rfl) rfl rfl (by decide)) (.fl .nil)) (.flat (by kernel_rfl)) newflat_nil) (TI.rn 2 [4, 9, 10, 14, 44, 45, 46] [0, 1, 2, 3, 4, 5] (st 69 [(4, pt 3 0), (9, pt 4 0), (10, .slice none 0 0), (14, pt 5 0), (44, sv 0 2 2), (45, iv 2), (46, iv 0)]) [cl 23 [sv 1 p0.length ANY, sv 2 p1.length ANY], ab 55 e55 p0, ab 55 e55 p1, cl 29 [iv 0, iv 0], cl 101 [iv r10.1, iv r10.2], cl 101 [iv r12.1, iv r12.2]] (TI.dn (NX.sq (TS.sq (TS.rg (TI.rn 3 [4, 9, 14, 44, 45, 46, 55, 57] [0, 1, 2, 3, 4, 5, 6] (st 69 [(4, pt 3 0), (9, pt 4 0), (14, pt 5 0), (44, sv 0 2 2), (45, iv 2), (46, iv 0), (55, .slice none 0 0), (57, sv 6 1 1)]) (H31k1_1 p0 p1 r10 r12) ?_))))))))
 refine TI.o { val := sv 7 (List.length [(r12.1, r12.2)]) UNK, new := [.cells 101 (List.flatMap e101 ([(r12.1, r12.2)]))] } (q_appN (P := Try.prog) (base := 3) (hp := (H31k1_1 p0 p1 r10 r12)) (n := 7) (ts := #[111, 111]) (e := 101) (bytes := 16) (z := ag [iv 0, iv 0]) (y := sv 6 1 1) (ys := [(r12.1, r12.2)]) (xs := List.flatMap e101 ([(r12.1, r12.2)])) (m := 1) (s := 2) (enc := e101) (by kernel_rfl) (by kernel_rfl) (by kernel_rfl) (by kernel_rfl) (by kernel_rfl) (by kernel_rfl) (by kernel_rfl) (by kernel_rfl) rfl rfl (by omega)) [4, 9, 14, 44, 45, 46, 58] [0, 1, 2, 3, 4, 5, 7] (st 69 [(4, pt 3 0), (9, pt 4 0), (14, pt 5 0), (44, sv 0 2 2), (45, iv 2), (46, iv 0), (58, sv 7 (List.length [(r12.1, r12.2)]) UNK)]) [cl 23 [sv 1 p0.length ANY, sv 2 p1.length ANY], ab 55 e55 p0, ab 55 e55 p1, cl 29 [iv 0, iv 0], cl 101 [iv r10.1, iv r10.2], cl 101 [iv r12.1, iv r12.2], .dead, .cells 101 (List.flatMap e101 ([(r12.1, r12.2)]))] (TI.ra 1 [4, 9, 10, 14, 44, 45, 46] (st 69 [(4, pt 3 0), (9, pt 4 0), (10, sv 7 (List.length [(r12.1, r12.2)]) UNK), (14, pt 5 0), (44, sv 0 2 2), (45, iv 2), (46, iv 0)]) (TI.dn (NX.sq ?_)))
 obtain ⟨r14, h15, hF⟩ := of_do hF
 obtain ⟨r16, h17, hF⟩ := of_do hF
 refine TS.rg (TI.rn 3 [4, 9, 10, 44, 45, 46, 59, 61] [0, 1, 2, 3, 4, 7, 8] (st 69 [(4, pt 3 0), (9, pt 4 0), (10, sv 7 (List.length [(r12.1, r12.2)]) UNK), (44, sv 0 2 2), (45, iv 2), (46, iv 0), (59, ag [iv r10.1, iv r10.2]), (61, sv 8 1 1)]) [cl 23 [sv 1 p0.length ANY, sv 2 p1.length ANY], ab 55 e55 p0, ab 55 e55 p1, cl 29 [iv 0, iv 0], cl 101 [iv r10.1, iv r10.2], .dead, .dead, .cells 101 (List.flatMap e101 ([(r12.1, r12.2)])), cl 101 [iv r12.1, iv r12.2]] (TI.callM (g := 77) (args := [ag [iv r10.1, iv r10.2], sv 8 1 1]) (v := ag [iv r14.1, iv r14.2]) (new := []) (by kernel_rfl) (PureSim.ren (hc := [accB 101 (List.length ([(r12.1, r12.2)])) (List.flatMap e101 ([(r12.1, r12.2)]))]) (fun i => List.getD [(8, 0)] i (0, 0)) (C77 _ _ _ _ h15) (.cons (At.accU (by kernel_rfl) rfl (fun _ => rfl)) (.nil _)) (.fl (.cons (Rn.any _ _ _ _ _ _ (nl rfl) rfl rfl (by decide)) .nil)) (.flat (by kernel_rfl)) newflat_nil) [4, 9, 10, 44, 45, 46, 62] [0, 1, 2, 3, 4, 7] (a2 := (st 69 [(4, pt 3 0), (9, pt 4 0), (10, sv 7 (List.length [(r12.1, r12.2)]) UNK), (44, sv 0 2 2), (45, iv 2), (46, iv 0), (62, ag [iv r14.1, iv r14.2])])) (h2 := [cl 23 [sv 1 p0.length ANY, sv 2 p1.length ANY], ab 55 e55 p0, ab 55 e55 p1, cl 29 [iv 0, iv 0], cl 101 [iv r10.1, iv r10.2], .dead, .dead, .cells 101 (List.flatMap e101 ([(r12.1, r12.2)])), .dead]) (by kernel_rfl) (TI.cf (C73 _ _ _ h17) (TI.rn 1 [4, 9, 10, 44, 45, 46] [0, 1, 2, 3, 4, 7] (st 69 [(4, pt 3 0), (9, pt 4 0), (10, sv 7 (List.length [(r12.1, r12.2)]) UNK), (44, sv 0 2 2), (45, iv 2), (46, iv 0)]) [cl 23 [sv 1 p0.length ANY, sv 2 p1.length ANY], ab 55 e55 p0, ab 55 e55 p1, cl 29 [iv 0, iv 0], cl 101 [iv r16.1, iv r16.2], .dead, .dead, .cells 101 (List.flatMap e101 ([(r12.1, r12.2)])), .dead] (TI.dn (NX.bk (NX.sq (TS.rg ?_))))))))
 refine TI.ra 2 [4, 9, 10, 44, 45, 46] (st 69 [(4, pt 3 0), (9, pt 4 0), (10, sv 7 (List.length [(r12.1, r12.2)]) UNK), (44, sv 0 2 2), (45, iv 2), (46, iv 1)]) (TI.dn ?_)
 refine Rd.again Wk.refl (TL.round (TS.sq (TS.rg (TI.ra 1 [4, 9, 10, 44, 45, 46, 47] (st 69 [(4, pt 3 0), (9, pt 4 0), (10, sv 7 (List.length [(r12.1, r12.2)]) UNK), (44, sv 0 2 2), (45, iv 2), (46, iv 1), (47, .bool true)]) (TI.dn (NX.sq (TS.sq (TS.cdT (.tmp 47) (TS.sk ?_)))))))))
 refine NX.sq (TS.sq (TS.bk 4 (TS.sq (TS.rg (TI.ra 3 [4, 9, 10, 12, 44, 45, 46] (st 69 [(4, pt 3 0), (9, pt 4 0), (10, sv 7 (List.length [(r12.1, r12.2)]) UNK), (12, sv 2 p1.length ANY), (44, sv 0 2 2), (45, iv 2), (46, iv 1)]) (TI.dn (NX.sq (TS.sq ?_))))))))
 refine TS.rg (TI.ra 3 [4, 9, 10, 13, 44, 45, 46] (st 69 [(4, pt 3 0), (9, pt 4 0), (10, sv 7 (List.length [(r12.1, r12.2)]) UNK), (13, .func (.func 54) ⟨[sv 2 p1.length ANY]⟩ ⟨[]⟩), (44, sv 0 2 2), (45, iv 2), (46, iv 1)]) (TI.dn (NX.sq (TS.sq ?_))))
 obtain ⟨r18, h19, hF⟩ := of_do hF
 refine TS.rg (TI.ra 2 [4, 9, 10, 44, 45, 46, 52, 53] (st 69 [(4, pt 3 0), (9, pt 4 0), (10, sv 7 (List.length [(r12.1, r12.2)]) UNK), (44, sv 0 2 2), (45, iv 2), (46, iv 1), (52, .func (.func 54) ⟨[sv 2 p1.length ANY]⟩ ⟨[]⟩), (53, ag [iv r16.1, iv r16.2])]) (TI.cp 54 [sv 2 p1.length ANY, ag [iv r16.1, iv r16.2]] (ag [iv r18.1, iv r18.2]) [] (PureSim.ren (hc := [ab 55 e55 p1]) (fun i => List.getD [(2, 0)] i (0, 0)) (C54 _ _ _ _ h19) (.ac (.nil _)) (.cons (Rn.any _ _ _ _ _ _ (nl rfl) rfl rfl (by decide)) (.fl .nil)) (.flat (by kernel_rfl)) newflat_nil) (TI.rn 2 [4, 9, 10, 14, 44, 45, 46] [0, 1, 2, 3, 4, 7, 9] (st 69 [(4, pt 3 0), (9, pt 4 0), (10, sv 7 (List.length [(r12.1, r12.2)]) UNK), (14, pt 9 0), (44, sv 0 2 2), (45, iv 2), (46, iv 1)]) [cl 23 [sv 1 p0.length ANY, sv 2 p1.length ANY], ab 55 e55 p0, ab 55 e55 p1, cl 29 [iv 0, iv 0], cl 101 [iv r16.1, iv r16.2], .dead, .dead, .cells 101 (List.flatMap e101 ([(r12.1, r12.2)])), .dead, cl 101 [iv r18.1, iv r18.2]] (TI.dn (NX.sq (TS.sq ?_))))))
 obtain ⟨hg20, hF⟩ := of_guard hF
 refine TS.rg (TI.rn 3 [4, 9, 14, 44, 45, 46, 55, 57] [0, 1, 2, 3, 4, 7, 9, 10] (st 69 [(4, pt 3 0), (9, pt 4 0), (14, pt 9 0), (44, sv 0 2 2), (45, iv 2), (46, iv 1), (55, sv 7 (List.length [(r12.1, r12.2)]) UNK), (57, sv 10 1 1)]) (H31k1_0 p0 p1 r16 r12 r18) (TI.o { val := sv 11 (List.length (([(r12.1, r12.2)]) ++ [(r18.1, r18.2)])) UNK, new := [.cells 101 (List.flatMap e101 (([(r12.1, r12.2)]) ++ [(r18.1, r18.2)]))], upd := some (7, .dead) } (q_appU (P := Try.prog) (base := 3) (hp := (H31k1_0 p0 p1 r16 r12 r18)) (n := 11) (l := [(r12.1, r12.2)]) (b := 7) (ts := #[111, 111]) (e := 101) (bytes := 16) (z := ag [iv 0, iv 0]) (y := sv 10 1 1) (ys := [(r18.1, r18.2)]) (xs := List.flatMap e101 ([(r18.1, r18.2)])) (m := 1) (s := 2) (enc := e101) (by kernel_rfl) (by kernel_rfl) (by decide) (by kernel_rfl) (by kernel_rfl) (by kernel_rfl) (by kernel_rfl) (by kernel_rfl) (by kernel_rfl) (by kernel_rfl) (by kernel_rfl) (fun _ => rfl) rfl rfl (by omega)) [4, 9, 14, 44, 45, 46, 58] [0, 1, 2, 3, 4, 9, 11] (st 69 [(4, pt 3 0), (9, pt 4 0), (14, pt 9 0), (44, sv 0 2 2), (45, iv 2), (46, iv 1), (58, sv 11 (List.length (([(r12.1, r12.2)]) ++ [(r18.1, r18.2)])) UNK)]) [cl 23 [sv 1 p0.length ANY, sv 2 p1.length ANY], ab 55 e55 p0, ab 55 e55 p1, cl 29 [iv 0, iv 0], cl 101 [iv r16.1, iv r16.2], .dead, .dead, .dead, .dead, cl 101 [iv r18.1, iv r18.2], .dead, .cells 101 (List.flatMap e101 (([(r12.1, r12.2)]) ++ [(r18.1, r18.2)]))] (TI.ra 1 [4, 9, 10, 14, 44, 45, 46] (st 69 [(4, pt 3 0), (9, pt 4 0), (10, sv 11 (List.length (([(r12.1, r12.2)]) ++ [(r18.1, r18.2)])) UNK), (14, pt 9 0), (44, sv 0 2 2), (45, iv 2), (46, iv 1)]) (TI.dn (NX.sq ?_)))))
 obtain ⟨r21, h22, hF⟩ := of_do hF
 obtain ⟨r23, h24, hF⟩ := of_do hF
 refine TS.rg (TI.rn 3 [4, 9, 10, 44, 45, 46, 59, 61] [0, 1, 2, 3, 4, 11, 12] (st 69 [(4, pt 3 0), (9, pt 4 0), (10, sv 11 (List.length (([(r12.1, r12.2)]) ++ [(r18.1, r18.2)])) UNK), (44, sv 0 2 2), (45, iv 2), (46, iv 1), (59, ag [iv r16.1, iv r16.2]), (61, sv 12 1 1)]) [cl 23 [sv 1 p0.length ANY, sv 2 p1.length ANY], ab 55 e55 p0, ab 55 e55 p1, cl 29 [iv 0, iv 0], cl 101 [iv r16.1, iv r16.2], .dead, .dead, .dead, .dead, .dead, .dead, .cells 101 (List.flatMap e101 (([(r12.1, r12.2)]) ++ [(r18.1, r18.2)])), cl 101 [iv r18.1, iv r18.2]] (TI.callM (g := 77) (args := [ag [iv r16.1, iv r16.2], sv 12 1 1]) (v := ag [iv r21.1, iv r21.2]) (new := []) (by kernel_rfl) (PureSim.ren (hc := [accB 101 (List.length ([(r18.1, r18.2)])) (List.flatMap e101 ([(r18.1, r18.2)]))]) (fun i => List.getD [(12, 0)] i (0, 0)) (C77 _ _ _ _ h22) (.cons (At.accU (by kernel_rfl) rfl (fun _ => rfl)) (.nil _)) (.fl (.cons (Rn.any _ _ _ _ _ _ (nl rfl) rfl rfl (by decide)) .nil)) (.flat (by kernel_rfl)) newflat_nil) [4, 9, 10, 44, 45, 46, 62] [0, 1, 2, 3, 4, 11] (a2 := (st 69 [(4, pt 3 0), (9, pt 4 0), (10, sv 11 (List.length (([(r12.1, r12.2)]) ++ [(r18.1, r18.2)])) UNK), (44, sv 0 2 2), (45, iv 2), (46, iv 1), (62, ag [iv r21.1, iv r21.2])])) (h2 := [cl 23 [sv 1 p0.length ANY, sv 2 p1.length ANY], ab 55 e55 p0, ab 55 e55 p1, cl 29 [iv 0, iv 0], cl 101 [iv r16.1, iv r16.2], .dead, .dead, .dead, .dead, .dead, .dead, .cells 101 (List.flatMap e101 (([(r12.1, r12.2)]) ++ [(r18.1, r18.2)])), .dead]) (by kernel_rfl) (TI.cf (C73 _ _ _ h24) (TI.rn 1 [4, 9, 10, 44, 45, 46] [0, 1, 2, 3, 4, 11] (st 69 [(4, pt 3 0), (9, pt 4 0), (10, sv 11 (List.length (([(r12.1, r12.2)]) ++ [(r18.1, r18.2)])) UNK), (44, sv 0 2 2), (45, iv 2), (46, iv 1)]) [cl 23 [sv 1 p0.length ANY, sv 2 p1.length ANY], ab 55 e55 p0, ab 55 e55 p1, cl 29 [iv 0, iv 0], cl 101 [iv r23.1, iv r23.2], .dead, .dead, .dead, .dead, .dead, .dead, .cells 101 (List.flatMap e101 (([(r12.1, r12.2)]) ++ [(r18.1, r18.2)])), .dead] (TI.dn (NX.bk (NX.sq (TS.rg ?_))))))))
 refine TI.ra 2 [4, 9, 10, 44, 45, 46] (st 69 [(4, pt 3 0), (9, pt 4 0), (10, sv 11 (List.length (([(r12.1, r12.2)]) ++ [(r18.1, r18.2)])) UNK), (44, sv 0 2 2), (45, iv 2), (46, iv 2)]) (TI.dn ?_)
 refine Rd.again Wk.refl (TL.round (TS.sq (TS.rg (TI.ra 1 [4, 9, 10, 44, 45, 46, 47] (st 69 [(4, pt 3 0), (9, pt 4 0), (10, sv 11 (List.length (([(r12.1, r12.2)]) ++ [(r18.1, r18.2)])) UNK), (44, sv 0 2 2), (45, iv 2), (46, iv 2), (47, .bool false)]) (TI.dn (NX.sq (TS.sq (TS.cdF (.tmp 47) (TS.ex 3 ?_)))))))))
 refine NX.sqX ?_
 refine Rd.out (by simp) (NX.bkX (NX.sq (TS.sq ?_)))
 obtain ⟨r25, h26, hF⟩ := of_do hF
 obtain ⟨r27, h28, hF⟩ := of_do hF
 obtain ⟨r29, h30, hF⟩ := of_do hF
 refine TS.rg (TI.cf (C55 _ _ h26) (TI.rn 1 [4, 65, 66] [0, 1, 2, 3, 11] (st 69 [(4, pt 3 0), (65, ag [iv r25.1, iv r25.2]), (66, sv 11 (List.length (([(r12.1, r12.2)]) ++ [(r18.1, r18.2)])) UNK)]) [cl 23 [sv 1 p0.length ANY, sv 2 p1.length ANY], ab 55 e55 p0, ab 55 e55 p1, cl 29 [iv 0, iv 0], .dead, .dead, .dead, .dead, .dead, .dead, .dead, .cells 101 (List.flatMap e101 (([(r12.1, r12.2)]) ++ [(r18.1, r18.2)])), .dead] (TI.callM (g := 77) (args := [ag [iv r25.1, iv r25.2], sv 11 (List.length (([(r12.1, r12.2)]) ++ [(r18.1, r18.2)])) UNK]) (v := ag [iv r27.1, iv r27.2]) (new := []) (by kernel_rfl) (PureSim.ren (hc := [accB 101 (List.length (([(r12.1, r12.2)]) ++ [(r18.1, r18.2)])) (List.flatMap e101 (([(r12.1, r12.2)]) ++ [(r18.1, r18.2)]))]) (fun i => List.getD [(11, 0)] i (0, 0)) (C77 _ _ _ _ h28) (.cons (At.accU (by kernel_rfl) rfl (fun _ => rfl)) (.nil _)) (.fl (.cons (Rn.any _ _ _ _ _ _ (nl rfl) rfl rfl (by decide)) .nil)) (.flat (by kernel_rfl)) newflat_nil) [4, 67] [0, 1, 2, 3] (a2 := (st 69 [(4, pt 3 0), (67, ag [iv r27.1, iv r27.2])])) (h2 := [cl 23 [sv 1 p0.length ANY, sv 2 p1.length ANY], ab 55 e55 p0, ab 55 e55 p1, cl 29 [iv 0, iv 0], .dead, .dead, .dead, .dead, .dead, .dead, .dead, .dead, .dead]) (by kernel_rfl) (TI.cf (C56 _ _ _ h30) (TI.rn 2 [4, 5] [0, 1, 2, 3] (st 69 [(4, pt 3 0), (5, iv 0)]) [cl 23 [sv 1 p0.length ANY, sv 2 p1.length ANY], ab 55 e55 p0, ab 55 e55 p1, cl 29 [iv r29.1, iv r29.2], .dead, .dead, .dead, .dead, .dead, .dead, .dead, .dead, .dead] (TI.dn (NX.sq (TS.rt ?_))))))))
 have hF := sj hF
 subst hF
 exact ⟨.inr rfl, rfl, .tuple ⟨[ag [iv r29.1, iv r29.2], iv 0]⟩, by kernel_rfl, WkV.flat0 (by kernel_rfl) (nl rfl)⟩
theorem C31k1 (p0 p1 : List I2) (p2 : Int) (r : I2 × Int) (hF : F31k1 p0 p1 p2 = some r) : PureSim Try.prog 31 [sv 0 2 2, iv p2] (H31k1_2 p0 p1) (V31k1 3 r) (N31k1 3 r) :=
 PureSim.of_Fin Try.func31 (c := c31k1) (by kernel_rfl) (by kernel_rfl) 3 rfl [0, 1] [0, 1, 2] (by kernel_rfl) (B31k1 p0 p1 p2 r hF)
noncomputable def c11 : Code := Try.f11.code
def S11_0 (m37 : Int) (r32 : I2) (r9 : I2 × Int) : CAct := (st 187 [(14, pt 2 0), (19, pt 3 0), (154, pt 3 0), (155, iv m37), (156, pt 3 1), (157, iv r32.2), (158, iv (w64 (Int.tdiv m37 r32.2))), (159, pt 2 0), (160, iv r9.1.1), (161, pt 2 1), (162, iv r9.1.2), (163, iv (w64 (Int.tdiv r9.1.1 r9.1.2))), (164, .bool true), (165, .bool true), (166, pt 3 0), (167, iv m37), (168, pt 3 1), (169, iv r32.2), (170, iv (Int.tmod m37 r32.2)), (171, pt 2 1), (172, iv r9.1.2), (173, iv (w64 ((Int.tmod m37 r32.2) * r9.1.2))), (174, pt 2 0), (175, iv r9.1.1), (176, pt 2 1), (177, iv r9.1.2), (178, iv (Int.tmod r9.1.1 r9.1.2)), (179, pt 3 1), (180, iv r32.2), (181, iv (w64 ((Int.tmod r9.1.1 r9.1.2) * r32.2)))])
def S11_1 (m37 : Int) (r32 : I2) (r9 : I2 × Int) : CAct := (st 187 [(14, pt 2 0), (19, pt 3 0), (154, pt 3 0), (155, iv m37), (156, pt 3 1), (157, iv r32.2), (158, iv (w64 (Int.tdiv m37 r32.2))), (159, pt 2 0), (160, iv r9.1.1), (161, pt 2 1), (162, iv r9.1.2), (163, iv (w64 (Int.tdiv r9.1.1 r9.1.2))), (164, .bool true), (165, .bool true), (166, pt 3 0), (167, iv m37), (168, pt 3 1), (169, iv r32.2), (170, iv (Int.tmod m37 r32.2)), (171, pt 2 1), (172, iv r9.1.2), (173, iv (w64 ((Int.tmod m37 r32.2) * r9.1.2))), (174, pt 2 0), (175, iv r9.1.1), (176, pt 2 1), (177, iv r9.1.2)])
def S11_2 (m37 : Int) (r32 : I2) (r9 : I2 × Int) : CAct := (st 187 [(14, pt 2 0), (19, pt 3 0), (154, pt 3 0), (155, iv m37), (156, pt 3 1), (157, iv r32.2), (158, iv (w64 (Int.tdiv m37 r32.2))), (159, pt 2 0), (160, iv r9.1.1), (161, pt 2 1), (162, iv r9.1.2), (163, iv (w64 (Int.tdiv r9.1.1 r9.1.2))), (164, .bool true), (165, .bool true), (166, pt 3 0), (167, iv m37), (168, pt 3 1), (169, iv r32.2)])
def H11_3 (p0 p2 : List I2) (p1 p3 : Int) (r1 : List I2) : List Blk := [ab 81 e81 p0, ab 81 e81 p2, cl 72 [sv 0 p0.length ANY, .int .u8 p1], cl 72 [sv 1 p2.length ANY, .int .u8 p3], ab 55 e55 r1]
def H11_4 (p0 p2 r3 : List I2) (r5 r7 r9 : I2 × Int) : List Blk := [ab 81 e81 p0, ab 81 e81 p2, .dead, .dead, .dead, ab 55 e55 r3, cl 29 [iv r5.1.1, iv r5.1.2], .dead, cl 29 [iv r7.1.1, iv r7.1.2], .dead, cl 29 [iv r9.1.1, iv r9.1.2]]
def H11_5 (p0 p2 : List I2) (r5 r9 : I2 × Int) (r21 : I2) (r23 : I2 × Int) : List Blk := [ab 81 e81 p0, ab 81 e81 p2, .dead, .dead, .dead, .dead, cl 29 [iv r5.1.1, iv r5.1.2], .dead, .dead, .dead, cl 29 [iv r9.1.1, iv r9.1.2], cl 29 [iv r21.1, iv r21.2], cl 29 [iv r23.1.1, iv r23.1.2]]
def H11_6 (p0 p2 r3 : List I2) (r5 r9 : I2 × Int) : List Blk := [ab 81 e81 p0, ab 81 e81 p2, .dead, .dead, .dead, ab 55 e55 r3, cl 29 [iv r5.1.1, iv r5.1.2], .dead, .dead, .dead, cl 29 [iv r9.1.1, iv r9.1.2]]
def H11_7 (p0 p2 : List I2) (p1 p3 : Int) : List Blk := [ab 81 e81 p0, ab 81 e81 p2, cl 72 [sv 0 p0.length ANY, .int .u8 p1], cl 72 [sv 1 p2.length ANY, .int .u8 p3]]
def S11_8 (m37 : Int) (r32 : I2) (r9 : I2 × Int) : CAct := (st 187 [(14, pt 2 0), (19, pt 3 0), (154, pt 3 0), (155, iv m37), (156, pt 3 1), (157, iv r32.2), (158, iv (w64 (Int.tdiv m37 r32.2))), (159, pt 2 0), (160, iv r9.1.1), (161, pt 2 1), (162, iv r9.1.2)])
def S11_9 (r3 : List I2) (p4 : Int) (r9 : I2 × Int) : CAct := (st 187 [(8, accV 5 r3.length), (9, iv (Int.tmod (w64 p4) 3600)), (10, pt 6 0), (12, pt 8 0), (14, pt 10 0), (15, iv r9.2), (50, .bool false), (52, .bool false)])
def S11_10 (r3 : List I2) (p4 : Int) (r7 r9 : I2 × Int) : CAct := (st 187 [(8, accV 5 r3.length), (9, iv (Int.tmod (w64 p4) 3600)), (10, pt 6 0), (12, pt 8 0), (13, iv r7.2), (14, pt 10 0), (15, iv r9.2), (49, .bool false)])
def S11_11 (r3 : List I2) (p4 : Int) (r9 r7 : I2 × Int) : CAct := (st 187 [(8, accV 5 r3.length), (9, iv (Int.tmod (w64 p4) 3600)), (10, pt 6 0), (12, pt 8 0), (14, pt 10 0), (15, iv r9.2), (50, .bool false), (51, iv r7.2)])
def S11_12 (r3 : List I2) (p4 : Int) (r7 r9 r5 : I2 × Int) : CAct := (st 187 [(8, accV 5 r3.length), (9, iv (Int.tmod (w64 p4) 3600)), (10, pt 6 0), (12, pt 8 0), (13, iv r7.2), (14, pt 10 0), (15, iv r9.2), (48, iv r5.2)])
def S11_13 (r3 : List I2) (p4 : Int) : CAct := (st 187 [(8, accV 5 r3.length), (9, iv (Int.tmod (w64 p4) 3600)), (10, pt 6 0), (12, pt 8 0), (14, pt 10 0), (54, .bool false), (56, .bool false)])
def H11_14 (p0 p2 : List I2) (r9 : I2 × Int) (m37 : Int) (r32 : I2) : List Blk := [ab 81 e81 p0, ab 81 e81 p2, cl 29 [iv r9.1.1, iv r9.1.2], cl 29 [iv m37, iv r32.2]]
def S11_15 (r3 : List I2) (p4 : Int) (r9 : I2 × Int) : CAct := (st 187 [(8, accV 5 r3.length), (9, iv (Int.tmod (w64 p4) 3600)), (10, pt 6 0), (12, pt 8 0), (14, pt 10 0), (54, .bool false), (55, iv r9.2)])
def S11_16 (r3 : List I2) (p4 : Int) : CAct := (st 187 [(8, accV 5 r3.length), (9, iv (Int.tmod (w64 p4) 3600)), (10, pt 6 0), (14, pt 10 0), (67, .bool true)])
def H11_17 (p0 p2 : List I2) : List Blk := [ab 81 e81 p0, ab 81 e81 p2, .dead, .dead]
def S11_18  : CAct := (st 187 [(10, pt 6 0), (14, pt 10 0), (16, pt 11 0), (17, pt 12 0), (103, .bool false), (106, .bool false)])
def S11_19  : CAct := (st 187 [(10, pt 6 0), (14, pt 10 0), (16, pt 11 0), (17, pt 12 0), (98, .bool false), (101, .bool false)])
def S11_20 (r9 : I2 × Int) : CAct := (st 187 [(10, pt 6 0), (14, pt 10 0), (16, pt 11 0), (17, pt 12 0), (103, .bool false), (105, iv r9.1.2)])
def S11_21 (r9 : I2 × Int) : CAct := (st 187 [(10, pt 6 0), (14, pt 10 0), (16, pt 11 0), (17, pt 12 0), (98, .bool false), (100, iv r9.1.2)])
def S11_22 (m37 : Int) (r32 : I2) : CAct := (st 187 [(14, pt 2 0), (19, pt 3 0), (154, pt 3 0), (155, iv m37), (156, pt 3 1), (157, iv r32.2)])
def S11_23  : CAct := (st 187 [(10, pt 6 0), (14, pt 10 0), (16, pt 11 0), (17, pt 12 0), (117, .bool true)])
def S11_24  : CAct := (st 187 [(10, pt 6 0), (14, pt 10 0), (16, pt 11 0), (17, pt 12 0), (97, .bool false)])
def S11_25 (r23 : I2 × Int) : CAct := (st 187 [(10, pt 6 0), (14, pt 10 0), (16, pt 11 0), (17, pt 12 0), (96, iv r23.2)])
def F11 (p0 : List I2) (p1 : Int) (p2 : List I2) (p3 p4 : Int) : Option Bool :=
 F38 p0 p1 >>= fun r1 =>
 F38 p2 p3 >>= fun r3 =>
 F17 r1 (Int.tmod (w64 p4) 3600) >>= fun r5 =>
 F31 r1 (Int.tmod (w64 p4) 3600) >>= fun r7 =>
 F31k1 r1 r3 (Int.tmod (w64 p4) 3600) >>= fun r9 =>
 (
  if r5.2 != 0 then
   some (true)
  else
   if r7.2 != 0 then
    some (true)
   else
    if r9.2 != 0 then
     some (true)
    else
     if !((r7.1.1 == r5.1.1) && ((r7.1.2 == r5.1.2) && true)) then
      some (true)
     else
      F46 r5.1.1 r5.1.2 >>= fun r15 =>
      some (!r15)
 : Option Bool) >>= fun m17 =>
 if m17 then
  some false
 else
  if w64 (3600 * r5.1.2) = 0 then none else
  some (w64 ((Int.tmod (w64 ((w64 ((Int.tmod (w64 p4) 3600) * r5.1.2)) + r5.1.1)) (w64 (3600 * r5.1.2))) + (w64 (3600 * r5.1.2)))) >>= fun o19 =>
  F44 (Int.tmod o19 (w64 (3600 * r5.1.2))) r5.1.2 >>= fun r21 =>
  F41 r3 r21.1 r21.2 >>= fun r23 =>
  (
   if decide (r23.2 < 0) then
    some (true)
   else
    if decide (r9.1.2 < 1) then
     some (true)
    else
     if decide (r9.1.2 > 67108864) then
      some (true)
     else
      if decide (r9.1.1 > 274877906944) then
       some (true)
      else
       some (decide (r9.1.1 < (-274877906944)))
  : Option Bool) >>= fun m29 =>
  if m29 then
   some false
  else
   some (w64 ((w64 ((w64 (r5.1.1 * r23.1.2)) + (w64 (r23.1.1 * r5.1.2)))) - (w64 (r21.1 * r23.1.2)))) >>= fun o30 =>
   F44 o30 (w64 (r5.1.2 * r23.1.2)) >>= fun r32 =>
   (
    if decide (r32.1 ≥ (w64 (1800 * r32.2))) then
     some (w64 (r32.1 - (w64 (3600 * r32.2))))
    else
     some r32.1
   : Option Int) >>= fun m37 =>
   if r32.2 = 0 then none else
   if r9.1.2 = 0 then none else
   (
    if (w64 (Int.tdiv m37 r32.2)) == (w64 (Int.tdiv r9.1.1 r9.1.2)) then
     if (w64 ((Int.tmod m37 r32.2) * r9.1.2)) == (w64 ((Int.tmod r9.1.1 r9.1.2) * r32.2)) then
      F15 >>= fun r43 =>
      some (r43)
     else
      some (false)
    else
     some (false)
   : Option Bool) >>= fun m45 =>
   some m45
def V11 (b : Nat) (r : Bool) : Value := .bool r
def N11 (b : Nat) (r : Bool) : List Blk := []
theorem B11 (p0 : List I2) (p1 : Int) (p2 : List I2) (p3 p4 : Int) (r : Bool) (hF : F11 p0 p1 p2 p3 p4 = some r) : TS Try.prog 2 2 c11 (st 187 [(0, ag [sv 0 p0.length ANY, .int .u8 p1]), (1, ag [sv 1 p2.length ANY, .int .u8 p3]), (2, .int .u16 p4)]) [ab 81 e81 p0, ab 81 e81 p2] (NX Try.prog 2 2 [] (FinP Try.prog Try.f11 2 (V11 2 r) (N11 2 r))) := by
 unfold F11 at hF
 refine TS.sq (TS.rg (TI.rn 3 [2, 3, 4] [0, 1, 2, 3] (st 187 [(2, .int .u16 p4), (3, pt 2 0), (4, pt 3 0)]) (H11_7 p0 p2 p1 p3) (TI.dn (NX.sq (TS.sq ?_)))))
 obtain ⟨r1, h2, hF⟩ := of_do hF
 obtain ⟨r3, h4, hF⟩ := of_do hF
 have hT : ∀ e ∈ ([⟨38, [ag [sv 0 p0.length ANY, .int .u8 p1]], (H11_7 p0 p2 p1 p3), accV 4 r1.length, [ab 55 e55 r1]⟩, ⟨38, [ag [sv 1 p2.length ANY, .int .u8 p3]], (H11_3 p0 p2 p1 p3 r1), accV 5 r3.length, [ab 55 e55 r3]⟩] : List Entry), PureSim Try.prog e.g e.args e.h e.v e.new := by
  intro e he
  simp only [List.mem_cons, List.not_mem_nil, or_false] at he
  rcases he with rfl | rfl
  · exact (PureSim.ren (hc := [ab 81 e81 p0]) (fun i => List.getD [(0, 0)] i (0, 0)) (C38 _ _ _ h2) (.ac (.nil _)) (.cons (Rn.agg' (.cons (Rn.any _ _ _ _ _ _ (nl rfl) rfl rfl (by decide)) (.fl .nil))) .nil) (Rn.acc (i' := 4) (nl rfl) rfl) (newflat_cons (accB_flat (fun _ => rfl)) newflat_nil))
  exact (PureSim.ren (hc := [ab 81 e81 p2]) (fun i => List.getD [(1, 0)] i (0, 0)) (C38 _ _ _ h4) (.ac (.nil _)) (.cons (Rn.agg' (.cons (Rn.any _ _ _ _ _ _ (nl rfl) rfl rfl (by decide)) (.fl .nil))) .nil) (Rn.acc (i' := 5) (nl rfl) rfl) (newflat_cons (accB_flat (fun _ => rfl)) newflat_nil))
 refine TS.dp [⟨38, [ag [sv 0 p0.length ANY, .int .u8 p1]], (H11_7 p0 p2 p1 p3), accV 4 r1.length, [ab 55 e55 r1]⟩, ⟨38, [ag [sv 1 p2.length ANY, .int .u8 p3]], (H11_3 p0 p2 p1 p3 r1), accV 5 r3.length, [ab 55 e55 r3]⟩] hT mixed 3 [2, 7, 8] [0, 1, 4, 5] (st 187 [(2, .int .u16 p4), (7, accV 4 r1.length), (8, accV 5 r3.length)]) [ab 81 e81 p0, ab 81 e81 p2, .dead, .dead, ab 55 e55 r1, ab 55 e55 r3] ?_ ?_
 · refine QJ.rn (qs (st 187 [(2, .int .u16 p4), (3, pt 2 0), (4, pt 3 0), (20, ag [sv 0 p0.length ANY, .int .u8 p1])]) (H11_7 p0 p2 p1 p3) [] []) 1 (QJ.o { val := accV 4 r1.length, new := [ab 55 e55 r1] } (qOf_call (g := 38) (args := [ag [sv 0 p0.length ANY, .int .u8 p1]]) (by kernel_rfl) lookC_hit) (QJ.rn (qs (st 187 [(2, .int .u16 p4), (3, pt 2 0), (4, pt 3 0), (20, ag [sv 0 p0.length ANY, .int .u8 p1]), (21, accV 4 r1.length), (22, ag [sv 1 p2.length ANY, .int .u8 p3])]) (H11_3 p0 p2 p1 p3 r1) [(1, 4, 5)] []) 1 (QJ.dn ⟨rfl, ?_⟩)))
   exact SJ.o { val := accV 5 r3.length, new := [ab 55 e55 r3] } (qOf_call (g := 38) (args := [ag [sv 1 p2.length ANY, .int .u8 p3]]) (by kernel_rfl) (lookC_skip (by intro _ ha hh; first | (exact absurd (congrArg List.length hh) (Nat.ne_of_beq_eq_false rfl)) | (have hq := h2; have hi := h4; clear hF; first | (exfalso; simp at ha; done) | ((try simp at ha); have hr := sj (hq.symm.trans (Eq.trans (by first | rfl | (congr 1 <;> first | rfl | omega | simp_all)) hi)); subst hr; rfl))) lookC_hit)) SJ.la
 refine TS.sq (TS.rg (TI.ra 4 [7, 8, 9] (st 187 [(7, accV 4 r1.length), (8, accV 5 r3.length), (9, iv (Int.tmod (w64 p4) 3600))]) (TI.dn (NX.sq (TS.sq ?_)))))
 obtain ⟨r5, h6, hF⟩ := of_do hF
 refine TS.rg (TI.ra 2 [7, 8, 9, 28, 29] (st 187 [(7, accV 4 r1.length), (8, accV 5 r3.length), (9, iv (Int.tmod (w64 p4) 3600)), (28, accV 4 r1.length), (29, iv (Int.tmod (w64 p4) 3600))]) (TI.cp 17 [accV 4 r1.length, iv (Int.tmod (w64 p4) 3600)] (.tuple ⟨[ag [iv r5.1.1, iv r5.1.2], iv r5.2]⟩) [] (PureSim.ren (hc := [ab 55 e55 r1]) (fun i => List.getD [(4, 0)] i (0, 0)) (C17 _ _ _ h6) (.ac (.nil _)) (.cons (Rn.accA (i' := 4) (nl rfl) rfl) (.fl .nil)) (.flat (by kernel_rfl)) newflat_nil) (TI.rn 6 [7, 8, 9, 10, 11] [0, 1, 4, 5, 6] (st 187 [(7, accV 4 r1.length), (8, accV 5 r3.length), (9, iv (Int.tmod (w64 p4) 3600)), (10, pt 6 0), (11, iv r5.2)]) [ab 81 e81 p0, ab 81 e81 p2, .dead, .dead, ab 55 e55 r1, ab 55 e55 r3, cl 29 [iv r5.1.1, iv r5.1.2]] (TI.dn (NX.sq (TS.sq ?_))))))
 obtain ⟨r7, h8, hF⟩ := of_do hF
 refine TS.rg (TI.rn 3 [7, 8, 9, 10, 11, 35, 36] [0, 1, 4, 5, 6, 7] (st 187 [(7, accV 4 r1.length), (8, accV 5 r3.length), (9, iv (Int.tmod (w64 p4) 3600)), (10, pt 6 0), (11, iv r5.2), (35, sv 7 1 1), (36, iv (Int.tmod (w64 p4) 3600))]) [ab 81 e81 p0, ab 81 e81 p2, .dead, .dead, ab 55 e55 r1, ab 55 e55 r3, cl 29 [iv r5.1.1, iv r5.1.2], cl 23 [accV 4 r1.length]] (TI.cp 31 [sv 7 1 1, iv (Int.tmod (w64 p4) 3600)] (.tuple ⟨[ag [iv r7.1.1, iv r7.1.2], iv r7.2]⟩) [] (PureSim.ren (hc := [cl 23 [sv 1 r1.length ANY], ab 55 e55 r1]) (fun i => List.getD [(7, 0), (4, 0)] i (0, 0)) (C31 _ _ _ h8) (.cons (At.blk (b1 := cl 23 [accV 4 r1.length]) (by kernel_rfl) (RnB.lit (.cons (Rn.accA (i' := 4) (nl rfl) rfl) .nil))) (.ac (.nil _))) (.sl (.fl .nil)) (.flat (by kernel_rfl)) newflat_nil) (TI.rn 6 [7, 8, 9, 10, 11, 12, 13] [0, 1, 4, 5, 6, 8] (st 187 [(7, accV 4 r1.length), (8, accV 5 r3.length), (9, iv (Int.tmod (w64 p4) 3600)), (10, pt 6 0), (11, iv r5.2), (12, pt 8 0), (13, iv r7.2)]) [ab 81 e81 p0, ab 81 e81 p2, .dead, .dead, ab 55 e55 r1, ab 55 e55 r3, cl 29 [iv r5.1.1, iv r5.1.2], .dead, cl 29 [iv r7.1.1, iv r7.1.2]] (TI.dn (NX.sq (TS.sq ?_))))))
 obtain ⟨r9, h10, hF⟩ := of_do hF
 refine TS.rg (TI.rn 4 [8, 9, 10, 11, 12, 13, 43, 44] [0, 1, 4, 5, 6, 8, 9] (st 187 [(8, accV 5 r3.length), (9, iv (Int.tmod (w64 p4) 3600)), (10, pt 6 0), (11, iv r5.2), (12, pt 8 0), (13, iv r7.2), (43, sv 9 2 2), (44, iv (Int.tmod (w64 p4) 3600))]) [ab 81 e81 p0, ab 81 e81 p2, .dead, .dead, ab 55 e55 r1, ab 55 e55 r3, cl 29 [iv r5.1.1, iv r5.1.2], .dead, cl 29 [iv r7.1.1, iv r7.1.2], cl 23 [accV 4 r1.length, accV 5 r3.length]] (TI.cp 31 [sv 9 2 2, iv (Int.tmod (w64 p4) 3600)] (.tuple ⟨[ag [iv r9.1.1, iv r9.1.2], iv r9.2]⟩) [] (PureSim.ren (hc := [cl 23 [sv 1 r1.length ANY, sv 2 r3.length ANY], ab 55 e55 r1, ab 55 e55 r3]) (fun i => List.getD [(9, 0), (4, 0), (5, 0)] i (0, 0)) (C31k1 _ _ _ _ h10) (.cons (At.blk (b1 := cl 23 [accV 4 r1.length, accV 5 r3.length]) (by kernel_rfl) (RnB.lit (.cons (Rn.accA (i' := 4) (nl rfl) rfl) (.cons (Rn.accA (i' := 5) (nl rfl) rfl) .nil)))) (.ac (.ac (.nil _)))) (.sl (.fl .nil)) (.flat (by kernel_rfl)) newflat_nil) (TI.rn 6 [8, 9, 10, 11, 12, 13, 14, 15] [0, 1, 5, 6, 8, 10] (st 187 [(8, accV 5 r3.length), (9, iv (Int.tmod (w64 p4) 3600)), (10, pt 6 0), (11, iv r5.2), (12, pt 8 0), (13, iv r7.2), (14, pt 10 0), (15, iv r9.2)]) (H11_4 p0 p2 r3 r5 r7 r9) (TI.dn (NX.sq (TS.sq (TS.sq ?_)))))))
 obtain ⟨m17, hm49, hF⟩ := of_do hF
 have hK : NX Try.prog 2 2 [.sq c11.s2.s2.s2.s2.s2.s2.s1.s2, .sq c11.s2.s2.s2.s2.s2.s2.s2] (FinP Try.prog Try.f11 2 (V11 2 r) (N11 2 r)) .normal (st 187 [(8, accV 5 r3.length), (9, iv (Int.tmod (w64 p4) 3600)), (10, pt 6 0), (14, pt 10 0), (67, .bool m17)]) (H11_6 p0 p2 r3 r5 r9) := by
  refine NX.sq ?_
  cases m17 with
  | true =>
   replace hF := of_pos hF rfl
   refine TS.cdT (.tmp 67) (TS.sq (TS.rg (TI.rn 1 [6] [0, 1] (st 187 [(6, .bool false)]) [ab 81 e81 p0, ab 81 e81 p2, .dead, .dead, .dead, .dead, .dead, .dead, .dead, .dead, .dead] (TI.dn (NX.sq (TS.rt (NX.sqR ?_)))))))
   have hF := sj hF
   subst hF
   exact ⟨.inr rfl, rfl, .bool false, by kernel_rfl, WkV.flat0 (by kernel_rfl) (nl rfl)⟩
  | false =>
   replace hF := of_neg hF rfl
   refine TS.cdF (.tmp 67) (TS.sk (NX.sq (TS.sq ?_)))
   obtain ⟨hg18, hF⟩ := of_guardn hF
   obtain ⟨o19, h20, hF⟩ := of_do hF
   replace h20 := sj h20
   obtain ⟨r21, h22, hF⟩ := of_do hF
   have hT : ∀ e ∈ ([⟨44, [iv (Int.tmod o19 (w64 (3600 * r5.1.2))), iv r5.1.2], (H11_6 p0 p2 r3 r5 r9), ag [iv r21.1, iv r21.2], []⟩] : List Entry), PureSim Try.prog e.g e.args e.h e.v e.new := by
    intro e he
    simp only [List.mem_cons, List.not_mem_nil, or_false] at he
    rcases he with rfl
    exact PureSim.ak (C44 _ _ _ h22)
   refine TS.dp [⟨44, [iv (Int.tmod o19 (w64 (3600 * r5.1.2))), iv r5.1.2], (H11_6 p0 p2 r3 r5 r9), ag [iv r21.1, iv r21.2], []⟩] hT mixed 23 [8, 10, 14, 16] [0, 1, 5, 6, 10, 11] (st 187 [(8, accV 5 r3.length), (10, pt 6 0), (14, pt 10 0), (16, pt 11 0)]) [ab 81 e81 p0, ab 81 e81 p2, .dead, .dead, .dead, ab 55 e55 r3, cl 29 [iv r5.1.1, iv r5.1.2], .dead, .dead, .dead, cl 29 [iv r9.1.1, iv r9.1.2], cl 29 [iv r21.1, iv r21.2]] ?_ ?_
   · refine QJ.rn (qs (st 187 [(8, accV 5 r3.length), (9, iv (Int.tmod (w64 p4) 3600)), (10, pt 6 0), (14, pt 10 0), (67, .bool false), (68, iv (Int.tmod (w64 p4) 3600)), (69, pt 6 1), (70, iv r5.1.2), (71, iv (w64 ((Int.tmod (w64 p4) 3600) * r5.1.2))), (72, pt 6 0), (73, iv r5.1.1), (74, iv (w64 ((w64 ((Int.tmod (w64 p4) 3600) * r5.1.2)) + r5.1.1))), (75, pt 6 1), (76, iv r5.1.2), (77, iv (w64 (3600 * r5.1.2)))]) (H11_6 p0 p2 r3 r5 r9) [] []) 10 (QJ.o { val := iv (Int.tmod (w64 ((w64 ((Int.tmod (w64 p4) 3600) * r5.1.2)) + r5.1.1)) (w64 (3600 * r5.1.2))) } (q_int (P := Try.prog) (op := .rem) (ty := 3) (ox := (.tmp 74)) (oy := (.tmp 77)) (k := .i64) (k' := .i64) (y := w64 ((w64 ((Int.tmod (w64 p4) 3600) * r5.1.2)) + r5.1.1)) (z := w64 (3600 * r5.1.2)) (by kernel_rfl) (rem_ok hg18)) (QJ.rn (qs (st 187 [(8, accV 5 r3.length), (9, iv (Int.tmod (w64 p4) 3600)), (10, pt 6 0), (14, pt 10 0), (67, .bool false), (68, iv (Int.tmod (w64 p4) 3600)), (69, pt 6 1), (70, iv r5.1.2), (71, iv (w64 ((Int.tmod (w64 p4) 3600) * r5.1.2))), (72, pt 6 0), (73, iv r5.1.1), (74, iv (w64 ((w64 ((Int.tmod (w64 p4) 3600) * r5.1.2)) + r5.1.1))), (75, pt 6 1), (76, iv r5.1.2), (77, iv (w64 (3600 * r5.1.2))), (78, iv (Int.tmod (w64 ((w64 ((Int.tmod (w64 p4) 3600) * r5.1.2)) + r5.1.1)) (w64 (3600 * r5.1.2)))), (79, pt 6 1), (80, iv r5.1.2), (81, iv (w64 (3600 * r5.1.2)))]) (H11_6 p0 p2 r3 r5 r9) [] []) 3 (QJ.o { val := iv o19 } (q_convI (e := w64 ((Int.tmod (w64 ((w64 ((Int.tmod (w64 p4) 3600) * r5.1.2)) + r5.1.1)) (w64 (3600 * r5.1.2))) + (w64 (3600 * r5.1.2)))) (y := o19) (by kernel_rfl) h20) (QJ.rn (qs (st 187 [(8, accV 5 r3.length), (9, iv (Int.tmod (w64 p4) 3600)), (10, pt 6 0), (14, pt 10 0), (67, .bool false), (68, iv (Int.tmod (w64 p4) 3600)), (69, pt 6 1), (70, iv r5.1.2), (71, iv (w64 ((Int.tmod (w64 p4) 3600) * r5.1.2))), (72, pt 6 0), (73, iv r5.1.1), (74, iv (w64 ((w64 ((Int.tmod (w64 p4) 3600) * r5.1.2)) + r5.1.1))), (75, pt 6 1), (76, iv r5.1.2), (77, iv (w64 (3600 * r5.1.2))), (78, iv (Int.tmod (w64 ((w64 ((Int.tmod (w64 p4) 3600) * r5.1.2)) + r5.1.1)) (w64 (3600 * r5.1.2)))), (79, pt 6 1), (80, iv r5.1.2), (81, iv (w64 (3600 * r5.1.2))), (82, iv o19), (83, pt 6 1), (84, iv r5.1.2), (85, iv (w64 (3600 * r5.1.2)))]) (H11_6 p0 p2 r3 r5 r9) [] []) 3 (QJ.o { val := iv (Int.tmod o19 (w64 (3600 * r5.1.2))) } (q_int (P := Try.prog) (op := .rem) (ty := 3) (ox := (.tmp 82)) (oy := (.tmp 85)) (k := .i64) (k' := .i64) (y := o19) (z := w64 (3600 * r5.1.2)) (by kernel_rfl) (rem_ok hg18)) (QJ.rn (qs (st 187 [(8, accV 5 r3.length), (9, iv (Int.tmod (w64 p4) 3600)), (10, pt 6 0), (14, pt 10 0), (67, .bool false), (68, iv (Int.tmod (w64 p4) 3600)), (69, pt 6 1), (70, iv r5.1.2), (71, iv (w64 ((Int.tmod (w64 p4) 3600) * r5.1.2))), (72, pt 6 0), (73, iv r5.1.1), (74, iv (w64 ((w64 ((Int.tmod (w64 p4) 3600) * r5.1.2)) + r5.1.1))), (75, pt 6 1), (76, iv r5.1.2), (77, iv (w64 (3600 * r5.1.2))), (78, iv (Int.tmod (w64 ((w64 ((Int.tmod (w64 p4) 3600) * r5.1.2)) + r5.1.1)) (w64 (3600 * r5.1.2)))), (79, pt 6 1), (80, iv r5.1.2), (81, iv (w64 (3600 * r5.1.2))), (82, iv o19), (83, pt 6 1), (84, iv r5.1.2), (85, iv (w64 (3600 * r5.1.2))), (86, iv (Int.tmod o19 (w64 (3600 * r5.1.2)))), (87, pt 6 1), (88, iv r5.1.2)]) (H11_6 p0 p2 r3 r5 r9) [] []) 2 (QJ.o { val := ag [iv r21.1, iv r21.2], new := [] } (qOf_call (g := 44) (args := [iv (Int.tmod o19 (w64 (3600 * r5.1.2))), iv r5.1.2]) (by kernel_rfl) lookC_hit) (QJ.rn (qs (st 187 [(8, accV 5 r3.length), (9, iv (Int.tmod (w64 p4) 3600)), (10, pt 6 0), (14, pt 10 0), (16, pt 11 0), (67, .bool false), (68, iv (Int.tmod (w64 p4) 3600)), (69, pt 6 1), (70, iv r5.1.2), (71, iv (w64 ((Int.tmod (w64 p4) 3600) * r5.1.2))), (72, pt 6 0), (73, iv r5.1.1), (74, iv (w64 ((w64 ((Int.tmod (w64 p4) 3600) * r5.1.2)) + r5.1.1))), (75, pt 6 1), (76, iv r5.1.2), (77, iv (w64 (3600 * r5.1.2))), (78, iv (Int.tmod (w64 ((w64 ((Int.tmod (w64 p4) 3600) * r5.1.2)) + r5.1.1)) (w64 (3600 * r5.1.2)))), (79, pt 6 1), (80, iv r5.1.2), (81, iv (w64 (3600 * r5.1.2))), (82, iv o19), (83, pt 6 1), (84, iv r5.1.2), (85, iv (w64 (3600 * r5.1.2))), (86, iv (Int.tmod o19 (w64 (3600 * r5.1.2)))), (87, pt 6 1), (88, iv r5.1.2), (89, ag [iv r21.1, iv r21.2])]) [ab 81 e81 p0, ab 81 e81 p2, .dead, .dead, .dead, ab 55 e55 r3, cl 29 [iv r5.1.1, iv r5.1.2], .dead, .dead, .dead, cl 29 [iv r9.1.1, iv r9.1.2], cl 29 [iv 0, iv 0]] [(22, 11, 12)] []) 1 ?_))))))))
     exact QJ.dn ⟨rfl, SJ.la⟩
   refine TS.sq ?_
   obtain ⟨r23, h24, hF⟩ := of_do hF
   refine TS.rg (TI.ra 2 [10, 14, 16, 91, 92] (st 187 [(10, pt 6 0), (14, pt 10 0), (16, pt 11 0), (91, accV 5 r3.length), (92, ag [iv r21.1, iv r21.2])]) (TI.cp 41 [accV 5 r3.length, ag [iv r21.1, iv r21.2]] (.tuple ⟨[ag [iv r23.1.1, iv r23.1.2], iv r23.2]⟩) [] (PureSim.ren (hc := [ab 55 e55 r3]) (fun i => List.getD [(5, 0)] i (0, 0)) (C41 _ _ _ _ h24) (.ac (.nil _)) (.cons (Rn.accA (i' := 5) (nl rfl) rfl) (.fl .nil)) (.flat (by kernel_rfl)) newflat_nil) (TI.rn 6 [10, 14, 16, 17, 18] [0, 1, 6, 10, 11, 12] (st 187 [(10, pt 6 0), (14, pt 10 0), (16, pt 11 0), (17, pt 12 0), (18, iv r23.2)]) (H11_5 p0 p2 r5 r9 r21 r23) (TI.dn (NX.sq (TS.sq (TS.sq ?_)))))))
   obtain ⟨m29, hm48, hF⟩ := of_do hF
   have hK : NX Try.prog 2 2 [.sq c11.s2.s2.s2.s2.s2.s2.s2.s2.s2.s1.s2, .sq c11.s2.s2.s2.s2.s2.s2.s2.s2.s2.s2] (FinP Try.prog Try.f11 2 (V11 2 r) (N11 2 r)) .normal (st 187 [(10, pt 6 0), (14, pt 10 0), (16, pt 11 0), (17, pt 12 0), (117, .bool m29)]) (H11_5 p0 p2 r5 r9 r21 r23) := by
    refine NX.sq ?_
    cases m29 with
    | true =>
     replace hF := of_pos hF rfl
     refine TS.cdT (.tmp 117) (TS.sq (TS.rg (TI.rn 1 [6] [0, 1] (st 187 [(6, .bool false)]) [ab 81 e81 p0, ab 81 e81 p2, .dead, .dead, .dead, .dead, .dead, .dead, .dead, .dead, .dead, .dead, .dead] (TI.dn (NX.sq (TS.rt (NX.sqR ?_)))))))
     have hF := sj hF
     subst hF
     exact ⟨.inr rfl, rfl, .bool false, by kernel_rfl, WkV.flat0 (by kernel_rfl) (nl rfl)⟩
    | false =>
     replace hF := of_neg hF rfl
     refine TS.cdF (.tmp 117) (TS.sk (NX.sq (TS.sq ?_)))
     obtain ⟨o30, h31, hF⟩ := of_do hF
     replace h31 := sj h31
     obtain ⟨r32, h33, hF⟩ := of_do hF
     refine TS.rg (TI.rn 16 [10, 14, 17, 128, 133] [0, 1, 6, 10, 12] (st 187 [(10, pt 6 0), (14, pt 10 0), (17, pt 12 0), (128, iv (w64 ((w64 (r5.1.1 * r23.1.2)) + (w64 (r23.1.1 * r5.1.2))))), (133, iv (w64 (r21.1 * r23.1.2)))]) [ab 81 e81 p0, ab 81 e81 p2, .dead, .dead, .dead, .dead, cl 29 [iv r5.1.1, iv r5.1.2], .dead, .dead, .dead, cl 29 [iv r9.1.1, iv r9.1.2], .dead, cl 29 [iv r23.1.1, iv r23.1.2]] (TI.o { val := iv o30 } (q_convI (e := w64 ((w64 ((w64 (r5.1.1 * r23.1.2)) + (w64 (r23.1.1 * r5.1.2)))) - (w64 (r21.1 * r23.1.2)))) (y := o30) (by kernel_rfl) h31) [10, 14, 17, 134] [0, 1, 6, 10, 12] (st 187 [(10, pt 6 0), (14, pt 10 0), (17, pt 12 0), (134, iv o30)]) [ab 81 e81 p0, ab 81 e81 p2, .dead, .dead, .dead, .dead, cl 29 [iv r5.1.1, iv r5.1.2], .dead, .dead, .dead, cl 29 [iv r9.1.1, iv r9.1.2], .dead, cl 29 [iv r23.1.1, iv r23.1.2]] (TI.rn 5 [14, 134, 139] [0, 1, 10] (st 187 [(14, pt 10 0), (134, iv o30), (139, iv (w64 (r5.1.2 * r23.1.2)))]) [ab 81 e81 p0, ab 81 e81 p2, .dead, .dead, .dead, .dead, .dead, .dead, .dead, .dead, cl 29 [iv r9.1.1, iv r9.1.2], .dead, .dead] (TI.cf (C44 _ _ _ h33) (TI.rn 2 [14, 19] [0, 1, 10, 13] (st 187 [(14, pt 10 0), (19, pt 13 0)]) [ab 81 e81 p0, ab 81 e81 p2, .dead, .dead, .dead, .dead, .dead, .dead, .dead, .dead, cl 29 [iv r9.1.1, iv r9.1.2], .dead, .dead, cl 29 [iv r32.1, iv r32.2]] (TI.dn (NX.sq (TS.sq ?_))))))))
     refine TS.sq (TS.rg (TI.ra 6 [14, 19, 146] (st 187 [(14, pt 10 0), (19, pt 13 0), (146, .bool (decide (r32.1 ≥ (w64 (1800 * r32.2)))))]) (TI.dn (NX.sq ?_))))
     obtain ⟨m37, hm38, hF⟩ := of_do hF
     have hK : NX Try.prog 2 2 [.sq c11.s2.s2.s2.s2.s2.s2.s2.s2.s2.s2.s2.s2] (FinP Try.prog Try.f11 2 (V11 2 r) (N11 2 r)) .normal (st 187 [(14, pt 2 0), (19, pt 3 0)]) (H11_14 p0 p2 r9 m37 r32) := by
      refine NX.sq (TS.sq ?_)
      obtain ⟨hg39, hF⟩ := of_guardn hF
      obtain ⟨hg40, hF⟩ := of_guardn hF
      obtain ⟨m45, hm46, hF⟩ := of_do hF
      have hK : NX Try.prog 2 2 [.sq c11.s2.s2.s2.s2.s2.s2.s2.s2.s2.s2.s2.s2.s2] (FinP Try.prog Try.f11 2 (V11 2 r) (N11 2 r)) .normal (st 187 [(6, .bool m45)]) (H11_17 p0 p2) := by
       refine NX.sq (TS.rt ?_)
       have hF := sj hF
       subst hF
       exact ⟨.inr rfl, rfl, .bool m45, by kernel_rfl, WkV.flat0 (by kernel_rfl) (nl rfl)⟩
      rcases Bool.eq_false_or_eq_true ((w64 (Int.tdiv m37 r32.2)) == (w64 (Int.tdiv r9.1.1 r9.1.2))) with hc41 | hc41
      · replace hm46 := of_pos hm46 hc41
        rcases Bool.eq_false_or_eq_true ((w64 ((Int.tmod m37 r32.2) * r9.1.2)) == (w64 ((Int.tmod r9.1.1 r9.1.2) * r32.2))) with hc42 | hc42
        · replace hm46 := of_pos hm46 hc42
          have hX := of_do hm46
          clear hm46
          obtain ⟨r43, h44, hm46⟩ := hX
          have hm46 := sj hm46
          subst hm46
          have hT : ∀ e ∈ ([⟨15, [], (H11_14 p0 p2 r9 m37 r32), .bool r43, []⟩] : List Entry), PureSim Try.prog e.g e.args e.h e.v e.new := by
           intro e he
           simp only [List.mem_cons, List.not_mem_nil, or_false] at he
           rcases he with rfl
           exact PureSim.ak (C15 _ h44)
          refine TS.dp [⟨15, [], (H11_14 p0 p2 r9 m37 r32), .bool r43, []⟩] hT mixed 28 [6] [0, 1] (st 187 [(6, .bool r43)]) (H11_17 p0 p2) ?_ ?_
          · refine QJ.rn (qs (S11_22 m37 r32) (H11_14 p0 p2 r9 m37 r32) [] []) 4 (QJ.o { val := iv (w64 (Int.tdiv m37 r32.2)) } (q_int (P := Try.prog) (op := .quo) (ty := 3) (ox := (.tmp 155)) (oy := (.tmp 157)) (k := .i64) (k' := .i64) (y := m37) (z := r32.2) (by kernel_rfl) (quo_ok hg39)) (QJ.rn (qs (S11_8 m37 r32 r9) (H11_14 p0 p2 r9 m37 r32) [] []) 4 (QJ.o { val := iv (w64 (Int.tdiv r9.1.1 r9.1.2)) } (q_int (P := Try.prog) (op := .quo) (ty := 3) (ox := (.tmp 160)) (oy := (.tmp 162)) (k := .i64) (k' := .i64) (y := r9.1.1) (z := r9.1.2) (by kernel_rfl) (quo_ok hg40)) (QJ.o { val := .bool true } (q_conv (e := (w64 (Int.tdiv m37 r32.2)) == (w64 (Int.tdiv r9.1.1 r9.1.2))) (b := true) (by kernel_rfl) hc41) (QJ.rn (qs (S11_2 m37 r32 r9) (H11_14 p0 p2 r9 m37 r32) [] []) 5 (QJ.o { val := iv (Int.tmod m37 r32.2) } (q_int (P := Try.prog) (op := .rem) (ty := 3) (ox := (.tmp 167)) (oy := (.tmp 169)) (k := .i64) (k' := .i64) (y := m37) (z := r32.2) (by kernel_rfl) (rem_ok hg39)) (QJ.rn (qs (S11_1 m37 r32 r9) (H11_14 p0 p2 r9 m37 r32) [] []) 7 (QJ.o { val := iv (Int.tmod r9.1.1 r9.1.2) } (q_int (P := Try.prog) (op := .rem) (ty := 3) (ox := (.tmp 175)) (oy := (.tmp 177)) (k := .i64) (k' := .i64) (y := r9.1.1) (z := r9.1.2) (by kernel_rfl) (rem_ok hg40)) ?_))))))))
            exact QJ.rn (qs (S11_0 m37 r32 r9) (H11_14 p0 p2 r9 m37 r32) [] []) 3 (QJ.dn ⟨rfl, (SJ.o { val := .bool true } (q_conv (e := (w64 ((Int.tmod m37 r32.2) * r9.1.2)) == (w64 ((Int.tmod r9.1.1 r9.1.2) * r32.2))) (b := true) (by kernel_rfl) hc42) (SJ.rn (st 187 [(14, pt 2 0), (19, pt 3 0), (154, pt 3 0), (155, iv m37), (156, pt 3 1), (157, iv r32.2), (158, iv (w64 (Int.tdiv m37 r32.2))), (159, pt 2 0), (160, iv r9.1.1), (161, pt 2 1), (162, iv r9.1.2), (163, iv (w64 (Int.tdiv r9.1.1 r9.1.2))), (164, .bool true), (165, .bool true), (166, pt 3 0), (167, iv m37), (168, pt 3 1), (169, iv r32.2), (170, iv (Int.tmod m37 r32.2)), (171, pt 2 1), (172, iv r9.1.2), (173, iv (w64 ((Int.tmod m37 r32.2) * r9.1.2))), (174, pt 2 0), (175, iv r9.1.1), (176, pt 2 1), (177, iv r9.1.2), (178, iv (Int.tmod r9.1.1 r9.1.2)), (179, pt 3 1), (180, iv r32.2), (181, iv (w64 ((Int.tmod r9.1.1 r9.1.2) * r32.2))), (182, .bool true), (183, .bool true), (184, .bool true)]) (H11_14 p0 p2 r9 m37 r32) 2 (SJ.o { val := .bool r43, new := [] } (qOf_call (g := 15) (args := []) (by kernel_rfl) lookC_hit) SJ.la)))⟩)
          exact hK
        replace hm46 := of_neg hm46 hc42
        have hm46 := sj hm46
        subst hm46
        refine TS.dp [] (fun e he => by cases he) mixed 28 [6] [0, 1] (st 187 [(6, .bool false)]) (H11_17 p0 p2) ?_ ?_
        · refine QJ.rn (qs (S11_22 m37 r32) (H11_14 p0 p2 r9 m37 r32) [] []) 4 (QJ.o { val := iv (w64 (Int.tdiv m37 r32.2)) } (q_int (P := Try.prog) (op := .quo) (ty := 3) (ox := (.tmp 155)) (oy := (.tmp 157)) (k := .i64) (k' := .i64) (y := m37) (z := r32.2) (by kernel_rfl) (quo_ok hg39)) (QJ.rn (qs (S11_8 m37 r32 r9) (H11_14 p0 p2 r9 m37 r32) [] []) 4 (QJ.o { val := iv (w64 (Int.tdiv r9.1.1 r9.1.2)) } (q_int (P := Try.prog) (op := .quo) (ty := 3) (ox := (.tmp 160)) (oy := (.tmp 162)) (k := .i64) (k' := .i64) (y := r9.1.1) (z := r9.1.2) (by kernel_rfl) (quo_ok hg40)) (QJ.o { val := .bool true } (q_conv (e := (w64 (Int.tdiv m37 r32.2)) == (w64 (Int.tdiv r9.1.1 r9.1.2))) (b := true) (by kernel_rfl) hc41) (QJ.rn (qs (S11_2 m37 r32 r9) (H11_14 p0 p2 r9 m37 r32) [] []) 5 (QJ.o { val := iv (Int.tmod m37 r32.2) } (q_int (P := Try.prog) (op := .rem) (ty := 3) (ox := (.tmp 167)) (oy := (.tmp 169)) (k := .i64) (k' := .i64) (y := m37) (z := r32.2) (by kernel_rfl) (rem_ok hg39)) (QJ.rn (qs (S11_1 m37 r32 r9) (H11_14 p0 p2 r9 m37 r32) [] []) 7 (QJ.o { val := iv (Int.tmod r9.1.1 r9.1.2) } (q_int (P := Try.prog) (op := .rem) (ty := 3) (ox := (.tmp 175)) (oy := (.tmp 177)) (k := .i64) (k' := .i64) (y := r9.1.1) (z := r9.1.2) (by kernel_rfl) (rem_ok hg40)) ?_))))))))
          exact QJ.rn (qs (S11_0 m37 r32 r9) (H11_14 p0 p2 r9 m37 r32) [] []) 3 (QJ.dn ⟨rfl, (SJ.o { val := .bool false } (q_conv (e := (w64 ((Int.tmod m37 r32.2) * r9.1.2)) == (w64 ((Int.tmod r9.1.1 r9.1.2) * r32.2))) (b := false) (by kernel_rfl) hc42) SJ.la)⟩)
        exact hK
      replace hm46 := of_neg hm46 hc41
      have hm46 := sj hm46
      subst hm46
      refine TS.dp [] (fun e he => by cases he) mixed 28 [6] [0, 1] (st 187 [(6, .bool false)]) (H11_17 p0 p2) ?_ ?_
      · exact QJ.rn (qs (S11_22 m37 r32) (H11_14 p0 p2 r9 m37 r32) [] []) 4 (QJ.o { val := iv (w64 (Int.tdiv m37 r32.2)) } (q_int (P := Try.prog) (op := .quo) (ty := 3) (ox := (.tmp 155)) (oy := (.tmp 157)) (k := .i64) (k' := .i64) (y := m37) (z := r32.2) (by kernel_rfl) (quo_ok hg39)) (QJ.rn (qs (S11_8 m37 r32 r9) (H11_14 p0 p2 r9 m37 r32) [] []) 4 (QJ.o { val := iv (w64 (Int.tdiv r9.1.1 r9.1.2)) } (q_int (P := Try.prog) (op := .quo) (ty := 3) (ox := (.tmp 160)) (oy := (.tmp 162)) (k := .i64) (k' := .i64) (y := r9.1.1) (z := r9.1.2) (by kernel_rfl) (quo_ok hg40)) (QJ.o { val := .bool false } (q_conv (e := (w64 (Int.tdiv m37 r32.2)) == (w64 (Int.tdiv r9.1.1 r9.1.2))) (b := false) (by kernel_rfl) hc41) (QJ.rn (qs (st 187 [(14, pt 2 0), (19, pt 3 0), (154, pt 3 0), (155, iv m37), (156, pt 3 1), (157, iv r32.2), (158, iv (w64 (Int.tdiv m37 r32.2))), (159, pt 2 0), (160, iv r9.1.1), (161, pt 2 1), (162, iv r9.1.2), (163, iv (w64 (Int.tdiv r9.1.1 r9.1.2))), (164, .bool false), (165, .bool false), (166, undef), (167, undef), (168, undef), (169, undef), (170, undef), (171, undef), (172, undef), (173, undef), (174, undef), (175, undef), (176, undef), (177, undef), (178, undef), (179, undef), (180, undef), (181, undef)]) (H11_14 p0 p2 r9 m37 r32) [] []) 17 (QJ.dn ⟨rfl, SJ.la⟩))))))
      exact hK
     clear hF
     have hF := hm38
     clear hm38
     refine TS.start ?_
     refine TS.cd (.tmp 146) (decide (r32.1 ≥ (w64 (1800 * r32.2)))) (fun hc47 => ?_) (fun hc47 => ?_)
     · replace hF := of_pos hF hc47
       refine TS.rg (TI.rn 8 [14, 19] [0, 1, 10, 13] (st 187 [(14, pt 10 0), (19, pt 13 0)]) [ab 81 e81 p0, ab 81 e81 p2, .dead, .dead, .dead, .dead, .dead, .dead, .dead, .dead, cl 29 [iv r9.1.1, iv r9.1.2], .dead, .dead, cl 29 [iv (w64 (r32.1 - (w64 (3600 * r32.2)))), iv r32.2]] (TI.dn ?_))
       have hF := sj hF
       subst hF
       exact TS.weak (by exact (Wk.an [10, 13] (.ac (.ac (.lt (.fl (.fl .nil)) (.lt (.fl (.fl .nil)) (.nil _))))) [pt 10 0, pt 13 0] (.pp (.pp .nil)))) hK
     replace hF := of_neg hF hc47
     refine TS.sk ?_
     have hF := sj hF
     subst hF
     exact TS.weak (by exact (Wk.an [10, 13] (.ac (.ac (.lt (.fl (.fl .nil)) (.lt (.fl (.fl .nil)) (.nil _))))) [pt 10 0, pt 13 0] (.pp (.pp .nil)))) hK
   rcases Bool.eq_false_or_eq_true (decide (r23.2 < 0)) with hc25 | hc25
   · replace hm48 := of_pos hm48 hc25
     have hm48 := sj hm48
     subst hm48
     exact TS.rg (TI.ra 1 [10, 14, 16, 17, 96] (S11_25 r23) (TI.o { val := .bool true } (q_conv (e := decide (r23.2 < 0)) (b := true) (by kernel_rfl) hc25) [10, 14, 16, 17, 97] [0, 1, 6, 10, 11, 12] (st 187 [(10, pt 6 0), (14, pt 10 0), (16, pt 11 0), (17, pt 12 0), (97, .bool true)]) (H11_5 p0 p2 r5 r9 r21 r23) (TI.ra 20 [10, 14, 16, 17, 117] (S11_23) (TI.dn hK))))
   replace hm48 := of_neg hm48 hc25
   rcases Bool.eq_false_or_eq_true (decide (r9.1.2 < 1)) with hc26 | hc26
   · replace hm48 := of_pos hm48 hc26
     have hm48 := sj hm48
     subst hm48
     exact TS.rg (TI.ra 1 [10, 14, 16, 17, 96] (S11_25 r23) (TI.o { val := .bool false } (q_conv (e := decide (r23.2 < 0)) (b := false) (by kernel_rfl) hc25) [10, 14, 16, 17, 97] [0, 1, 6, 10, 11, 12] (S11_24) (H11_5 p0 p2 r5 r9 r21 r23) (TI.ra 3 [10, 14, 16, 17, 98, 100] (S11_21 r9) (TI.o { val := .bool true } (q_conv (e := decide (r9.1.2 < 1)) (b := true) (by kernel_rfl) hc26) [10, 14, 16, 17, 98, 101] [0, 1, 6, 10, 11, 12] (st 187 [(10, pt 6 0), (14, pt 10 0), (16, pt 11 0), (17, pt 12 0), (98, .bool false), (101, .bool true)]) (H11_5 p0 p2 r5 r9 r21 r23) (TI.ra 16 [10, 14, 16, 17, 117] (S11_23) (TI.dn hK))))))
   replace hm48 := of_neg hm48 hc26
   rcases Bool.eq_false_or_eq_true (decide (r9.1.2 > 67108864)) with hc27 | hc27
   · replace hm48 := of_pos hm48 hc27
     have hm48 := sj hm48
     subst hm48
     refine TS.rg (TI.ra 1 [10, 14, 16, 17, 96] (S11_25 r23) (TI.o { val := .bool false } (q_conv (e := decide (r23.2 < 0)) (b := false) (by kernel_rfl) hc25) [10, 14, 16, 17, 97] [0, 1, 6, 10, 11, 12] (S11_24) (H11_5 p0 p2 r5 r9 r21 r23) (TI.ra 3 [10, 14, 16, 17, 98, 100] (S11_21 r9) (TI.o { val := .bool false } (q_conv (e := decide (r9.1.2 < 1)) (b := false) (by kernel_rfl) hc26) [10, 14, 16, 17, 98, 101] [0, 1, 6, 10, 11, 12] (S11_19) (H11_5 p0 p2 r5 r9 r21 r23) (TI.ra 4 [10, 14, 16, 17, 103, 105] (S11_20 r9) (TI.o { val := .bool true } (q_conv (e := decide (r9.1.2 > 67108864)) (b := true) (by kernel_rfl) hc27) [10, 14, 16, 17, 103, 106] [0, 1, 6, 10, 11, 12] (st 187 [(10, pt 6 0), (14, pt 10 0), (16, pt 11 0), (17, pt 12 0), (103, .bool false), (106, .bool true)]) (H11_5 p0 p2 r5 r9 r21 r23) (TI.ra 11 [10, 14, 16, 17, 117] (S11_23) (TI.dn ?_))))))))
     exact hK
   replace hm48 := of_neg hm48 hc27
   rcases Bool.eq_false_or_eq_true (decide (r9.1.1 > 274877906944)) with hc28 | hc28
   · replace hm48 := of_pos hm48 hc28
     have hm48 := sj hm48
     subst hm48
     refine TS.rg (TI.ra 1 [10, 14, 16, 17, 96] (S11_25 r23) (TI.o { val := .bool false } (q_conv (e := decide (r23.2 < 0)) (b := false) (by kernel_rfl) hc25) [10, 14, 16, 17, 97] [0, 1, 6, 10, 11, 12] (S11_24) (H11_5 p0 p2 r5 r9 r21 r23) (TI.ra 3 [10, 14, 16, 17, 98, 100] (S11_21 r9) (TI.o { val := .bool false } (q_conv (e := decide (r9.1.2 < 1)) (b := false) (by kernel_rfl) hc26) [10, 14, 16, 17, 98, 101] [0, 1, 6, 10, 11, 12] (S11_19) (H11_5 p0 p2 r5 r9 r21 r23) (TI.ra 4 [10, 14, 16, 17, 103, 105] (S11_20 r9) (TI.o { val := .bool false } (q_conv (e := decide (r9.1.2 > 67108864)) (b := false) (by kernel_rfl) hc27) [10, 14, 16, 17, 103, 106] [0, 1, 6, 10, 11, 12] (S11_18) (H11_5 p0 p2 r5 r9 r21 r23) (TI.ra 4 [10, 14, 16, 17, 108, 110] (st 187 [(10, pt 6 0), (14, pt 10 0), (16, pt 11 0), (17, pt 12 0), (108, .bool false), (110, iv r9.1.1)]) (TI.o { val := .bool true } (q_conv (e := decide (r9.1.1 > 274877906944)) (b := true) (by kernel_rfl) hc28) [10, 14, 16, 17, 108, 111] [0, 1, 6, 10, 11, 12] (st 187 [(10, pt 6 0), (14, pt 10 0), (16, pt 11 0), (17, pt 12 0), (108, .bool false), (111, .bool true)]) (H11_5 p0 p2 r5 r9 r21 r23) ?_))))))))
     exact TI.ra 6 [10, 14, 16, 17, 117] (S11_23) (TI.dn hK)
   replace hm48 := of_neg hm48 hc28
   have hm48 := sj hm48
   subst hm48
   refine TS.rg (TI.ra 1 [10, 14, 16, 17, 96] (S11_25 r23) (TI.o { val := .bool false } (q_conv (e := decide (r23.2 < 0)) (b := false) (by kernel_rfl) hc25) [10, 14, 16, 17, 97] [0, 1, 6, 10, 11, 12] (S11_24) (H11_5 p0 p2 r5 r9 r21 r23) (TI.ra 3 [10, 14, 16, 17, 98, 100] (S11_21 r9) (TI.o { val := .bool false } (q_conv (e := decide (r9.1.2 < 1)) (b := false) (by kernel_rfl) hc26) [10, 14, 16, 17, 98, 101] [0, 1, 6, 10, 11, 12] (S11_19) (H11_5 p0 p2 r5 r9 r21 r23) (TI.ra 4 [10, 14, 16, 17, 103, 105] (S11_20 r9) (TI.o { val := .bool false } (q_conv (e := decide (r9.1.2 > 67108864)) (b := false) (by kernel_rfl) hc27) [10, 14, 16, 17, 103, 106] [0, 1, 6, 10, 11, 12] (S11_18) (H11_5 p0 p2 r5 r9 r21 r23) (TI.ra 4 [10, 14, 16, 17, 108, 110] (st 187 [(10, pt 6 0), (14, pt 10 0), (16, pt 11 0), (17, pt 12 0), (108, .bool false), (110, iv r9.1.1)]) (TI.o { val := .bool false } (q_conv (e := decide (r9.1.1 > 274877906944)) (b := false) (by kernel_rfl) hc28) [10, 14, 16, 17, 108, 111] [0, 1, 6, 10, 11, 12] (st 187 [(10, pt 6 0), (14, pt 10 0), (16, pt 11 0), (17, pt 12 0), (108, .bool false), (111, .bool false)]) (H11_5 p0 p2 r5 r9 r21 r23) ?_))))))))
   exact TI.ra 6 [10, 14, 16, 17, 117] (st 187 [(10, pt 6 0), (14, pt 10 0), (16, pt 11 0), (17, pt 12 0), (117, .bool (decide (r9.1.1 < (-274877906944))))]) (TI.dn hK)
 rcases Bool.eq_false_or_eq_true (r5.2 != 0) with hc11 | hc11
 · replace hm49 := of_pos hm49 hc11
   have hm49 := sj hm49
   subst hm49
   exact TS.rg (TI.ra 1 [8, 9, 10, 12, 13, 14, 15, 48] (S11_12 r3 p4 r7 r9 r5) (TI.o { val := .bool true } (q_conv (e := r5.2 != 0) (b := true) (by kernel_rfl) hc11) [8, 9, 10, 12, 13, 14, 15, 49] [0, 1, 5, 6, 8, 10] (st 187 [(8, accV 5 r3.length), (9, iv (Int.tmod (w64 p4) 3600)), (10, pt 6 0), (12, pt 8 0), (13, iv r7.2), (14, pt 10 0), (15, iv r9.2), (49, .bool true)]) (H11_4 p0 p2 r3 r5 r7 r9) (TI.rn 18 [8, 9, 10, 14, 67] [0, 1, 5, 6, 10] (S11_16 r3 p4) (H11_6 p0 p2 r3 r5 r9) (TI.dn hK))))
 replace hm49 := of_neg hm49 hc11
 rcases Bool.eq_false_or_eq_true (r7.2 != 0) with hc12 | hc12
 · replace hm49 := of_pos hm49 hc12
   have hm49 := sj hm49
   subst hm49
   exact TS.rg (TI.ra 1 [8, 9, 10, 12, 13, 14, 15, 48] (S11_12 r3 p4 r7 r9 r5) (TI.o { val := .bool false } (q_conv (e := r5.2 != 0) (b := false) (by kernel_rfl) hc11) [8, 9, 10, 12, 13, 14, 15, 49] [0, 1, 5, 6, 8, 10] (S11_10 r3 p4 r7 r9) (H11_4 p0 p2 r3 r5 r7 r9) (TI.ra 2 [8, 9, 10, 12, 14, 15, 50, 51] (S11_11 r3 p4 r9 r7) (TI.o { val := .bool true } (q_conv (e := r7.2 != 0) (b := true) (by kernel_rfl) hc12) [8, 9, 10, 12, 14, 15, 50, 52] [0, 1, 5, 6, 8, 10] (st 187 [(8, accV 5 r3.length), (9, iv (Int.tmod (w64 p4) 3600)), (10, pt 6 0), (12, pt 8 0), (14, pt 10 0), (15, iv r9.2), (50, .bool false), (52, .bool true)]) (H11_4 p0 p2 r3 r5 r7 r9) (TI.rn 15 [8, 9, 10, 14, 67] [0, 1, 5, 6, 10] (S11_16 r3 p4) (H11_6 p0 p2 r3 r5 r9) (TI.dn hK))))))
 replace hm49 := of_neg hm49 hc12
 rcases Bool.eq_false_or_eq_true (r9.2 != 0) with hc13 | hc13
 · replace hm49 := of_pos hm49 hc13
   have hm49 := sj hm49
   subst hm49
   refine TS.rg (TI.ra 1 [8, 9, 10, 12, 13, 14, 15, 48] (S11_12 r3 p4 r7 r9 r5) (TI.o { val := .bool false } (q_conv (e := r5.2 != 0) (b := false) (by kernel_rfl) hc11) [8, 9, 10, 12, 13, 14, 15, 49] [0, 1, 5, 6, 8, 10] (S11_10 r3 p4 r7 r9) (H11_4 p0 p2 r3 r5 r7 r9) (TI.ra 2 [8, 9, 10, 12, 14, 15, 50, 51] (S11_11 r3 p4 r9 r7) (TI.o { val := .bool false } (q_conv (e := r7.2 != 0) (b := false) (by kernel_rfl) hc12) [8, 9, 10, 12, 14, 15, 50, 52] [0, 1, 5, 6, 8, 10] (S11_9 r3 p4 r9) (H11_4 p0 p2 r3 r5 r7 r9) (TI.ra 3 [8, 9, 10, 12, 14, 54, 55] (S11_15 r3 p4 r9) (TI.o { val := .bool true } (q_conv (e := r9.2 != 0) (b := true) (by kernel_rfl) hc13) [8, 9, 10, 12, 14, 54, 56] [0, 1, 5, 6, 8, 10] (st 187 [(8, accV 5 r3.length), (9, iv (Int.tmod (w64 p4) 3600)), (10, pt 6 0), (12, pt 8 0), (14, pt 10 0), (54, .bool false), (56, .bool true)]) (H11_4 p0 p2 r3 r5 r7 r9) (TI.rn 11 [8, 9, 10, 14, 67] [0, 1, 5, 6, 10] (S11_16 r3 p4) (H11_6 p0 p2 r3 r5 r9) (TI.dn ?_))))))))
   exact hK
 replace hm49 := of_neg hm49 hc13
 rcases Bool.eq_false_or_eq_true (!((r7.1.1 == r5.1.1) && ((r7.1.2 == r5.1.2) && true))) with hc14 | hc14
 · replace hm49 := of_pos hm49 hc14
   have hm49 := sj hm49
   subst hm49
   refine TS.rg (TI.ra 1 [8, 9, 10, 12, 13, 14, 15, 48] (S11_12 r3 p4 r7 r9 r5) (TI.o { val := .bool false } (q_conv (e := r5.2 != 0) (b := false) (by kernel_rfl) hc11) [8, 9, 10, 12, 13, 14, 15, 49] [0, 1, 5, 6, 8, 10] (S11_10 r3 p4 r7 r9) (H11_4 p0 p2 r3 r5 r7 r9) (TI.ra 2 [8, 9, 10, 12, 14, 15, 50, 51] (S11_11 r3 p4 r9 r7) (TI.o { val := .bool false } (q_conv (e := r7.2 != 0) (b := false) (by kernel_rfl) hc12) [8, 9, 10, 12, 14, 15, 50, 52] [0, 1, 5, 6, 8, 10] (S11_9 r3 p4 r9) (H11_4 p0 p2 r3 r5 r7 r9) (TI.ra 3 [8, 9, 10, 12, 14, 54, 55] (S11_15 r3 p4 r9) (TI.o { val := .bool false } (q_conv (e := r9.2 != 0) (b := false) (by kernel_rfl) hc13) [8, 9, 10, 12, 14, 54, 56] [0, 1, 5, 6, 8, 10] (S11_13 r3 p4) (H11_4 p0 p2 r3 r5 r7 r9) (TI.rn 4 [8, 9, 10, 14, 58, 59, 60] [0, 1, 5, 6, 10] (st 187 [(8, accV 5 r3.length), (9, iv (Int.tmod (w64 p4) 3600)), (10, pt 6 0), (14, pt 10 0), (58, .bool false), (59, ag [iv r7.1.1, iv r7.1.2]), (60, ag [iv r5.1.1, iv r5.1.2])]) (H11_6 p0 p2 r3 r5 r9) (TI.o { val := .bool true } (q_conv (e := !((r7.1.1 == r5.1.1) && ((r7.1.2 == r5.1.2) && true))) (b := true) (by kernel_rfl) hc14) [8, 9, 10, 14, 58, 61] [0, 1, 5, 6, 10] (st 187 [(8, accV 5 r3.length), (9, iv (Int.tmod (w64 p4) 3600)), (10, pt 6 0), (14, pt 10 0), (58, .bool false), (61, .bool true)]) (H11_6 p0 p2 r3 r5 r9) ?_))))))))
   exact TI.ra 6 [8, 9, 10, 14, 67] (S11_16 r3 p4) (TI.dn hK)
 replace hm49 := of_neg hm49 hc14
 have hX := of_do hm49
 clear hm49
 obtain ⟨r15, h16, hm49⟩ := hX
 have hm49 := sj hm49
 subst hm49
 refine TS.rg (TI.ra 1 [8, 9, 10, 12, 13, 14, 15, 48] (S11_12 r3 p4 r7 r9 r5) (TI.o { val := .bool false } (q_conv (e := r5.2 != 0) (b := false) (by kernel_rfl) hc11) [8, 9, 10, 12, 13, 14, 15, 49] [0, 1, 5, 6, 8, 10] (S11_10 r3 p4 r7 r9) (H11_4 p0 p2 r3 r5 r7 r9) (TI.ra 2 [8, 9, 10, 12, 14, 15, 50, 51] (S11_11 r3 p4 r9 r7) (TI.o { val := .bool false } (q_conv (e := r7.2 != 0) (b := false) (by kernel_rfl) hc12) [8, 9, 10, 12, 14, 15, 50, 52] [0, 1, 5, 6, 8, 10] (S11_9 r3 p4 r9) (H11_4 p0 p2 r3 r5 r7 r9) (TI.ra 3 [8, 9, 10, 12, 14, 54, 55] (S11_15 r3 p4 r9) (TI.o { val := .bool false } (q_conv (e := r9.2 != 0) (b := false) (by kernel_rfl) hc13) [8, 9, 10, 12, 14, 54, 56] [0, 1, 5, 6, 8, 10] (S11_13 r3 p4) (H11_4 p0 p2 r3 r5 r7 r9) (TI.rn 4 [8, 9, 10, 14, 58, 59, 60] [0, 1, 5, 6, 10] (st 187 [(8, accV 5 r3.length), (9, iv (Int.tmod (w64 p4) 3600)), (10, pt 6 0), (14, pt 10 0), (58, .bool false), (59, ag [iv r7.1.1, iv r7.1.2]), (60, ag [iv r5.1.1, iv r5.1.2])]) (H11_6 p0 p2 r3 r5 r9) (TI.o { val := .bool false } (q_conv (e := !((r7.1.1 == r5.1.1) && ((r7.1.2 == r5.1.2) && true))) (b := false) (by kernel_rfl) hc14) [8, 9, 10, 14, 58, 61] [0, 1, 5, 6, 10] (st 187 [(8, accV 5 r3.length), (9, iv (Int.tmod (w64 p4) 3600)), (10, pt 6 0), (14, pt 10 0), (58, .bool false), (61, .bool false)]) (H11_6 p0 p2 r3 r5 r9) ?_))))))))
 exact TI.ra 3 [8, 9, 10, 14, 63, 64] (st 187 [(8, accV 5 r3.length), (9, iv (Int.tmod (w64 p4) 3600)), (10, pt 6 0), (14, pt 10 0), (63, .bool false), (64, ag [iv r5.1.1, iv r5.1.2])]) (TI.cf (C46 _ _ _ h16) (TI.ra 2 [8, 9, 10, 14, 67] (st 187 [(8, accV 5 r3.length), (9, iv (Int.tmod (w64 p4) 3600)), (10, pt 6 0), (14, pt 10 0), (67, .bool (!r15))]) (TI.dn hK)))
theorem C11 (p0 : List I2) (p1 : Int) (p2 : List I2) (p3 p4 : Int) (r : Bool) (hF : F11 p0 p1 p2 p3 p4 = some r) : PureSim Try.prog 11 [ag [sv 0 p0.length ANY, .int .u8 p1], ag [sv 1 p2.length ANY, .int .u8 p3], .int .u16 p4] [ab 81 e81 p0, ab 81 e81 p2] (V11 2 r) (N11 2 r) :=
 PureSim.of_Fin Try.func11 (c := c11) (by kernel_rfl) (by kernel_rfl) 2 rfl [0, 1, 2] [0, 1] (by kernel_rfl) (B11 p0 p1 p2 p3 p4 r hF)
end
end Go.Proofs.Ythpfffijnkmdgaa
