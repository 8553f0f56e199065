/- Parts of the sort of many elements. -/
import Derived.Test.YthpfffijnkmdgaaXB
import Derived.Test.YthpfffijnkmdgaaXC
set_option linter.unusedVariables false
set_option linter.unusedSimpArgs false
set_option maxRecDepth 100000
set_option maxHeartbeats 4000000
namespace Go.Proofs.Ythpfffijnkmdgaa
open Go Go.Cl
noncomputable def c99 : Code := Try.f99.code
def F99l0 (rec99 : (List I2) → Int → Int → Int → Option (List I2)) (z732 : Int × Int × Int × Bool × Bool × (List I2)) : Option (List I2) :=
 if decide ((w64 (z732.2.1 - z732.1)) ≤ 12) then
  F110 z732.2.2.2.2.2 z732.1 z732.2.1 >>= fun r597 =>
  if List.length r597 = List.length z732.2.2.2.2.2 then
   some r597
  else none
 else
  if z732.2.2.1 == 0 then
   F111 z732.2.2.2.2.2 z732.1 z732.2.1 >>= fun r601 =>
   if List.length r601 = List.length z732.2.2.2.2.2 then
    some r601
   else none
  else
   (
    if !z732.2.2.2.1 then
     F112 z732.2.2.2.2.2 z732.1 z732.2.1 >>= fun r729 =>
     if List.length r729 = List.length z732.2.2.2.2.2 then
      some (r729, w64 (z732.2.2.1 - 1))
     else none
    else
     some (z732.2.2.2.2.2, z732.2.2.1)
   : Option ((List I2) × Int)) >>= fun m612 =>
   F113 m612.1 z732.1 z732.2.1 >>= fun r614 =>
   if List.length r614.2.2 = List.length m612.1 then
    (
     if r614.2.1 == 2 then
      F114 r614.2.2 z732.1 z732.2.1 >>= fun r725 =>
      if List.length r725 = List.length r614.2.2 then
       some (r725, w64 ((w64 (z732.2.1 - 1)) - (w64 (r614.1 - z732.1))), 1)
      else none
     else
      some (r614.2.2, r614.1, r614.2.1)
    : Option ((List I2) × Int × Int)) >>= fun m627 =>
    (
     if z732.2.2.2.1 then
      if z732.2.2.2.2.1 then
       some (true, true, m627.2.2 == 1)
      else
       some (true, false, false)
     else
      some (false, z732.2.2.2.2.1, false)
    : Option (Bool × Bool × Bool)) >>= fun m629 =>
    if m629.2.2 then
     F115 m627.1 z732.1 z732.2.1 >>= fun r631 =>
     if List.length r631.2 = List.length m627.1 then
      if r631.1 then
       some r631.2
      else
       (
        if decide (z732.1 > 0) then
         if (0 : Int) ≤ w64 (z732.1 - 1) ∧ w64 (z732.1 - 1) < (r631.2.length : Int) then
          some (List.getD r631.2 (w64 (z732.1 - 1)).toNat (0, 0)) >>= fun o637 =>
          if (0 : Int) ≤ m627.2.1 ∧ m627.2.1 < (r631.2.length : Int) then
           some (List.getD r631.2 (Int.toNat m627.2.1) (0, 0)) >>= fun o640 =>
           F87 o637.1 o637.2 o640.1 o640.2 >>= fun r642 =>
           some (!(decide (r642 < 0)))
          else none
         else none
        else
         some (false)
       : Option Bool) >>= fun m644 =>
       if m644 then
        F116 r631.2 z732.1 z732.2.1 m627.2.1 >>= fun r648 =>
        if List.length r648.2 = List.length r631.2 then
         F99l0 rec99 (r648.1, z732.2.1, m612.2, m629.1, m629.2.1, r648.2)
        else none
       else
        F117 r631.2 z732.1 z732.2.1 m627.2.1 >>= fun r651 =>
        if List.length r651.2.2 = List.length r631.2 then
         (
          if decide ((w64 (r651.1 - z732.1)) < (w64 (z732.2.1 - r651.1))) then
           rec99 r651.2.2 z732.1 r651.1 m612.2 >>= fun r672 =>
           if List.length r672 = List.length r651.2.2 then
            some (r672, w64 (r651.1 + 1), z732.2.1, decide ((w64 (r651.1 - z732.1)) ≥ (w64 (Int.tdiv (w64 (z732.2.1 - z732.1)) 8))))
           else none
          else
           rec99 r651.2.2 (w64 (r651.1 + 1)) z732.2.1 m612.2 >>= fun r675 =>
           if List.length r675 = List.length r651.2.2 then
            some (r675, z732.1, r651.1, decide ((w64 (z732.2.1 - r651.1)) ≥ (w64 (Int.tdiv (w64 (z732.2.1 - z732.1)) 8))))
           else none
         : Option ((List I2) × Int × Int × Bool)) >>= fun m669 =>
         F99l0 rec99 (m669.2.1, m669.2.2.1, m612.2, m669.2.2.2, r651.2.1, m669.1)
        else none
     else none
    else
     (
      if decide (z732.1 > 0) then
       if (0 : Int) ≤ w64 (z732.1 - 1) ∧ w64 (z732.1 - 1) < (m627.1.length : Int) then
        some (List.getD m627.1 (w64 (z732.1 - 1)).toNat (0, 0)) >>= fun o681 =>
        if (0 : Int) ≤ m627.2.1 ∧ m627.2.1 < (m627.1.length : Int) then
         some (List.getD m627.1 (Int.toNat m627.2.1) (0, 0)) >>= fun o684 =>
         F87 o681.1 o681.2 o684.1 o684.2 >>= fun r686 =>
         some (!(decide (r686 < 0)))
        else none
       else none
      else
       some (false)
     : Option Bool) >>= fun m688 =>
     if m688 then
      F116 m627.1 z732.1 z732.2.1 m627.2.1 >>= fun r692 =>
      if List.length r692.2 = List.length m627.1 then
       F99l0 rec99 (r692.1, z732.2.1, m612.2, m629.1, m629.2.1, r692.2)
      else none
     else
      F117 m627.1 z732.1 z732.2.1 m627.2.1 >>= fun r695 =>
      if List.length r695.2.2 = List.length m627.1 then
       (
        if decide ((w64 (r695.1 - z732.1)) < (w64 (z732.2.1 - r695.1))) then
         rec99 r695.2.2 z732.1 r695.1 m612.2 >>= fun r716 =>
         if List.length r716 = List.length r695.2.2 then
          some (r716, w64 (r695.1 + 1), z732.2.1, decide ((w64 (r695.1 - z732.1)) ≥ (w64 (Int.tdiv (w64 (z732.2.1 - z732.1)) 8))))
         else none
        else
         rec99 r695.2.2 (w64 (r695.1 + 1)) z732.2.1 m612.2 >>= fun r719 =>
         if List.length r719 = List.length r695.2.2 then
          some (r719, z732.1, r695.1, decide ((w64 (z732.2.1 - r695.1)) ≥ (w64 (Int.tdiv (w64 (z732.2.1 - z732.1)) 8))))
         else none
       : Option ((List I2) × Int × Int × Bool)) >>= fun m713 =>
       F99l0 rec99 (m713.2.1, m713.2.2.1, m612.2, m713.2.2.2, r695.2.1, m713.1)
      else none
   else none
 partial_fixpoint
def F99b (rec99 : (List I2) → Int → Int → Int → Option (List I2)) (p0 : List I2) (p1 p2 p3 : Int) : Option (List I2) :=
 F99l0 rec99 (p1, p2, p3, true, true, p0) >>= fun r733 =>
 some (r733)
def F99 : Nat → (List I2) → Int → Int → Int → Option (List I2)
 | 0 => fun _ _ _ _ => none
 | k + 1 => F99b (F99 k)
def P99l0 (rec99 : (List I2) → Int → Int → Int → Option (List I2)) (r : List I2) : Post := fun e a h => e = .ret ∧ Wk Pg 0 1 a h (st 148 [(0, anyV 0 r.length)]) [lb101 r]
theorem L99l0 (rec99 : (List I2) → Int → Int → Int → Option (List I2)) (hrec99 : ∀ (p0 : List I2) (k : Nat) (hk : List.length p0 = k) (p1 : Int) (p2 : Int) (p3 : Int) (r : List I2), rec99 p0 p1 p2 p3 = some r → ImpSim Pg 99 [anyV 0 k, iv p1, iv p2, iv p3, fn 87] 0 [lb101 p0] (.tuple #[]) [lb101 r]) (v97 v101 v348 : Int) (v99 v100 : Bool) (v98 r : List I2) (hF : F99l0 rec99 (v97, v101, v348, v99, v100, v98) = some r) : TL Pg 0 1 c99.s2.s2.bd.bd (st 148 [(0, anyV 0 v98.length), (1, iv v97), (2, iv v101), (3, iv v348), (4, fn 87), (10, .bool v99), (11, .bool v100)]) [lb101 v98] (P99l0 rec99 r) := by
 refine F99l0.partial_correctness rec99 (motive := fun z732 r => TL Pg 0 1 c99.s2.s2.bd.bd (st 148 [(0, anyV 0 z732.2.2.2.2.2.length), (1, iv z732.1), (2, iv z732.2.1), (3, iv z732.2.2.1), (4, fn 87), (10, .bool z732.2.2.2.1), (11, .bool z732.2.2.2.2.1)]) [lb101 z732.2.2.2.2.2] (P99l0 rec99 r)) ?_ (v97, v101, v348, v99, v100, v98) r hF
 clear hF r v97 v101 v348 v99 v100 v98
 intro again ih z732 r hF
 obtain ⟨z732a, z732b, z732c, z732d, z732e, z732f⟩ := z732
 dsimp only at hF ⊢
 refine TL.round (TS.bk 1 (TS.sq (TS.rg (TI.ra 4 [0, 1, 2, 3, 4, 10, 11, 12] (st 148 [(0, anyV 0 z732f.length), (1, iv z732a), (2, iv z732b), (3, iv z732c), (4, fn 87), (10, .bool z732d), (11, .bool z732e), (12, iv (w64 (z732b - z732a)))]) (TI.dq (TS.sq (TS.sq ?_)))))))
 refine TS.rg (TI.ra 2 [0, 1, 2, 3, 4, 10, 11, 12, 25] (st 148 [(0, anyV 0 z732f.length), (1, iv z732a), (2, iv z732b), (3, iv z732c), (4, fn 87), (10, .bool z732d), (11, .bool z732e), (12, iv (w64 (z732b - z732a))), (25, .bool (decide ((w64 (z732b - z732a)) ≤ 12)))]) (TI.dq ?_))
 refine TS.cd (.tmp 25) (decide ((w64 (z732b - z732a)) ≤ 12)) (fun hc596 => ?_) (fun hc596 => ?_)
 · replace hF := of_pos hF hc596
   refine TS.sq ?_
   obtain ⟨r597, h598, hF⟩ := of_do hF
   obtain ⟨hg599, hF⟩ := of_guard hF
   refine TS.rg (TI.ra 4 [0, 26, 27, 28, 29] (st 148 [(0, anyV 0 z732f.length), (26, anyV 0 z732f.length), (27, iv z732a), (28, iv z732b), (29, fn 87)]) ?_)
   refine TI.icallL (g := 110) (args := [anyV 0 z732f.length, iv z732a, iv z732b, fn 87]) (v := .tuple ⟨[]⟩) (h1 := [lb101 r597]) (a2 := (st 148 [(0, anyV 0 r597.length)])) (h2 := [lb101 r597]) (fun nn => (st 148 [(0, anyV 0 (nn))])) (by kernel_rfl) (C110k _ _ (by first | rfl | simp only [List.length_set]) _ _ _ h598) [0] [0] hg599 (by kernel_rfl) rfl (TI.dq (TS.rt (NX.sqR (NX.bkR ?_))))
   have hF := sj hF
   subst hF
   exact Rd.out (e := .ret) (by intro h; cases h) (And.intro rfl (Wk.an [] Ats.l [anyV 0 r597.length] (.cons rav .nil)))
 replace hF := of_neg hF hc596
 refine TS.sk (NX.sq (TS.sq (TS.sq (TS.rg (TI.ra 2 [0, 1, 2, 3, 4, 10, 11, 12, 32] (st 148 [(0, anyV 0 z732f.length), (1, iv z732a), (2, iv z732b), (3, iv z732c), (4, fn 87), (10, .bool z732d), (11, .bool z732e), (12, iv (w64 (z732b - z732a))), (32, .bool (z732c == 0))]) (TI.dq ?_))))))
 refine TS.cd (.tmp 32) (z732c == 0) (fun hc600 => ?_) (fun hc600 => ?_)
 · replace hF := of_pos hF hc600
   refine TS.sq ?_
   obtain ⟨r601, h602, hF⟩ := of_do hF
   obtain ⟨hg603, hF⟩ := of_guard hF
   refine TS.rg (TI.ra 4 [0, 33, 34, 35, 36] (st 148 [(0, anyV 0 z732f.length), (33, anyV 0 z732f.length), (34, iv z732a), (35, iv z732b), (36, fn 87)]) ?_)
   refine TI.icallL (g := 111) (args := [anyV 0 z732f.length, iv z732a, iv z732b, fn 87]) (v := .tuple ⟨[]⟩) (h1 := [lb101 r601]) (a2 := (st 148 [(0, anyV 0 r601.length)])) (h2 := [lb101 r601]) (fun nn => (st 148 [(0, anyV 0 (nn))])) (by kernel_rfl) (C111 _ _ (by first | rfl | simp only [List.length_set]) _ _ _ h602) [0] [0] hg603 (by kernel_rfl) rfl (TI.dq (TS.rt (NX.sqR (NX.bkR ?_))))
   have hF := sj hF
   subst hF
   exact Rd.out (e := .ret) (by intro h; cases h) (And.intro rfl (Wk.an [] Ats.l [anyV 0 r601.length] (.cons rav .nil)))
 replace hF := of_neg hF hc600
 refine TS.sk (NX.sq (TS.sq (TS.sq (TS.rg (TI.ra 2 [0, 1, 2, 3, 4, 10, 11, 12, 39] (st 148 [(0, anyV 0 z732f.length), (1, iv z732a), (2, iv z732b), (3, iv z732c), (4, fn 87), (10, .bool z732d), (11, .bool z732e), (12, iv (w64 (z732b - z732a))), (39, .bool (!z732d))]) (TI.dq ?_))))))
 obtain ⟨m612, hm613, hF⟩ := of_do hF
 have hK : NX Pg 0 1 [.sq c99.s2.s2.bd.bd.bd.s2.s2.s2.s2, .bk 1] (Rd Pg 0 1 c99.s2.s2.bd.bd (P99l0 rec99 r)) .normal (st 148 [(0, anyV 0 m612.1.length), (1, iv z732a), (2, iv z732b), (3, iv m612.2), (4, fn 87), (10, .bool z732d), (11, .bool z732e), (12, iv (w64 (z732b - z732a)))]) [lb101 m612.1] := by
  obtain ⟨m612a, m612b⟩ := m612
  dsimp only at hF ⊢
  refine NX.sq (TS.sq ?_)
  obtain ⟨r614, h615, hF⟩ := of_do hF
  obtain ⟨hg616, hF⟩ := of_guard hF
  refine TS.rg (TI.ra 4 [0, 1, 2, 3, 4, 10, 11, 12, 48, 49, 50, 51] (st 148 [(0, anyV 0 m612a.length), (1, iv z732a), (2, iv z732b), (3, iv m612b), (4, fn 87), (10, .bool z732d), (11, .bool z732e), (12, iv (w64 (z732b - z732a))), (48, anyV 0 m612a.length), (49, iv z732a), (50, iv z732b), (51, fn 87)]) ?_)
  refine TI.icallL (g := 113) (args := [anyV 0 m612a.length, iv z732a, iv z732b, fn 87]) (v := .tuple ⟨[iv r614.1, iv r614.2.1]⟩) (h1 := [lb101 r614.2.2]) (a2 := (st 148 [(0, anyV 0 r614.2.2.length), (1, iv z732a), (2, iv z732b), (3, iv m612b), (4, fn 87), (10, .bool z732d), (11, .bool z732e), (12, iv (w64 (z732b - z732a))), (52, .tuple ⟨[iv r614.1, iv r614.2.1]⟩)])) (h2 := [lb101 r614.2.2]) (fun nn => (st 148 [(0, anyV 0 (nn)), (1, iv z732a), (2, iv z732b), (3, iv m612b), (4, fn 87), (10, .bool z732d), (11, .bool z732e), (12, iv (w64 (z732b - z732a))), (52, .tuple ⟨[iv r614.1, iv r614.2.1]⟩)])) (by kernel_rfl) (C113 _ _ (by first | rfl | simp only [List.length_set]) _ _ _ h615) [0, 1, 2, 3, 4, 10, 11, 12, 52] [0] hg616 (by kernel_rfl) rfl (TI.ra 5 [0, 1, 2, 3, 4, 10, 11, 12, 13, 14] (st 148 [(0, anyV 0 r614.2.2.length), (1, iv z732a), (2, iv z732b), (3, iv m612b), (4, fn 87), (10, .bool z732d), (11, .bool z732e), (12, iv (w64 (z732b - z732a))), (13, iv r614.1), (14, iv r614.2.1)]) (TI.dq (TS.sq (TS.sq (TS.rg (TI.ra 2 [0, 1, 2, 3, 4, 10, 11, 12, 13, 14, 56] (st 148 [(0, anyV 0 r614.2.2.length), (1, iv z732a), (2, iv z732b), (3, iv m612b), (4, fn 87), (10, .bool z732d), (11, .bool z732e), (12, iv (w64 (z732b - z732a))), (13, iv r614.1), (14, iv r614.2.1), (56, .bool (r614.2.1 == 2))]) (TI.dn ?_)))))))
  refine NX.sq ?_
  obtain ⟨m627, hm628, hF⟩ := of_do hF
  have hK : NX Pg 0 1 [.sq c99.s2.s2.bd.bd.bd.s2.s2.s2.s2.s2.s2, .bk 1] (Rd Pg 0 1 c99.s2.s2.bd.bd (P99l0 rec99 r)) .normal (st 148 [(0, anyV 0 m627.1.length), (1, iv z732a), (2, iv z732b), (3, iv m612b), (4, fn 87), (10, .bool z732d), (11, .bool z732e), (12, iv (w64 (z732b - z732a))), (13, iv m627.2.1), (14, iv m627.2.2)]) [lb101 m627.1] := by
   obtain ⟨m627a, m627b, m627c⟩ := m627
   dsimp only at hF ⊢
   refine NX.sq (TS.sq (TS.sq ?_))
   obtain ⟨m629, hm723, hF⟩ := of_do hF
   have hK : NX Pg 0 1 [.sq c99.s2.s2.bd.bd.bd.s2.s2.s2.s2.s2.s2.s1.s2, .sq c99.s2.s2.bd.bd.bd.s2.s2.s2.s2.s2.s2.s2, .bk 1] (Rd Pg 0 1 c99.s2.s2.bd.bd (P99l0 rec99 r)) .normal (st 148 [(0, anyV 0 m627a.length), (1, iv z732a), (2, iv z732b), (3, iv m612b), (4, fn 87), (10, .bool m629.1), (11, .bool m629.2.1), (12, iv (w64 (z732b - z732a))), (13, iv m627b), (75, .bool m629.2.2)]) [lb101 m627a] := by
    obtain ⟨m629a, m629b, m629c⟩ := m629
    dsimp only at hF ⊢
    refine NX.sq ?_
    refine TS.cd (.tmp 75) m629c (fun hc630 => ?_) (fun hc630 => ?_)
    · replace hF := of_pos hF hc630
      refine TS.sq ?_
      obtain ⟨r631, h632, hF⟩ := of_do hF
      obtain ⟨hg633, hF⟩ := of_guard hF
      refine TS.rg (TI.ra 4 [0, 1, 2, 3, 4, 10, 11, 12, 13, 76, 77, 78, 79] (st 148 [(0, anyV 0 m627a.length), (1, iv z732a), (2, iv z732b), (3, iv m612b), (4, fn 87), (10, .bool m629a), (11, .bool m629b), (12, iv (w64 (z732b - z732a))), (13, iv m627b), (76, anyV 0 m627a.length), (77, iv z732a), (78, iv z732b), (79, fn 87)]) ?_)
      refine TI.icallL (g := 115) (args := [anyV 0 m627a.length, iv z732a, iv z732b, fn 87]) (v := .bool r631.1) (h1 := [lb101 r631.2]) (a2 := (st 148 [(0, anyV 0 r631.2.length), (1, iv z732a), (2, iv z732b), (3, iv m612b), (4, fn 87), (10, .bool m629a), (11, .bool m629b), (12, iv (w64 (z732b - z732a))), (13, iv m627b), (80, .bool r631.1)])) (h2 := [lb101 r631.2]) (fun nn => (st 148 [(0, anyV 0 (nn)), (1, iv z732a), (2, iv z732b), (3, iv m612b), (4, fn 87), (10, .bool m629a), (11, .bool m629b), (12, iv (w64 (z732b - z732a))), (13, iv m627b), (80, .bool r631.1)])) (by kernel_rfl) (C115 _ _ (by first | rfl | simp only [List.length_set]) _ _ _ h632) [0, 1, 2, 3, 4, 10, 11, 12, 13, 80] [0] hg633 (by kernel_rfl) rfl (TI.dq ?_)
      refine TS.cd (.tmp 80) r631.1 (fun hc634 => ?_) (fun hc634 => ?_)
      · replace hF := of_pos hF hc634
        refine TS.rt (NX.sqR (NX.bkR ?_))
        have hF := sj hF
        subst hF
        exact Rd.out (e := .ret) (by intro h; cases h) (And.intro rfl (Wk.an [] Ats.l [anyV 0 r631.2.length] (.cons rav .nil)))
      replace hF := of_neg hF hc634
      refine TS.sk (NX.sq (TS.sq (TS.sq ?_)))
      obtain ⟨m644, hm678, hF⟩ := of_do hF
      have hK : NX Pg 0 1 [.sq c99.s2.s2.bd.bd.bd.s2.s2.s2.s2.s2.s2.s2.s1.s2, .sq c99.s2.s2.bd.bd.bd.s2.s2.s2.s2.s2.s2.s2.s2, .bk 1] (Rd Pg 0 1 c99.s2.s2.bd.bd (P99l0 rec99 r)) .normal (st 148 [(0, anyV 0 r631.2.length), (1, iv z732a), (2, iv z732b), (3, iv m612b), (4, fn 87), (10, .bool m629a), (11, .bool m629b), (12, iv (w64 (z732b - z732a))), (13, iv m627b), (97, .bool m644)]) [lb101 r631.2] := by
       refine NX.sq ?_
       cases m644 with
       | true =>
        replace hF := of_pos hF rfl
        refine TS.cdT (.tmp 97) (TS.sq ?_)
        obtain ⟨r648, h649, hF⟩ := of_do hF
        obtain ⟨hg650, hF⟩ := of_guard hF
        refine TS.rg (TI.ra 5 [0, 2, 3, 4, 10, 11, 98, 99, 100, 101, 102] (st 148 [(0, anyV 0 r631.2.length), (2, iv z732b), (3, iv m612b), (4, fn 87), (10, .bool m629a), (11, .bool m629b), (98, anyV 0 r631.2.length), (99, iv z732a), (100, iv z732b), (101, iv m627b), (102, fn 87)]) ?_)
        refine TI.icallL (g := 116) (args := [anyV 0 r631.2.length, iv z732a, iv z732b, iv m627b, fn 87]) (v := iv r648.1) (h1 := [lb101 r648.2]) (a2 := (st 148 [(0, anyV 0 r648.2.length), (2, iv z732b), (3, iv m612b), (4, fn 87), (10, .bool m629a), (11, .bool m629b), (103, iv r648.1)])) (h2 := [lb101 r648.2]) (fun nn => (st 148 [(0, anyV 0 (nn)), (2, iv z732b), (3, iv m612b), (4, fn 87), (10, .bool m629a), (11, .bool m629b), (103, iv r648.1)])) (by kernel_rfl) (C116 _ _ (by first | rfl | simp only [List.length_set]) _ _ _ _ h649) [0, 2, 3, 4, 10, 11, 103] [0] hg650 (by kernel_rfl) rfl (TI.ra 1 [0, 2, 3, 4, 10, 11, 15] (st 148 [(0, anyV 0 r648.2.length), (2, iv z732b), (3, iv m612b), (4, fn 87), (10, .bool m629a), (11, .bool m629b), (15, iv r648.1)]) (TI.dq (TS.sq (TS.rg (TI.ra 2 [0, 1, 2, 3, 4, 10, 11] (st 148 [(0, anyV 0 r648.2.length), (1, iv r648.1), (2, iv z732b), (3, iv m612b), (4, fn 87), (10, .bool m629a), (11, .bool m629b)]) (TI.dq ?_))))))
        refine TS.ex 1 (NX.sqX (NX.bkX ?_))
        exact Rd.again (a2 := (st 148 [(0, anyV 0 r648.2.length), (1, iv r648.1), (2, iv z732b), (3, iv m612b), (4, fn 87), (10, .bool m629a), (11, .bool m629b)])) (h2 := [lb101 r648.2]) (Wk.an [] Ats.l [anyV 0 r648.2.length, iv r648.1, iv z732b, iv m612b, fn 87, .bool m629a, .bool m629b] (.cons rav (.fl (.fl (.fl (.cons (Rn.func' .nil .nil) (.fl (.fl .nil)))))))) (ih (r648.1, z732b, m612b, m629a, m629b, r648.2) _ hF)
       | false =>
        replace hF := of_neg hF rfl
        refine TS.cdF (.tmp 97) (TS.sk (NX.sq (TS.sq ?_)))
        obtain ⟨r651, h652, hF⟩ := of_do hF
        obtain ⟨hg653, hF⟩ := of_guard hF
        refine TS.rg (TI.ra 5 [0, 1, 2, 3, 4, 12, 106, 107, 108, 109, 110] (st 148 [(0, anyV 0 r631.2.length), (1, iv z732a), (2, iv z732b), (3, iv m612b), (4, fn 87), (12, iv (w64 (z732b - z732a))), (106, anyV 0 r631.2.length), (107, iv z732a), (108, iv z732b), (109, iv m627b), (110, fn 87)]) ?_)
        refine TI.icallL (g := 117) (args := [anyV 0 r631.2.length, iv z732a, iv z732b, iv m627b, fn 87]) (v := .tuple ⟨[iv r651.1, .bool r651.2.1]⟩) (h1 := [lb101 r651.2.2]) (a2 := (st 148 [(0, anyV 0 r651.2.2.length), (1, iv z732a), (2, iv z732b), (3, iv m612b), (4, fn 87), (12, iv (w64 (z732b - z732a))), (111, .tuple ⟨[iv r651.1, .bool r651.2.1]⟩)])) (h2 := [lb101 r651.2.2]) (fun nn => (st 148 [(0, anyV 0 (nn)), (1, iv z732a), (2, iv z732b), (3, iv m612b), (4, fn 87), (12, iv (w64 (z732b - z732a))), (111, .tuple ⟨[iv r651.1, .bool r651.2.1]⟩)])) (by kernel_rfl) (C117 _ _ (by first | rfl | simp only [List.length_set]) _ _ _ _ h652) [0, 1, 2, 3, 4, 12, 111] [0] hg653 (by kernel_rfl) rfl (TI.ra 5 [0, 1, 2, 3, 4, 12, 16, 17] (st 148 [(0, anyV 0 r651.2.2.length), (1, iv z732a), (2, iv z732b), (3, iv m612b), (4, fn 87), (12, iv (w64 (z732b - z732a))), (16, iv r651.1), (17, .bool r651.2.1)]) (TI.dq (TS.sq (TS.rg (TI.ra 2 [0, 1, 2, 3, 4, 11, 12, 16] (st 148 [(0, anyV 0 r651.2.2.length), (1, iv z732a), (2, iv z732b), (3, iv m612b), (4, fn 87), (11, .bool r651.2.1), (12, iv (w64 (z732b - z732a))), (16, iv r651.1)]) (TI.dq ?_))))))
        refine TS.sq (TS.rg (TI.ra 8 [0, 1, 2, 3, 4, 11, 12, 16, 18, 19] (st 148 [(0, anyV 0 r651.2.2.length), (1, iv z732a), (2, iv z732b), (3, iv m612b), (4, fn 87), (11, .bool r651.2.1), (12, iv (w64 (z732b - z732a))), (16, iv r651.1), (18, iv (w64 (r651.1 - z732a))), (19, iv (w64 (z732b - r651.1)))]) (TI.dq (TS.sq (TS.rg (TI.ra 3 [0, 1, 2, 3, 4, 11, 16, 18, 19, 20] (st 148 [(0, anyV 0 r651.2.2.length), (1, iv z732a), (2, iv z732b), (3, iv m612b), (4, fn 87), (11, .bool r651.2.1), (16, iv r651.1), (18, iv (w64 (r651.1 - z732a))), (19, iv (w64 (z732b - r651.1))), (20, iv (w64 (Int.tdiv (w64 (z732b - z732a)) 8)))]) (TI.dn ?_)))))))
        refine NX.sq (TS.sq (TS.rg (TI.ra 3 [0, 1, 2, 3, 4, 11, 16, 18, 19, 20, 125] (st 148 [(0, anyV 0 r651.2.2.length), (1, iv z732a), (2, iv z732b), (3, iv m612b), (4, fn 87), (11, .bool r651.2.1), (16, iv r651.1), (18, iv (w64 (r651.1 - z732a))), (19, iv (w64 (z732b - r651.1))), (20, iv (w64 (Int.tdiv (w64 (z732b - z732a)) 8))), (125, .bool (decide ((w64 (r651.1 - z732a)) < (w64 (z732b - r651.1)))))]) (TI.dq ?_))))
        obtain ⟨m669, hm670, hF⟩ := of_do hF
        have hK : NX Pg 0 1 [.bk 1] (Rd Pg 0 1 c99.s2.s2.bd.bd (P99l0 rec99 r)) .normal (st 148 [(0, anyV 0 m669.1.length), (1, iv m669.2.1), (2, iv m669.2.2.1), (3, iv m612b), (4, fn 87), (10, .bool m669.2.2.2), (11, .bool r651.2.1)]) [lb101 m669.1] := by
         obtain ⟨m669a, m669b, m669c, m669d⟩ := m669
         dsimp only at hF ⊢
         refine NX.bk ?_
         exact Rd.again (a2 := (st 148 [(0, anyV 0 m669a.length), (1, iv m669b), (2, iv m669c), (3, iv m612b), (4, fn 87), (10, .bool m669d), (11, .bool r651.2.1)])) (h2 := [lb101 m669a]) (Wk.an [] Ats.l [anyV 0 m669a.length, iv m669b, iv m669c, iv m612b, fn 87, .bool m669d, .bool r651.2.1] (.cons rav (.fl (.fl (.fl (.cons (Rn.func' .nil .nil) (.fl (.fl .nil)))))))) (ih (m669b, m669c, m612b, m669d, r651.2.1, m669a) _ hF)
        clear hF
        have hF := hm670
        clear hm670
        refine TS.start ?_
        refine TS.cd (.tmp 125) (decide ((w64 (r651.1 - z732a)) < (w64 (z732b - r651.1)))) (fun hc671 => ?_) (fun hc671 => ?_)
        · replace hF := of_pos hF hc671
          refine TS.sq (TS.rg (TI.ra 4 [0, 1, 2, 3, 4, 10, 11, 16] (st 148 [(0, anyV 0 r651.2.2.length), (1, iv z732a), (2, iv z732b), (3, iv m612b), (4, fn 87), (10, .bool (decide ((w64 (r651.1 - z732a)) ≥ (w64 (Int.tdiv (w64 (z732b - z732a)) 8))))), (11, .bool r651.2.1), (16, iv r651.1)]) (TI.dq (TS.sq ?_))))
          obtain ⟨r672, h673, hF⟩ := of_do hF
          obtain ⟨hg674, hF⟩ := of_guard hF
          refine TS.rg (TI.ra 5 [0, 2, 3, 4, 10, 11, 16, 129, 130, 131, 132, 133] (st 148 [(0, anyV 0 r651.2.2.length), (2, iv z732b), (3, iv m612b), (4, fn 87), (10, .bool (decide ((w64 (r651.1 - z732a)) ≥ (w64 (Int.tdiv (w64 (z732b - z732a)) 8))))), (11, .bool r651.2.1), (16, iv r651.1), (129, anyV 0 r651.2.2.length), (130, iv z732a), (131, iv r651.1), (132, iv m612b), (133, fn 87)]) ?_)
          refine TI.icallL (g := 99) (args := [anyV 0 r651.2.2.length, iv z732a, iv r651.1, iv m612b, fn 87]) (v := .tuple ⟨[]⟩) (h1 := [lb101 r672]) (a2 := (st 148 [(0, anyV 0 r672.length), (2, iv z732b), (3, iv m612b), (4, fn 87), (10, .bool (decide ((w64 (r651.1 - z732a)) ≥ (w64 (Int.tdiv (w64 (z732b - z732a)) 8))))), (11, .bool r651.2.1), (16, iv r651.1)])) (h2 := [lb101 r672]) (fun nn => (st 148 [(0, anyV 0 (nn)), (2, iv z732b), (3, iv m612b), (4, fn 87), (10, .bool (decide ((w64 (r651.1 - z732a)) ≥ (w64 (Int.tdiv (w64 (z732b - z732a)) 8))))), (11, .bool r651.2.1), (16, iv r651.1)])) (by kernel_rfl) (hrec99 _ _ (by first | rfl | simp only [List.length_set]) _ _ _ _ h673) [0, 2, 3, 4, 10, 11, 16] [0] hg674 (by kernel_rfl) rfl (TI.dq (TS.rg (TI.ra 3 [0, 1, 2, 3, 4, 10, 11] (st 148 [(0, anyV 0 r672.length), (1, iv (w64 (r651.1 + 1))), (2, iv z732b), (3, iv m612b), (4, fn 87), (10, .bool (decide ((w64 (r651.1 - z732a)) ≥ (w64 (Int.tdiv (w64 (z732b - z732a)) 8))))), (11, .bool r651.2.1)]) (TI.dn ?_))))
          have hF := sj hF
          subst hF
          exact TL.weak (by exact (Wk.an [] Ats.l [anyV 0 r672.length, iv (w64 (r651.1 + 1)), iv z732b, iv m612b, fn 87, .bool (decide ((w64 (r651.1 - z732a)) ≥ (w64 (Int.tdiv (w64 (z732b - z732a)) 8)))), .bool r651.2.1] (.cons rav (.fl (.fl (.fl (.cons (Rn.func' .nil .nil) (.fl (.fl .nil))))))))) hK
        replace hF := of_neg hF hc671
        refine TS.sq (TS.rg (TI.ra 4 [0, 1, 2, 3, 4, 10, 11, 16] (st 148 [(0, anyV 0 r651.2.2.length), (1, iv z732a), (2, iv z732b), (3, iv m612b), (4, fn 87), (10, .bool (decide ((w64 (z732b - r651.1)) ≥ (w64 (Int.tdiv (w64 (z732b - z732a)) 8))))), (11, .bool r651.2.1), (16, iv r651.1)]) (TI.dq (TS.sq ?_))))
        obtain ⟨r675, h676, hF⟩ := of_do hF
        obtain ⟨hg677, hF⟩ := of_guard hF
        refine TS.rg (TI.ra 6 [0, 1, 3, 4, 10, 11, 16, 140, 142, 143, 144, 145] (st 148 [(0, anyV 0 r651.2.2.length), (1, iv z732a), (3, iv m612b), (4, fn 87), (10, .bool (decide ((w64 (z732b - r651.1)) ≥ (w64 (Int.tdiv (w64 (z732b - z732a)) 8))))), (11, .bool r651.2.1), (16, iv r651.1), (140, anyV 0 r651.2.2.length), (142, iv (w64 (r651.1 + 1))), (143, iv z732b), (144, iv m612b), (145, fn 87)]) ?_)
        refine TI.icallL (g := 99) (args := [anyV 0 r651.2.2.length, iv (w64 (r651.1 + 1)), iv z732b, iv m612b, fn 87]) (v := .tuple ⟨[]⟩) (h1 := [lb101 r675]) (a2 := (st 148 [(0, anyV 0 r675.length), (1, iv z732a), (3, iv m612b), (4, fn 87), (10, .bool (decide ((w64 (z732b - r651.1)) ≥ (w64 (Int.tdiv (w64 (z732b - z732a)) 8))))), (11, .bool r651.2.1), (16, iv r651.1)])) (h2 := [lb101 r675]) (fun nn => (st 148 [(0, anyV 0 (nn)), (1, iv z732a), (3, iv m612b), (4, fn 87), (10, .bool (decide ((w64 (z732b - r651.1)) ≥ (w64 (Int.tdiv (w64 (z732b - z732a)) 8))))), (11, .bool r651.2.1), (16, iv r651.1)])) (by kernel_rfl) (hrec99 _ _ (by first | rfl | simp only [List.length_set]) _ _ _ _ h676) [0, 1, 3, 4, 10, 11, 16] [0] hg677 (by kernel_rfl) rfl (TI.dq (TS.rg (TI.ra 2 [0, 1, 2, 3, 4, 10, 11] (st 148 [(0, anyV 0 r675.length), (1, iv z732a), (2, iv r651.1), (3, iv m612b), (4, fn 87), (10, .bool (decide ((w64 (z732b - r651.1)) ≥ (w64 (Int.tdiv (w64 (z732b - z732a)) 8))))), (11, .bool r651.2.1)]) (TI.dn ?_))))
        have hF := sj hF
        subst hF
        exact TL.weak (by exact (Wk.an [] Ats.l [anyV 0 r675.length, iv z732a, iv r651.1, iv m612b, fn 87, .bool (decide ((w64 (z732b - r651.1)) ≥ (w64 (Int.tdiv (w64 (z732b - z732a)) 8)))), .bool r651.2.1] (.cons rav (.fl (.fl (.fl (.cons (Rn.func' .nil .nil) (.fl (.fl .nil))))))))) hK
      rcases Bool.eq_false_or_eq_true (decide (z732a > 0)) with hc635 | hc635
      · replace hm678 := of_pos hm678 hc635
        obtain ⟨hg636, hm678⟩ := of_guard hm678
        obtain ⟨o637, h638, hm678⟩ := of_do hm678
        replace h638 := sj h638
        obtain ⟨hg639, hm678⟩ := of_guard hm678
        obtain ⟨o640, h641, hm678⟩ := of_do hm678
        replace h641 := sj h641
        obtain ⟨r642, h643, hm678⟩ := of_do hm678
        have hm678 := sj hm678
        subst hm678
        have hT : ∀ e ∈ ([⟨87, [ag [iv o637.1, iv o637.2], ag [iv o640.1, iv o640.2]], [lb101 r631.2], iv r642, []⟩] : List Entry), PureSim Pg e.g e.args e.h e.v e.new := by
         intro e he
         simp only [List.mem_cons, List.not_mem_nil, or_false] at he
         rcases he with rfl
         exact PureSim.ak (C87 _ _ _ _ _ h643)
        refine TS.dp [⟨87, [ag [iv o637.1, iv o637.2], ag [iv o640.1, iv o640.2]], [lb101 r631.2], iv r642, []⟩] hT mixed 13 [0, 1, 2, 3, 4, 10, 11, 12, 13, 97] [0] (st 148 [(0, anyV 0 r631.2.length), (1, iv z732a), (2, iv z732b), (3, iv m612b), (4, fn 87), (10, .bool m629a), (11, .bool m629b), (12, iv (w64 (z732b - z732a))), (13, iv m627b), (97, .bool (!(decide (r642 < 0))))]) [lb101 r631.2] ?_ ?_
        · refine QJ.rn (qs (st 148 [(0, anyV 0 r631.2.length), (1, iv z732a), (2, iv z732b), (3, iv m612b), (4, fn 87), (10, .bool m629a), (11, .bool m629b), (12, iv (w64 (z732b - z732a))), (13, iv m627b), (80, .bool r631.1), (81, iv z732a)]) [lb101 r631.2] [] []) 1 (QJ.o { val := .bool true } (q_conv (e := decide (z732a > 0)) (b := true) (by kernel_rfl) hc635) (QJ.rn (qs (st 148 [(0, anyV 0 r631.2.length), (1, iv z732a), (2, iv z732b), (3, iv m612b), (4, fn 87), (10, .bool m629a), (11, .bool m629b), (12, iv (w64 (z732b - z732a))), (13, iv m627b), (80, .bool r631.1), (81, iv z732a), (82, .bool true), (83, .bool true), (84, fn 87), (85, anyV 0 r631.2.length), (86, iv z732a), (87, iv (w64 (z732a - 1)))]) [lb101 r631.2] [] []) 5 (QJ.o { val := pt 0 (0 + (w64 (z732a - 1)).toNat * 2) } (q_ixS 0 0 ((w64 (z732a - 1)).toNat * 2) (by kernel_rfl) hg636) (QJ.o { val := ag [iv o637.1, iv o637.2] } (q_nA Pg [lb101 r631.2] 101 0 (0 + (w64 (z732a - 1)).toNat * 2) r631.2 e101 2 101 (w64 (z732a - 1)).toNat (0, 0) h638) (QJ.rn (qs (st 148 [(0, anyV 0 r631.2.length), (1, iv z732a), (2, iv z732b), (3, iv m612b), (4, fn 87), (10, .bool m629a), (11, .bool m629b), (12, iv (w64 (z732b - z732a))), (13, iv m627b), (80, .bool r631.1), (81, iv z732a), (82, .bool true), (83, .bool true), (84, fn 87), (85, anyV 0 r631.2.length), (86, iv z732a), (87, iv (w64 (z732a - 1))), (88, pt 0 (0 + (w64 (z732a - 1)).toNat * 2)), (89, ag [iv o637.1, iv o637.2]), (90, anyV 0 r631.2.length), (91, iv m627b)]) [lb101 r631.2] [] []) 2 (QJ.o { val := pt 0 (0 + m627b.toNat * 2) } (q_ixS 0 0 (m627b.toNat * 2) (by kernel_rfl) hg639) (QJ.o { val := ag [iv o640.1, iv o640.2] } (q_nA Pg [lb101 r631.2] 101 0 (0 + m627b.toNat * 2) r631.2 e101 2 101 m627b.toNat (0, 0) h641) (QJ.dn ⟨rfl, ?_⟩))))))))
          exact SJ.o { val := iv r642, new := [] } (qOf_call (g := 87) (args := [ag [iv o637.1, iv o637.2], ag [iv o640.1, iv o640.2]]) (by kernel_rfl) lookC_hit) SJ.la
        exact hK
      replace hm678 := of_neg hm678 hc635
      have hm678 := sj hm678
      subst hm678
      refine TS.dp [] (fun e he => by cases he) mixed 13 [0, 1, 2, 3, 4, 10, 11, 12, 13, 97] [0] (st 148 [(0, anyV 0 r631.2.length), (1, iv z732a), (2, iv z732b), (3, iv m612b), (4, fn 87), (10, .bool m629a), (11, .bool m629b), (12, iv (w64 (z732b - z732a))), (13, iv m627b), (97, .bool false)]) [lb101 r631.2] ?_ ?_
      · exact QJ.rn (qs (st 148 [(0, anyV 0 r631.2.length), (1, iv z732a), (2, iv z732b), (3, iv m612b), (4, fn 87), (10, .bool m629a), (11, .bool m629b), (12, iv (w64 (z732b - z732a))), (13, iv m627b), (80, .bool r631.1), (81, iv z732a)]) [lb101 r631.2] [] []) 1 (QJ.o { val := .bool false } (q_conv (e := decide (z732a > 0)) (b := false) (by kernel_rfl) hc635) (QJ.rn (qs (st 148 [(0, anyV 0 r631.2.length), (1, iv z732a), (2, iv z732b), (3, iv m612b), (4, fn 87), (10, .bool m629a), (11, .bool m629b), (12, iv (w64 (z732b - z732a))), (13, iv m627b), (80, .bool r631.1), (81, iv z732a), (82, .bool false), (83, .bool false), (84, undef), (85, undef), (86, undef), (87, undef), (88, undef), (89, undef), (90, undef), (91, undef), (92, undef), (93, undef)]) [lb101 r631.2] [] []) 11 (QJ.dn ⟨rfl, SJ.la⟩)))
      exact hK
    replace hF := of_neg hF hc630
    refine TS.sk (NX.sq (TS.sq (TS.sq ?_)))
    obtain ⟨m688, hm722, hF⟩ := of_do hF
    have hK : NX Pg 0 1 [.sq c99.s2.s2.bd.bd.bd.s2.s2.s2.s2.s2.s2.s2.s1.s2, .sq c99.s2.s2.bd.bd.bd.s2.s2.s2.s2.s2.s2.s2.s2, .bk 1] (Rd Pg 0 1 c99.s2.s2.bd.bd (P99l0 rec99 r)) .normal (st 148 [(0, anyV 0 m627a.length), (1, iv z732a), (2, iv z732b), (3, iv m612b), (4, fn 87), (10, .bool m629a), (11, .bool m629b), (12, iv (w64 (z732b - z732a))), (13, iv m627b), (97, .bool m688)]) [lb101 m627a] := by
     refine NX.sq ?_
     cases m688 with
     | true =>
      replace hF := of_pos hF rfl
      refine TS.cdT (.tmp 97) (TS.sq ?_)
      obtain ⟨r692, h693, hF⟩ := of_do hF
      obtain ⟨hg694, hF⟩ := of_guard hF
      refine TS.rg (TI.ra 5 [0, 2, 3, 4, 10, 11, 98, 99, 100, 101, 102] (st 148 [(0, anyV 0 m627a.length), (2, iv z732b), (3, iv m612b), (4, fn 87), (10, .bool m629a), (11, .bool m629b), (98, anyV 0 m627a.length), (99, iv z732a), (100, iv z732b), (101, iv m627b), (102, fn 87)]) ?_)
      refine TI.icallL (g := 116) (args := [anyV 0 m627a.length, iv z732a, iv z732b, iv m627b, fn 87]) (v := iv r692.1) (h1 := [lb101 r692.2]) (a2 := (st 148 [(0, anyV 0 r692.2.length), (2, iv z732b), (3, iv m612b), (4, fn 87), (10, .bool m629a), (11, .bool m629b), (103, iv r692.1)])) (h2 := [lb101 r692.2]) (fun nn => (st 148 [(0, anyV 0 (nn)), (2, iv z732b), (3, iv m612b), (4, fn 87), (10, .bool m629a), (11, .bool m629b), (103, iv r692.1)])) (by kernel_rfl) (C116 _ _ (by first | rfl | simp only [List.length_set]) _ _ _ _ h693) [0, 2, 3, 4, 10, 11, 103] [0] hg694 (by kernel_rfl) rfl (TI.ra 1 [0, 2, 3, 4, 10, 11, 15] (st 148 [(0, anyV 0 r692.2.length), (2, iv z732b), (3, iv m612b), (4, fn 87), (10, .bool m629a), (11, .bool m629b), (15, iv r692.1)]) (TI.dq (TS.sq (TS.rg (TI.ra 2 [0, 1, 2, 3, 4, 10, 11] (st 148 [(0, anyV 0 r692.2.length), (1, iv r692.1), (2, iv z732b), (3, iv m612b), (4, fn 87), (10, .bool m629a), (11, .bool m629b)]) (TI.dq ?_))))))
      refine TS.ex 1 (NX.sqX (NX.bkX ?_))
      exact Rd.again (a2 := (st 148 [(0, anyV 0 r692.2.length), (1, iv r692.1), (2, iv z732b), (3, iv m612b), (4, fn 87), (10, .bool m629a), (11, .bool m629b)])) (h2 := [lb101 r692.2]) (Wk.an [] Ats.l [anyV 0 r692.2.length, iv r692.1, iv z732b, iv m612b, fn 87, .bool m629a, .bool m629b] (.cons rav (.fl (.fl (.fl (.cons (Rn.func' .nil .nil) (.fl (.fl .nil)))))))) (ih (r692.1, z732b, m612b, m629a, m629b, r692.2) _ hF)
     | false =>
      replace hF := of_neg hF rfl
      refine TS.cdF (.tmp 97) (TS.sk (NX.sq (TS.sq ?_)))
      obtain ⟨r695, h696, hF⟩ := of_do hF
      obtain ⟨hg697, hF⟩ := of_guard hF
      refine TS.rg (TI.ra 5 [0, 1, 2, 3, 4, 12, 106, 107, 108, 109, 110] (st 148 [(0, anyV 0 m627a.length), (1, iv z732a), (2, iv z732b), (3, iv m612b), (4, fn 87), (12, iv (w64 (z732b - z732a))), (106, anyV 0 m627a.length), (107, iv z732a), (108, iv z732b), (109, iv m627b), (110, fn 87)]) ?_)
      refine TI.icallL (g := 117) (args := [anyV 0 m627a.length, iv z732a, iv z732b, iv m627b, fn 87]) (v := .tuple ⟨[iv r695.1, .bool r695.2.1]⟩) (h1 := [lb101 r695.2.2]) (a2 := (st 148 [(0, anyV 0 r695.2.2.length), (1, iv z732a), (2, iv z732b), (3, iv m612b), (4, fn 87), (12, iv (w64 (z732b - z732a))), (111, .tuple ⟨[iv r695.1, .bool r695.2.1]⟩)])) (h2 := [lb101 r695.2.2]) (fun nn => (st 148 [(0, anyV 0 (nn)), (1, iv z732a), (2, iv z732b), (3, iv m612b), (4, fn 87), (12, iv (w64 (z732b - z732a))), (111, .tuple ⟨[iv r695.1, .bool r695.2.1]⟩)])) (by kernel_rfl) (C117 _ _ (by first | rfl | simp only [List.length_set]) _ _ _ _ h696) [0, 1, 2, 3, 4, 12, 111] [0] hg697 (by kernel_rfl) rfl (TI.ra 5 [0, 1, 2, 3, 4, 12, 16, 17] (st 148 [(0, anyV 0 r695.2.2.length), (1, iv z732a), (2, iv z732b), (3, iv m612b), (4, fn 87), (12, iv (w64 (z732b - z732a))), (16, iv r695.1), (17, .bool r695.2.1)]) (TI.dq (TS.sq (TS.rg (TI.ra 2 [0, 1, 2, 3, 4, 11, 12, 16] (st 148 [(0, anyV 0 r695.2.2.length), (1, iv z732a), (2, iv z732b), (3, iv m612b), (4, fn 87), (11, .bool r695.2.1), (12, iv (w64 (z732b - z732a))), (16, iv r695.1)]) (TI.dq ?_))))))
      refine TS.sq (TS.rg (TI.ra 8 [0, 1, 2, 3, 4, 11, 12, 16, 18, 19] (st 148 [(0, anyV 0 r695.2.2.length), (1, iv z732a), (2, iv z732b), (3, iv m612b), (4, fn 87), (11, .bool r695.2.1), (12, iv (w64 (z732b - z732a))), (16, iv r695.1), (18, iv (w64 (r695.1 - z732a))), (19, iv (w64 (z732b - r695.1)))]) (TI.dq (TS.sq (TS.rg (TI.ra 3 [0, 1, 2, 3, 4, 11, 16, 18, 19, 20] (st 148 [(0, anyV 0 r695.2.2.length), (1, iv z732a), (2, iv z732b), (3, iv m612b), (4, fn 87), (11, .bool r695.2.1), (16, iv r695.1), (18, iv (w64 (r695.1 - z732a))), (19, iv (w64 (z732b - r695.1))), (20, iv (w64 (Int.tdiv (w64 (z732b - z732a)) 8)))]) (TI.dn ?_)))))))
      refine NX.sq (TS.sq (TS.rg (TI.ra 3 [0, 1, 2, 3, 4, 11, 16, 18, 19, 20, 125] (st 148 [(0, anyV 0 r695.2.2.length), (1, iv z732a), (2, iv z732b), (3, iv m612b), (4, fn 87), (11, .bool r695.2.1), (16, iv r695.1), (18, iv (w64 (r695.1 - z732a))), (19, iv (w64 (z732b - r695.1))), (20, iv (w64 (Int.tdiv (w64 (z732b - z732a)) 8))), (125, .bool (decide ((w64 (r695.1 - z732a)) < (w64 (z732b - r695.1)))))]) (TI.dq ?_))))
      obtain ⟨m713, hm714, hF⟩ := of_do hF
      have hK : NX Pg 0 1 [.bk 1] (Rd Pg 0 1 c99.s2.s2.bd.bd (P99l0 rec99 r)) .normal (st 148 [(0, anyV 0 m713.1.length), (1, iv m713.2.1), (2, iv m713.2.2.1), (3, iv m612b), (4, fn 87), (10, .bool m713.2.2.2), (11, .bool r695.2.1)]) [lb101 m713.1] := by
       obtain ⟨m713a, m713b, m713c, m713d⟩ := m713
       dsimp only at hF ⊢
       refine NX.bk ?_
       exact Rd.again (a2 := (st 148 [(0, anyV 0 m713a.length), (1, iv m713b), (2, iv m713c), (3, iv m612b), (4, fn 87), (10, .bool m713d), (11, .bool r695.2.1)])) (h2 := [lb101 m713a]) (Wk.an [] Ats.l [anyV 0 m713a.length, iv m713b, iv m713c, iv m612b, fn 87, .bool m713d, .bool r695.2.1] (.cons rav (.fl (.fl (.fl (.cons (Rn.func' .nil .nil) (.fl (.fl .nil)))))))) (ih (m713b, m713c, m612b, m713d, r695.2.1, m713a) _ hF)
      clear hF
      have hF := hm714
      clear hm714
      refine TS.start ?_
      refine TS.cd (.tmp 125) (decide ((w64 (r695.1 - z732a)) < (w64 (z732b - r695.1)))) (fun hc715 => ?_) (fun hc715 => ?_)
      · replace hF := of_pos hF hc715
        refine TS.sq (TS.rg (TI.ra 4 [0, 1, 2, 3, 4, 10, 11, 16] (st 148 [(0, anyV 0 r695.2.2.length), (1, iv z732a), (2, iv z732b), (3, iv m612b), (4, fn 87), (10, .bool (decide ((w64 (r695.1 - z732a)) ≥ (w64 (Int.tdiv (w64 (z732b - z732a)) 8))))), (11, .bool r695.2.1), (16, iv r695.1)]) (TI.dq (TS.sq ?_))))
        obtain ⟨r716, h717, hF⟩ := of_do hF
        obtain ⟨hg718, hF⟩ := of_guard hF
        refine TS.rg (TI.ra 5 [0, 2, 3, 4, 10, 11, 16, 129, 130, 131, 132, 133] (st 148 [(0, anyV 0 r695.2.2.length), (2, iv z732b), (3, iv m612b), (4, fn 87), (10, .bool (decide ((w64 (r695.1 - z732a)) ≥ (w64 (Int.tdiv (w64 (z732b - z732a)) 8))))), (11, .bool r695.2.1), (16, iv r695.1), (129, anyV 0 r695.2.2.length), (130, iv z732a), (131, iv r695.1), (132, iv m612b), (133, fn 87)]) ?_)
        refine TI.icallL (g := 99) (args := [anyV 0 r695.2.2.length, iv z732a, iv r695.1, iv m612b, fn 87]) (v := .tuple ⟨[]⟩) (h1 := [lb101 r716]) (a2 := (st 148 [(0, anyV 0 r716.length), (2, iv z732b), (3, iv m612b), (4, fn 87), (10, .bool (decide ((w64 (r695.1 - z732a)) ≥ (w64 (Int.tdiv (w64 (z732b - z732a)) 8))))), (11, .bool r695.2.1), (16, iv r695.1)])) (h2 := [lb101 r716]) (fun nn => (st 148 [(0, anyV 0 (nn)), (2, iv z732b), (3, iv m612b), (4, fn 87), (10, .bool (decide ((w64 (r695.1 - z732a)) ≥ (w64 (Int.tdiv (w64 (z732b - z732a)) 8))))), (11, .bool r695.2.1), (16, iv r695.1)])) (by kernel_rfl) (hrec99 _ _ (by first | rfl | simp only [List.length_set]) _ _ _ _ h717) [0, 2, 3, 4, 10, 11, 16] [0] hg718 (by kernel_rfl) rfl (TI.dq (TS.rg (TI.ra 3 [0, 1, 2, 3, 4, 10, 11] (st 148 [(0, anyV 0 r716.length), (1, iv (w64 (r695.1 + 1))), (2, iv z732b), (3, iv m612b), (4, fn 87), (10, .bool (decide ((w64 (r695.1 - z732a)) ≥ (w64 (Int.tdiv (w64 (z732b - z732a)) 8))))), (11, .bool r695.2.1)]) (TI.dn ?_))))
        have hF := sj hF
        subst hF
        exact TL.weak (by exact (Wk.an [] Ats.l [anyV 0 r716.length, iv (w64 (r695.1 + 1)), iv z732b, iv m612b, fn 87, .bool (decide ((w64 (r695.1 - z732a)) ≥ (w64 (Int.tdiv (w64 (z732b - z732a)) 8)))), .bool r695.2.1] (.cons rav (.fl (.fl (.fl (.cons (Rn.func' .nil .nil) (.fl (.fl .nil))))))))) hK
      replace hF := of_neg hF hc715
      refine TS.sq (TS.rg (TI.ra 4 [0, 1, 2, 3, 4, 10, 11, 16] (st 148 [(0, anyV 0 r695.2.2.length), (1, iv z732a), (2, iv z732b), (3, iv m612b), (4, fn 87), (10, .bool (decide ((w64 (z732b - r695.1)) ≥ (w64 (Int.tdiv (w64 (z732b - z732a)) 8))))), (11, .bool r695.2.1), (16, iv r695.1)]) (TI.dq (TS.sq ?_))))
      obtain ⟨r719, h720, hF⟩ := of_do hF
      obtain ⟨hg721, hF⟩ := of_guard hF
      refine TS.rg (TI.ra 6 [0, 1, 3, 4, 10, 11, 16, 140, 142, 143, 144, 145] (st 148 [(0, anyV 0 r695.2.2.length), (1, iv z732a), (3, iv m612b), (4, fn 87), (10, .bool (decide ((w64 (z732b - r695.1)) ≥ (w64 (Int.tdiv (w64 (z732b - z732a)) 8))))), (11, .bool r695.2.1), (16, iv r695.1), (140, anyV 0 r695.2.2.length), (142, iv (w64 (r695.1 + 1))), (143, iv z732b), (144, iv m612b), (145, fn 87)]) ?_)
      refine TI.icallL (g := 99) (args := [anyV 0 r695.2.2.length, iv (w64 (r695.1 + 1)), iv z732b, iv m612b, fn 87]) (v := .tuple ⟨[]⟩) (h1 := [lb101 r719]) (a2 := (st 148 [(0, anyV 0 r719.length), (1, iv z732a), (3, iv m612b), (4, fn 87), (10, .bool (decide ((w64 (z732b - r695.1)) ≥ (w64 (Int.tdiv (w64 (z732b - z732a)) 8))))), (11, .bool r695.2.1), (16, iv r695.1)])) (h2 := [lb101 r719]) (fun nn => (st 148 [(0, anyV 0 (nn)), (1, iv z732a), (3, iv m612b), (4, fn 87), (10, .bool (decide ((w64 (z732b - r695.1)) ≥ (w64 (Int.tdiv (w64 (z732b - z732a)) 8))))), (11, .bool r695.2.1), (16, iv r695.1)])) (by kernel_rfl) (hrec99 _ _ (by first | rfl | simp only [List.length_set]) _ _ _ _ h720) [0, 1, 3, 4, 10, 11, 16] [0] hg721 (by kernel_rfl) rfl (TI.dq (TS.rg (TI.ra 2 [0, 1, 2, 3, 4, 10, 11] (st 148 [(0, anyV 0 r719.length), (1, iv z732a), (2, iv r695.1), (3, iv m612b), (4, fn 87), (10, .bool (decide ((w64 (z732b - r695.1)) ≥ (w64 (Int.tdiv (w64 (z732b - z732a)) 8))))), (11, .bool r695.2.1)]) (TI.dn ?_))))
      have hF := sj hF
      subst hF
      exact TL.weak (by exact (Wk.an [] Ats.l [anyV 0 r719.length, iv z732a, iv r695.1, iv m612b, fn 87, .bool (decide ((w64 (z732b - r695.1)) ≥ (w64 (Int.tdiv (w64 (z732b - z732a)) 8)))), .bool r695.2.1] (.cons rav (.fl (.fl (.fl (.cons (Rn.func' .nil .nil) (.fl (.fl .nil))))))))) hK
    rcases Bool.eq_false_or_eq_true (decide (z732a > 0)) with hc679 | hc679
    · replace hm722 := of_pos hm722 hc679
      obtain ⟨hg680, hm722⟩ := of_guard hm722
      obtain ⟨o681, h682, hm722⟩ := of_do hm722
      replace h682 := sj h682
      obtain ⟨hg683, hm722⟩ := of_guard hm722
      obtain ⟨o684, h685, hm722⟩ := of_do hm722
      replace h685 := sj h685
      obtain ⟨r686, h687, hm722⟩ := of_do hm722
      have hm722 := sj hm722
      subst hm722
      have hT : ∀ e ∈ ([⟨87, [ag [iv o681.1, iv o681.2], ag [iv o684.1, iv o684.2]], [lb101 m627a], iv r686, []⟩] : List Entry), PureSim Pg e.g e.args e.h e.v e.new := by
       intro e he
       simp only [List.mem_cons, List.not_mem_nil, or_false] at he
       rcases he with rfl
       exact PureSim.ak (C87 _ _ _ _ _ h687)
      refine TS.dp [⟨87, [ag [iv o681.1, iv o681.2], ag [iv o684.1, iv o684.2]], [lb101 m627a], iv r686, []⟩] hT mixed 13 [0, 1, 2, 3, 4, 10, 11, 12, 13, 97] [0] (st 148 [(0, anyV 0 m627a.length), (1, iv z732a), (2, iv z732b), (3, iv m612b), (4, fn 87), (10, .bool m629a), (11, .bool m629b), (12, iv (w64 (z732b - z732a))), (13, iv m627b), (97, .bool (!(decide (r686 < 0))))]) [lb101 m627a] ?_ ?_
      · refine QJ.rn (qs (st 148 [(0, anyV 0 m627a.length), (1, iv z732a), (2, iv z732b), (3, iv m612b), (4, fn 87), (10, .bool m629a), (11, .bool m629b), (12, iv (w64 (z732b - z732a))), (13, iv m627b), (75, .bool m629c), (81, iv z732a)]) [lb101 m627a] [] []) 1 (QJ.o { val := .bool true } (q_conv (e := decide (z732a > 0)) (b := true) (by kernel_rfl) hc679) (QJ.rn (qs (st 148 [(0, anyV 0 m627a.length), (1, iv z732a), (2, iv z732b), (3, iv m612b), (4, fn 87), (10, .bool m629a), (11, .bool m629b), (12, iv (w64 (z732b - z732a))), (13, iv m627b), (75, .bool m629c), (81, iv z732a), (82, .bool true), (83, .bool true), (84, fn 87), (85, anyV 0 m627a.length), (86, iv z732a), (87, iv (w64 (z732a - 1)))]) [lb101 m627a] [] []) 5 (QJ.o { val := pt 0 (0 + (w64 (z732a - 1)).toNat * 2) } (q_ixS 0 0 ((w64 (z732a - 1)).toNat * 2) (by kernel_rfl) hg680) (QJ.o { val := ag [iv o681.1, iv o681.2] } (q_nA Pg [lb101 m627a] 101 0 (0 + (w64 (z732a - 1)).toNat * 2) m627a e101 2 101 (w64 (z732a - 1)).toNat (0, 0) h682) (QJ.rn (qs (st 148 [(0, anyV 0 m627a.length), (1, iv z732a), (2, iv z732b), (3, iv m612b), (4, fn 87), (10, .bool m629a), (11, .bool m629b), (12, iv (w64 (z732b - z732a))), (13, iv m627b), (75, .bool m629c), (81, iv z732a), (82, .bool true), (83, .bool true), (84, fn 87), (85, anyV 0 m627a.length), (86, iv z732a), (87, iv (w64 (z732a - 1))), (88, pt 0 (0 + (w64 (z732a - 1)).toNat * 2)), (89, ag [iv o681.1, iv o681.2]), (90, anyV 0 m627a.length), (91, iv m627b)]) [lb101 m627a] [] []) 2 (QJ.o { val := pt 0 (0 + m627b.toNat * 2) } (q_ixS 0 0 (m627b.toNat * 2) (by kernel_rfl) hg683) (QJ.o { val := ag [iv o684.1, iv o684.2] } (q_nA Pg [lb101 m627a] 101 0 (0 + m627b.toNat * 2) m627a e101 2 101 m627b.toNat (0, 0) h685) (QJ.dn ⟨rfl, ?_⟩))))))))
        exact SJ.o { val := iv r686, new := [] } (qOf_call (g := 87) (args := [ag [iv o681.1, iv o681.2], ag [iv o684.1, iv o684.2]]) (by kernel_rfl) lookC_hit) SJ.la
      exact hK
    replace hm722 := of_neg hm722 hc679
    have hm722 := sj hm722
    subst hm722
    refine TS.dp [] (fun e he => by cases he) mixed 13 [0, 1, 2, 3, 4, 10, 11, 12, 13, 97] [0] (st 148 [(0, anyV 0 m627a.length), (1, iv z732a), (2, iv z732b), (3, iv m612b), (4, fn 87), (10, .bool m629a), (11, .bool m629b), (12, iv (w64 (z732b - z732a))), (13, iv m627b), (97, .bool false)]) [lb101 m627a] ?_ ?_
    · exact QJ.rn (qs (st 148 [(0, anyV 0 m627a.length), (1, iv z732a), (2, iv z732b), (3, iv m612b), (4, fn 87), (10, .bool m629a), (11, .bool m629b), (12, iv (w64 (z732b - z732a))), (13, iv m627b), (75, .bool m629c), (81, iv z732a)]) [lb101 m627a] [] []) 1 (QJ.o { val := .bool false } (q_conv (e := decide (z732a > 0)) (b := false) (by kernel_rfl) hc679) (QJ.rn (qs (st 148 [(0, anyV 0 m627a.length), (1, iv z732a), (2, iv z732b), (3, iv m612b), (4, fn 87), (10, .bool m629a), (11, .bool m629b), (12, iv (w64 (z732b - z732a))), (13, iv m627b), (75, .bool m629c), (81, iv z732a), (82, .bool false), (83, .bool false), (84, undef), (85, undef), (86, undef), (87, undef), (88, undef), (89, undef), (90, undef), (91, undef), (92, undef), (93, undef)]) [lb101 m627a] [] []) 11 (QJ.dn ⟨rfl, SJ.la⟩)))
    exact hK
   cases z732d with
   | true =>
    replace hm723 := of_pos hm723 rfl
    cases z732e with
    | true =>
     replace hm723 := of_pos hm723 rfl
     have hm723 := sj hm723
     subst hm723
     exact TS.rg (TI.ra 8 [0, 1, 2, 3, 4, 10, 11, 12, 13, 75] (st 148 [(0, anyV 0 m627a.length), (1, iv z732a), (2, iv z732b), (3, iv m612b), (4, fn 87), (10, .bool true), (11, .bool true), (12, iv (w64 (z732b - z732a))), (13, iv m627b), (75, .bool (m627c == 1))]) (TI.dn hK))
    | false =>
     replace hm723 := of_neg hm723 rfl
     have hm723 := sj hm723
     subst hm723
     exact TS.rg (TI.ra 8 [0, 1, 2, 3, 4, 10, 11, 12, 13, 75] (st 148 [(0, anyV 0 m627a.length), (1, iv z732a), (2, iv z732b), (3, iv m612b), (4, fn 87), (10, .bool true), (11, .bool false), (12, iv (w64 (z732b - z732a))), (13, iv m627b), (75, .bool false)]) (TI.dn hK))
   | false =>
    replace hm723 := of_neg hm723 rfl
    have hm723 := sj hm723
    subst hm723
    exact TS.rg (TI.ra 8 [0, 1, 2, 3, 4, 10, 11, 12, 13, 75] (st 148 [(0, anyV 0 m627a.length), (1, iv z732a), (2, iv z732b), (3, iv m612b), (4, fn 87), (10, .bool false), (11, .bool z732e), (12, iv (w64 (z732b - z732a))), (13, iv m627b), (75, .bool false)]) (TI.dn hK))
  clear hF
  have hF := hm628
  clear hm628
  refine TS.start ?_
  refine TS.cd (.tmp 56) (r614.2.1 == 2) (fun hc724 => ?_) (fun hc724 => ?_)
  · replace hF := of_pos hF hc724
    refine TS.sq ?_
    obtain ⟨r725, h726, hF⟩ := of_do hF
    obtain ⟨hg727, hF⟩ := of_guard hF
    refine TS.rg (TI.ra 4 [0, 1, 2, 3, 4, 10, 11, 12, 13, 57, 58, 59, 60] (st 148 [(0, anyV 0 r614.2.2.length), (1, iv z732a), (2, iv z732b), (3, iv m612b), (4, fn 87), (10, .bool z732d), (11, .bool z732e), (12, iv (w64 (z732b - z732a))), (13, iv r614.1), (57, anyV 0 r614.2.2.length), (58, iv z732a), (59, iv z732b), (60, fn 87)]) ?_)
    refine TI.icallL (g := 114) (args := [anyV 0 r614.2.2.length, iv z732a, iv z732b, fn 87]) (v := .tuple ⟨[]⟩) (h1 := [lb101 r725]) (a2 := (st 148 [(0, anyV 0 r725.length), (1, iv z732a), (2, iv z732b), (3, iv m612b), (4, fn 87), (10, .bool z732d), (11, .bool z732e), (12, iv (w64 (z732b - z732a))), (13, iv r614.1)])) (h2 := [lb101 r725]) (fun nn => (st 148 [(0, anyV 0 (nn)), (1, iv z732a), (2, iv z732b), (3, iv m612b), (4, fn 87), (10, .bool z732d), (11, .bool z732e), (12, iv (w64 (z732b - z732a))), (13, iv r614.1)])) (by kernel_rfl) (C114 _ _ (by first | rfl | simp only [List.length_set]) _ _ _ h726) [0, 1, 2, 3, 4, 10, 11, 12, 13] [0] hg727 (by kernel_rfl) rfl (TI.dq (TS.sq (TS.rg (TI.ra 7 [0, 1, 2, 3, 4, 10, 11, 12, 13] (st 148 [(0, anyV 0 r725.length), (1, iv z732a), (2, iv z732b), (3, iv m612b), (4, fn 87), (10, .bool z732d), (11, .bool z732e), (12, iv (w64 (z732b - z732a))), (13, iv (w64 ((w64 (z732b - 1)) - (w64 (r614.1 - z732a)))))]) (TI.dq (TS.rg ?_))))))
    refine TI.ra 1 [0, 1, 2, 3, 4, 10, 11, 12, 13, 14] (st 148 [(0, anyV 0 r725.length), (1, iv z732a), (2, iv z732b), (3, iv m612b), (4, fn 87), (10, .bool z732d), (11, .bool z732e), (12, iv (w64 (z732b - z732a))), (13, iv (w64 ((w64 (z732b - 1)) - (w64 (r614.1 - z732a))))), (14, iv 1)]) (TI.dn ?_)
    have hF := sj hF
    subst hF
    exact TS.weak (by exact (Wk.an [] Ats.l [anyV 0 r725.length, iv z732a, iv z732b, iv m612b, fn 87, .bool z732d, .bool z732e, iv (w64 (z732b - z732a)), iv (w64 ((w64 (z732b - 1)) - (w64 (r614.1 - z732a)))), iv 1] (.cons rav (.fl (.fl (.fl (.cons (Rn.func' .nil .nil) (.fl (.fl (.fl (.fl (.fl .nil)))))))))))) hK
  replace hF := of_neg hF hc724
  refine TS.sk ?_
  have hF := sj hF
  subst hF
  exact TS.weak (by exact (Wk.an [] Ats.l [anyV 0 r614.2.2.length, iv z732a, iv z732b, iv m612b, fn 87, .bool z732d, .bool z732e, iv (w64 (z732b - z732a)), iv r614.1, iv r614.2.1] (.cons rav (.fl (.fl (.fl (.cons (Rn.func' .nil .nil) (.fl (.fl (.fl (.fl (.fl .nil)))))))))))) hK
 clear hF
 have hF := hm613
 clear hm613
 refine TS.start ?_
 refine TS.cd (.tmp 39) (!z732d) (fun hc728 => ?_) (fun hc728 => ?_)
 · replace hF := of_pos hF hc728
   refine TS.sq ?_
   obtain ⟨r729, h730, hF⟩ := of_do hF
   obtain ⟨hg731, hF⟩ := of_guard hF
   refine TS.rg (TI.ra 4 [0, 1, 2, 3, 4, 10, 11, 12, 40, 41, 42, 43] (st 148 [(0, anyV 0 z732f.length), (1, iv z732a), (2, iv z732b), (3, iv z732c), (4, fn 87), (10, .bool z732d), (11, .bool z732e), (12, iv (w64 (z732b - z732a))), (40, anyV 0 z732f.length), (41, iv z732a), (42, iv z732b), (43, fn 87)]) ?_)
   refine TI.icallL (g := 112) (args := [anyV 0 z732f.length, iv z732a, iv z732b, fn 87]) (v := .tuple ⟨[]⟩) (h1 := [lb101 r729]) (a2 := (st 148 [(0, anyV 0 r729.length), (1, iv z732a), (2, iv z732b), (3, iv z732c), (4, fn 87), (10, .bool z732d), (11, .bool z732e), (12, iv (w64 (z732b - z732a)))])) (h2 := [lb101 r729]) (fun nn => (st 148 [(0, anyV 0 (nn)), (1, iv z732a), (2, iv z732b), (3, iv z732c), (4, fn 87), (10, .bool z732d), (11, .bool z732e), (12, iv (w64 (z732b - z732a)))])) (by kernel_rfl) (C112 _ _ (by first | rfl | simp only [List.length_set]) _ _ _ h730) [0, 1, 2, 3, 4, 10, 11, 12] [0] hg731 (by kernel_rfl) rfl (TI.dq (TS.rg (TI.ra 3 [0, 1, 2, 3, 4, 10, 11, 12] (st 148 [(0, anyV 0 r729.length), (1, iv z732a), (2, iv z732b), (3, iv (w64 (z732c - 1))), (4, fn 87), (10, .bool z732d), (11, .bool z732e), (12, iv (w64 (z732b - z732a)))]) (TI.dn ?_))))
   have hF := sj hF
   subst hF
   exact TS.weak (by exact (Wk.an [] Ats.l [anyV 0 r729.length, iv z732a, iv z732b, iv (w64 (z732c - 1)), fn 87, .bool z732d, .bool z732e, iv (w64 (z732b - z732a))] (.cons rav (.fl (.fl (.fl (.cons (Rn.func' .nil .nil) (.fl (.fl (.fl .nil)))))))))) hK
 replace hF := of_neg hF hc728
 refine TS.sk ?_
 have hF := sj hF
 subst hF
 exact TS.weak (by exact (Wk.an [] Ats.l [anyV 0 z732f.length, iv z732a, iv z732b, iv z732c, fn 87, .bool z732d, .bool z732e, iv (w64 (z732b - z732a))] (.cons rav (.fl (.fl (.fl (.cons (Rn.func' .nil .nil) (.fl (.fl (.fl .nil)))))))))) hK
theorem B99 (rec99 : (List I2) → Int → Int → Int → Option (List I2)) (hrec99 : ∀ (p0 : List I2) (k : Nat) (hk : List.length p0 = k) (p1 : Int) (p2 : Int) (p3 : Int) (r : List I2), rec99 p0 p1 p2 p3 = some r → ImpSim Pg 99 [anyV 0 k, iv p1, iv p2, iv p3, fn 87] 0 [lb101 p0] (.tuple #[]) [lb101 r]) (p0 : List I2) (p1 p2 p3 : Int) (r : List I2) (hF : F99b rec99 p0 p1 p2 p3 = some r) : TS Pg 0 1 c99 (st 148 [(0, anyV 0 p0.length), (1, iv p1), (2, iv p2), (3, iv p3), (4, fn 87)]) [lb101 p0] (NX Pg 0 1 [] (SortFin Pg Try.f99 [lb101 r] (.tuple #[]))) := by
 unfold F99b at hF
 refine TS.sq (TS.rg (TI.ra 1 [0, 1, 2, 3, 4, 10] (st 148 [(0, anyV 0 p0.length), (1, iv p1), (2, iv p2), (3, iv p3), (4, fn 87), (10, .bool true)]) (TI.dq (TS.sq (TS.rg (TI.ra 1 [0, 1, 2, 3, 4, 10, 11] (st 148 [(0, anyV 0 p0.length), (1, iv p1), (2, iv p2), (3, iv p3), (4, fn 87), (10, .bool true), (11, .bool true)]) (TI.dn ?_)))))))
 refine NX.sq (TS.bk 0 ?_)
 obtain ⟨r733, h734, hF⟩ := of_do hF
 refine TS.lp (TL.weak (a2 := (st 148 [(0, anyV 0 p0.length), (1, iv p1), (2, iv p2), (3, iv p3), (4, fn 87), (10, .bool true), (11, .bool true)])) (h2 := [lb101 p0]) (Wk.an [] Ats.l [anyV 0 p0.length, iv p1, iv p2, iv p3, fn 87, .bool true, .bool true] (.cons rav (.fl (.fl (.fl (.cons (Rn.func' .nil .nil) (.fl (.fl .nil)))))))) (TL.post (L99l0 rec99 hrec99 p1 p2 p3 true true p0 r733 h734) ?_))
 rintro e a1 h1 hp
 obtain ⟨rfl, hw⟩ := hp
 refine ⟨(st 148 [(0, anyV 0 r733.length)]), [lb101 r733], (NX.bkR ?_), hw⟩
 have hF := sj hF
 subst hF
 exact ⟨.inr rfl, rfl, rfl, by kernel_rfl⟩
theorem C99 (d : Nat) : ∀ (p0 : List I2) (k : Nat) (hk : List.length p0 = k) (p1 : Int) (p2 : Int) (p3 : Int) (r : List I2), F99 d p0 p1 p2 p3 = some r → ImpSim Pg 99 [anyV 0 k, iv p1, iv p2, iv p3, fn 87] 0 [lb101 p0] (.tuple #[]) [lb101 r] := by
 induction d with
 | zero => intro p0 k hk p1 p2 p3 r hF; cases (show (none : Option (List I2)) = some r from hF)
 | succ d ih =>
  intro p0 k hk p1 p2 p3 r hF
  subst hk
  exact ImpSim.of_TS (fn := Try.f99) (c := c99) (by kernel_rfl) (by kernel_rfl) (by kernel_rfl) (Nat.le_refl _) (TS.weak (a2 := (st 148 [(0, anyV 0 p0.length), (1, iv p1), (2, iv p2), (3, iv p3), (4, fn 87)])) (h2 := [lb101 p0]) (Eq.mp (by kernel_rfl) (Wk.tm (P := Pg) (base := 0) (L := 1) (a := { tmps := [anyV 0 p0.length, iv p1, iv p2, iv p3, fn 87] ++ List.replicate 143 undef }) (h := [lb101 p0]) [0, 1, 2, 3, 4])) (B99 (F99 d) ih p0 p1 p2 p3 r hF))
end Go.Proofs.Ythpfffijnkmdgaa
