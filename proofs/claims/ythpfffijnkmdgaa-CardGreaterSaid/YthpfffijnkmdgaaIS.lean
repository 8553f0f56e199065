/- Sorting at most twelve elements. -/
import Derived.Test.YthpfffijnkmdgaaTsZ
import Derived.Test.YthpfffijnkmdgaaCB
import Derived.KernelRfl
set_option linter.unusedVariables false
set_option linter.unusedSimpArgs false
set_option maxRecDepth 100000
set_option maxHeartbeats 4000000
namespace Go.Proofs.Ythpfffijnkmdgaa
open Go Go.Cl
def anyV (b n : Nat) : Value := .slice (some ⟨b, 0, none⟩) n ANY
theorem Rn.anyV {f : Nat → Nat × Nat} {n i i' c c' : Nat} (hi : i < n) (hf : f i = (i', 0)) (hc : c = c') : Rn true f n (anyV i c) (anyV i' c') := by
 subst hc
 have := Rn.any (p := true) (f := f) (n := n) i 0 0 c ANY ANY hi (by rw [hf]) rfl (by decide)
 rw [hf] at this
 exact this
def SortFin (P : Program) (fn : Func) (h1 : List Blk) (v : Value) : Post := fun e a h => (e = .normal ∨ e = .ret) ∧ a.marks = [] ∧ h = h1 ∧ cResults P fn a h = some v
def e101 (x : (Int × Int)) : List Value := [.int .i64 x.1, .int .i64 x.2]
noncomputable def c110 : Code := Try.f110.code
def S110_0 (v138 : (List (Int × Int))) (p1 : Int) (p2 : Int) (v58 : Int) (v137 : Int) (o168 : (Int × Int)) (o171 : (Int × Int)) : CAct := (st 53 [(0, anyV 0 v138.length), (1, iv p1), (2, iv p2), (3, .func (.func 87) ⟨[]⟩ ⟨[]⟩), (8, iv v58), (9, iv v137), (34, .bool true), (37, anyV 0 v138.length), (38, iv v137), (39, anyV 0 v138.length), (40, iv v137), (41, iv (w64 (v137 - 1))), (42, anyV 0 v138.length), (43, iv v137), (44, iv (w64 (v137 - 1))), (45, .pointer (some ⟨0, 0 + (Int.toNat (w64 (v137 - 1))) * 2, none⟩)), (46, ag [iv o168.1, iv o168.2]), (47, anyV 0 v138.length), (48, iv v137), (49, .pointer (some ⟨0, 0 + (Int.toNat v137) * 2, none⟩)), (50, ag [iv o171.1, iv o171.2]), (51, .pointer (some ⟨0, 0 + (Int.toNat v137) * 2, none⟩)), (52, .pointer (some ⟨0, 0 + (Int.toNat (w64 (v137 - 1))) * 2, none⟩))])
def S110_1 (v138 : (List (Int × Int))) (p1 : Int) (p2 : Int) (v58 : Int) (v137 : Int) (o168 : (Int × Int)) (o171 : (Int × Int)) : CAct := (st 53 [(0, anyV 0 v138.length), (1, iv p1), (2, iv p2), (3, .func (.func 87) ⟨[]⟩ ⟨[]⟩), (8, iv v58), (9, iv v137), (34, .bool true), (37, anyV 0 v138.length), (38, iv v137), (39, anyV 0 v138.length), (40, iv v137), (41, iv (w64 (v137 - 1))), (42, anyV 0 v138.length), (43, iv v137), (44, iv (w64 (v137 - 1))), (45, .pointer (some ⟨0, 0 + (Int.toNat (w64 (v137 - 1))) * 2, none⟩)), (46, ag [iv o168.1, iv o168.2]), (47, anyV 0 v138.length), (48, iv v137), (49, .pointer (some ⟨0, 0 + (Int.toNat v137) * 2, none⟩)), (50, ag [iv o171.1, iv o171.2]), (51, .pointer (some ⟨0, 0 + (Int.toNat v137) * 2, none⟩))])
def S110_2 (v138 : (List (Int × Int))) (p1 : Int) (p2 : Int) (v58 : Int) (v137 : Int) (o168 : (Int × Int)) (o171 : (Int × Int)) : CAct := (st 53 [(0, anyV 0 v138.length), (1, iv p1), (2, iv p2), (3, .func (.func 87) ⟨[]⟩ ⟨[]⟩), (8, iv v58), (9, iv v137), (34, .bool true), (37, anyV 0 v138.length), (38, iv v137), (39, anyV 0 v138.length), (40, iv v137), (41, iv (w64 (v137 - 1))), (42, anyV 0 v138.length), (43, iv v137), (44, iv (w64 (v137 - 1))), (45, .pointer (some ⟨0, 0 + (Int.toNat (w64 (v137 - 1))) * 2, none⟩)), (46, ag [iv o168.1, iv o168.2]), (47, anyV 0 v138.length), (48, iv v137), (49, .pointer (some ⟨0, 0 + (Int.toNat v137) * 2, none⟩)), (50, ag [iv o171.1, iv o171.2])])
def S110_3 (v138 : (List (Int × Int))) (p1 : Int) (p2 : Int) (v58 : Int) (v137 : Int) (o168 : (Int × Int)) : CAct := (st 53 [(0, anyV 0 v138.length), (1, iv p1), (2, iv p2), (3, .func (.func 87) ⟨[]⟩ ⟨[]⟩), (8, iv v58), (9, iv v137), (34, .bool true), (37, anyV 0 v138.length), (38, iv v137), (39, anyV 0 v138.length), (40, iv v137), (41, iv (w64 (v137 - 1))), (42, anyV 0 v138.length), (43, iv v137), (44, iv (w64 (v137 - 1))), (45, .pointer (some ⟨0, 0 + (Int.toNat (w64 (v137 - 1))) * 2, none⟩)), (46, ag [iv o168.1, iv o168.2]), (47, anyV 0 v138.length), (48, iv v137), (49, .pointer (some ⟨0, 0 + (Int.toNat v137) * 2, none⟩))])
def S110_4 (v138 : (List (Int × Int))) (p1 : Int) (p2 : Int) (v58 : Int) (v137 : Int) (o168 : (Int × Int)) : CAct := (st 53 [(0, anyV 0 v138.length), (1, iv p1), (2, iv p2), (3, .func (.func 87) ⟨[]⟩ ⟨[]⟩), (8, iv v58), (9, iv v137), (34, .bool true), (37, anyV 0 v138.length), (38, iv v137), (39, anyV 0 v138.length), (40, iv v137), (41, iv (w64 (v137 - 1))), (42, anyV 0 v138.length), (43, iv v137), (44, iv (w64 (v137 - 1))), (45, .pointer (some ⟨0, 0 + (Int.toNat (w64 (v137 - 1))) * 2, none⟩)), (46, ag [iv o168.1, iv o168.2]), (47, anyV 0 v138.length), (48, iv v137)])
def S110_5 (v138 : (List (Int × Int))) (p1 : Int) (p2 : Int) (v58 : Int) (v137 : Int) (o168 : (Int × Int)) : CAct := (st 53 [(0, anyV 0 v138.length), (1, iv p1), (2, iv p2), (3, .func (.func 87) ⟨[]⟩ ⟨[]⟩), (8, iv v58), (9, iv v137), (34, .bool true), (37, anyV 0 v138.length), (38, iv v137), (39, anyV 0 v138.length), (40, iv v137), (41, iv (w64 (v137 - 1))), (42, anyV 0 v138.length), (43, iv v137), (44, iv (w64 (v137 - 1))), (45, .pointer (some ⟨0, 0 + (Int.toNat (w64 (v137 - 1))) * 2, none⟩)), (46, ag [iv o168.1, iv o168.2])])
def S110_6 (v138 : (List (Int × Int))) (p1 : Int) (p2 : Int) (v58 : Int) (v137 : Int) : CAct := (st 53 [(0, anyV 0 v138.length), (1, iv p1), (2, iv p2), (3, .func (.func 87) ⟨[]⟩ ⟨[]⟩), (8, iv v58), (9, iv v137), (34, .bool true), (37, anyV 0 v138.length), (38, iv v137), (39, anyV 0 v138.length), (40, iv v137), (41, iv (w64 (v137 - 1))), (42, anyV 0 v138.length), (43, iv v137), (44, iv (w64 (v137 - 1))), (45, .pointer (some ⟨0, 0 + (Int.toNat (w64 (v137 - 1))) * 2, none⟩))])
def S110_7 (v138 : (List (Int × Int))) (p1 : Int) (p2 : Int) (v58 : Int) (v137 : Int) : CAct := (st 53 [(0, anyV 0 v138.length), (1, iv p1), (2, iv p2), (3, .func (.func 87) ⟨[]⟩ ⟨[]⟩), (8, iv v58), (9, iv v137), (34, .bool true), (37, anyV 0 v138.length), (38, iv v137), (39, anyV 0 v138.length), (40, iv v137), (41, iv (w64 (v137 - 1))), (42, anyV 0 v138.length), (43, iv v137), (44, iv (w64 (v137 - 1)))])
def H110_8 (v138 : (List (Int × Int))) (v137 : Int) (o168 : (Int × Int)) (o171 : (Int × Int)) : List Blk := [.cells 101 (List.flatMap e101 (List.set (List.set v138 (Int.toNat v137) (o168.1, o168.2)) (Int.toNat (w64 (v137 - 1))) (o171.1, o171.2)))]
def H110_9 (v138 : (List (Int × Int))) (v137 : Int) (o168 : (Int × Int)) : List Blk := [.cells 101 (List.flatMap e101 (List.set v138 (Int.toNat v137) (o168.1, o168.2)))]
def F110l1 (p1 : Int) (p2 : Int) (v58 : Int) (v137 : Int) (v138 : (List (Int × Int))) : Option (List (Int × Int)) :=
 (
  if decide (v137 > p1) then
   if (0 : Int) ≤ v137 ∧ v137 < (v138.length : Int) then
    some (List.getD v138 (Int.toNat v137) (0, 0)) >>= fun o159 =>
    if (0 : Int) ≤ w64 (v137 - 1) ∧ w64 (v137 - 1) < (v138.length : Int) then
     some (List.getD v138 (Int.toNat (w64 (v137 - 1))) (0, 0)) >>= fun o162 =>
     F87 o159.1 o159.2 o162.1 o162.2 >>= fun r164 =>
     some (decide (r164 < 0))
    else none
   else none
  else
   some (false)
 : Option Bool) >>= fun m166 =>
 if m166 then
  if (0 : Int) ≤ w64 (v137 - 1) ∧ w64 (v137 - 1) < (v138.length : Int) then
   some (List.getD v138 (Int.toNat (w64 (v137 - 1))) (0, 0)) >>= fun o168 =>
   if (0 : Int) ≤ v137 ∧ v137 < (v138.length : Int) then
    some (List.getD v138 (Int.toNat v137) (0, 0)) >>= fun o171 =>
    F110l1 p1 p2 v58 (w64 (v137 - 1)) (List.set (List.set v138 (Int.toNat v137) (o168.1, o168.2)) (Int.toNat (w64 (v137 - 1))) (o171.1, o171.2))
   else none
  else none
 else
  some v138
 partial_fixpoint
def F110l0 (p1 : Int) (p2 : Int) (v58 : Int) (v59 : (List (Int × Int))) : Option (List (Int × Int)) :=
 if decide (v58 < p2) then
  F110l1 p1 p2 v58 v58 v59 >>= fun r174 =>
  F110l0 p1 p2 (w64 (v58 + 1)) r174
 else
  some v59
 partial_fixpoint
def F110 (p0 : List (Int × Int)) (p1 p2 : Int) : Option (List (Int × Int)) :=
 F110l0 p1 p2 (w64 (p1 + 1)) p0 >>= fun r176 =>
 some r176
def P110l1 (p1 : Int) (p2 : Int) (v58 : Int) (r : (List (Int × Int))) : Post := fun e a h => e = .exit 2 ∧ Wk Try.prog 0 1 a h (st 53 [(0, anyV 0 r.length), (1, iv p1), (2, iv p2), (3, .func (.func 87) ⟨[]⟩ ⟨[]⟩), (8, iv v58)]) [.cells 101 (List.flatMap e101 r)]
theorem L110l1 (p1 : Int) (p2 : Int) (v58 : Int) (v137 : Int) (v138 : (List (Int × Int))) (r : (List (Int × Int))) (hF : F110l1 p1 p2 v58 v137 v138 = some r) : TL Try.prog 0 1 c110.s2.bd.bd.s2.s1.bd.s2.bd.bd (st 53 [(0, anyV 0 v138.length), (1, iv p1), (2, iv p2), (3, .func (.func 87) ⟨[]⟩ ⟨[]⟩), (8, iv v58), (9, iv v137)]) [.cells 101 (List.flatMap e101 v138)] (P110l1 p1 p2 v58 r) := by
 refine F110l1.partial_correctness p1 p2 v58 (motive := fun v137 v138 r => TL Try.prog 0 1 c110.s2.bd.bd.s2.s1.bd.s2.bd.bd (st 53 [(0, anyV 0 v138.length), (1, iv p1), (2, iv p2), (3, .func (.func 87) ⟨[]⟩ ⟨[]⟩), (8, iv v58), (9, iv v137)]) [.cells 101 (List.flatMap e101 v138)] (P110l1 p1 p2 v58 r)) ?_ v137 v138 r hF
 clear hF r v137 v138
 intro again ih v137 v138 r hF
 refine TL.round ?_
 refine TS.seqP (by kernel_rfl) ?_
 refine TS.seqP (by kernel_rfl) ?_
 have hX := of_do hF
 clear hF
 obtain ⟨m166, hm173, hF⟩ := hX
 have hK : NX Try.prog 0 1 [.sq c110.s2.bd.bd.s2.s1.bd.s2.bd.bd.s1.s2, .sq c110.s2.bd.bd.s2.s1.bd.s2.bd.bd.s2] (Rd Try.prog 0 1 c110.s2.bd.bd.s2.s1.bd.s2.bd.bd (P110l1 p1 p2 v58 r)) .normal (st 53 [(0, anyV 0 v138.length), (1, iv p1), (2, iv p2), (3, .func (.func 87) ⟨[]⟩ ⟨[]⟩), (8, iv v58), (9, iv v137), (34, .bool m166)]) [.cells 101 (List.flatMap e101 v138)] := by
  refine NX.sq ?_
  cases m166 with
  | true =>
   replace hF := of_pos hF rfl
   refine TS.condTP (o := (.tmp 34)) (by kernel_rfl) (by kernel_rfl) ?_
   refine TS.skip' (by kernel_rfl) ?_
   refine NX.sq ?_
   refine TS.seqP (by kernel_rfl) ?_
   refine TS.blockP (id := 3) (by kernel_rfl) ?_
   have hX := of_guard hF
   clear hF
   obtain ⟨hg167, hF⟩ := hX
   have hX := of_do hF
   clear hF
   obtain ⟨o168, h169, hF⟩ := hX
   replace h169 := Option.some.inj h169
   have hX := of_guard hF
   clear hF
   obtain ⟨hg170, hF⟩ := hX
   have hX := of_do hF
   clear hF
   obtain ⟨o171, h172, hF⟩ := hX
   replace h172 := Option.some.inj h172
   refine TS.drawE (id := 6) (b := true) (ops := c110.s2.bd.bd.s2.s1.bd.s2.bd.bd.s2.s1.bd.rops) (fin := (qs (S110_1 v138 p1 p2 v58 v137 o168 o171) (H110_9 v138 v137 o168) [] [(15, 0)])) (fin2 := (qs (S110_1 v138 p1 p2 v58 v137 o168 o171) (H110_9 v138 v137 o168) [] [(15, 0)])) (a1 := (S110_0 v138 p1 p2 v58 v137 o168 o171)) (h1 := (H110_8 v138 v137 o168 o171)) [] (fun e he => by cases he) mixed (by kernel_rfl) rfl 16 (by kernel_rfl) [(15, 0)] ?_ rfl (.inr ⟨?_, (by kernel_rfl)⟩) ?_ ?_
   · refine QI.run (s1 := (qs (S110_7 v138 p1 p2 v58 v137) [.cells 101 (List.flatMap e101 v138)] [] [])) 8 (by kernel_rfl) (by kernel_rfl) ?_
     refine QI.op (q := { val := .pointer (some ⟨0, 0 + (Int.toNat (w64 (v137 - 1))) * 2, none⟩) }) (s1 := (qs (S110_6 v138 p1 p2 v58 v137) [.cells 101 (List.flatMap e101 v138)] [] [])) (by decide) (q_ixS 0 0 ((Int.toNat (w64 (v137 - 1))) * 2) (by kernel_rfl) hg167) (by kernel_rfl) ?_
     refine QI.op (q := { val := ag [iv o168.1, iv o168.2] }) (s1 := (qs (S110_5 v138 p1 p2 v58 v137 o168) [.cells 101 (List.flatMap e101 v138)] [] [])) (by decide) (q_nA Try.prog [.cells 101 (List.flatMap e101 v138)] 101 0 (0 + (Int.toNat (w64 (v137 - 1))) * 2) v138 e101 2 101 (Int.toNat (w64 (v137 - 1))) (0, 0) h169) (by kernel_rfl) ?_
     refine QI.run (s1 := (qs (S110_4 v138 p1 p2 v58 v137 o168) [.cells 101 (List.flatMap e101 v138)] [] [])) 2 (by kernel_rfl) (by kernel_rfl) ?_
     refine QI.op (q := { val := .pointer (some ⟨0, 0 + (Int.toNat v137) * 2, none⟩) }) (s1 := (qs (S110_3 v138 p1 p2 v58 v137 o168) [.cells 101 (List.flatMap e101 v138)] [] [])) (by decide) (q_ixS 0 0 ((Int.toNat v137) * 2) (by kernel_rfl) hg170) (by kernel_rfl) ?_
     refine QI.op (q := { val := ag [iv o171.1, iv o171.2] }) (s1 := (qs (S110_2 v138 p1 p2 v58 v137 o168 o171) [.cells 101 (List.flatMap e101 v138)] [] [])) (by decide) (q_nA Try.prog [.cells 101 (List.flatMap e101 v138)] 101 0 (0 + (Int.toNat v137) * 2) v138 e101 2 101 (Int.toNat v137) (0, 0) h172) (by kernel_rfl) ?_
     refine QI.op (q := { val := .pointer (some ⟨0, 0 + (Int.toNat v137) * 2, none⟩) }) (s1 := (qs (S110_1 v138 p1 p2 v58 v137 o168 o171) [.cells 101 (List.flatMap e101 v138)] [] [])) (by decide) (q_ixS 0 0 ((Int.toNat v137) * 2) (by kernel_rfl) hg170) (by kernel_rfl) ?_
     refine QI.op (q := { val := undef, upd := some (0, .cells 101 (List.flatMap e101 (List.set v138 (Int.toNat v137) (o168.1, o168.2)))) }) (s1 := (qs (S110_1 v138 p1 p2 v58 v137 o168 o171) (H110_9 v138 v137 o168) [] [(15, 0)])) (by decide) (q_stP Try.prog 0 [.cells 101 (List.flatMap e101 v138)] 101 0 (0 + (Int.toNat v137) * 2) v138 e101 2 101 (Int.toNat v137) 0 2 (ag [iv o168.1, iv o168.2]) [iv o168.1, iv o168.2] (0, 0) (o168.1, o168.2) (by first | omega | (simp <;> omega))) (by kernel_rfl) ?_
     exact QI.done (by kernel_rfl)
   · refine QI.run (s1 := (qs (S110_7 v138 p1 p2 v58 v137) [.cells 101 (List.flatMap e101 v138)] [] [])) 8 (by kernel_rfl) (by kernel_rfl) ?_
     refine QI.op (q := { val := .pointer (some ⟨0, 0 + (Int.toNat (w64 (v137 - 1))) * 2, none⟩) }) (s1 := (qs (S110_6 v138 p1 p2 v58 v137) [.cells 101 (List.flatMap e101 v138)] [] [])) (by decide) (q_ixS 0 0 ((Int.toNat (w64 (v137 - 1))) * 2) (by kernel_rfl) hg167) (by kernel_rfl) ?_
     refine QI.op (q := { val := ag [iv o168.1, iv o168.2] }) (s1 := (qs (S110_5 v138 p1 p2 v58 v137 o168) [.cells 101 (List.flatMap e101 v138)] [] [])) (by decide) (q_nA Try.prog [.cells 101 (List.flatMap e101 v138)] 101 0 (0 + (Int.toNat (w64 (v137 - 1))) * 2) v138 e101 2 101 (Int.toNat (w64 (v137 - 1))) (0, 0) h169) (by kernel_rfl) ?_
     refine QI.run (s1 := (qs (S110_4 v138 p1 p2 v58 v137 o168) [.cells 101 (List.flatMap e101 v138)] [] [])) 2 (by kernel_rfl) (by kernel_rfl) ?_
     refine QI.op (q := { val := .pointer (some ⟨0, 0 + (Int.toNat v137) * 2, none⟩) }) (s1 := (qs (S110_3 v138 p1 p2 v58 v137 o168) [.cells 101 (List.flatMap e101 v138)] [] [])) (by decide) (q_ixS 0 0 ((Int.toNat v137) * 2) (by kernel_rfl) hg170) (by kernel_rfl) ?_
     refine QI.op (q := { val := ag [iv o171.1, iv o171.2] }) (s1 := (qs (S110_2 v138 p1 p2 v58 v137 o168 o171) [.cells 101 (List.flatMap e101 v138)] [] [])) (by decide) (q_nA Try.prog [.cells 101 (List.flatMap e101 v138)] 101 0 (0 + (Int.toNat v137) * 2) v138 e101 2 101 (Int.toNat v137) (0, 0) h172) (by kernel_rfl) ?_
     refine QI.op (q := { val := .pointer (some ⟨0, 0 + (Int.toNat v137) * 2, none⟩) }) (s1 := (qs (S110_1 v138 p1 p2 v58 v137 o168 o171) [.cells 101 (List.flatMap e101 v138)] [] [])) (by decide) (q_ixS 0 0 ((Int.toNat v137) * 2) (by kernel_rfl) hg170) (by kernel_rfl) ?_
     refine QI.op (q := { val := undef, upd := some (0, .cells 101 (List.flatMap e101 (List.set v138 (Int.toNat v137) (o168.1, o168.2)))) }) (s1 := (qs (S110_1 v138 p1 p2 v58 v137 o168 o171) (H110_9 v138 v137 o168) [] [(15, 0)])) (by decide) (q_stP Try.prog 0 [.cells 101 (List.flatMap e101 v138)] 101 0 (0 + (Int.toNat v137) * 2) v138 e101 2 101 (Int.toNat v137) 0 2 (ag [iv o168.1, iv o168.2]) [iv o168.1, iv o168.2] (0, 0) (o168.1, o168.2) (by first | omega | (simp <;> omega))) (by kernel_rfl) ?_
     exact QI.done (by kernel_rfl)
   · refine SI.op (q := { val := .pointer (some ⟨0, 0 + (Int.toNat (w64 (v137 - 1))) * 2, none⟩) }) (a2 := (S110_0 v138 p1 p2 v58 v137 o168 o171)) (h2 := (H110_9 v138 v137 o168)) (by kernel_rfl) (q_ixS 0 0 ((Int.toNat (w64 (v137 - 1))) * 2) (by kernel_rfl) hg167) (by kernel_rfl) (by kernel_rfl) ?_
     refine SI.op (q := { val := undef, upd := some (0, .cells 101 (List.flatMap e101 (List.set (List.set v138 (Int.toNat v137) (o168.1, o168.2)) (Int.toNat (w64 (v137 - 1))) (o171.1, o171.2)))) }) (a2 := (S110_0 v138 p1 p2 v58 v137 o168 o171)) (h2 := (H110_8 v138 v137 o168 o171)) (by kernel_rfl) (q_stP Try.prog 0 (H110_9 v138 v137 o168) 101 0 (0 + (Int.toNat (w64 (v137 - 1))) * 2) (List.set v138 (Int.toNat v137) (o168.1, o168.2)) e101 2 101 (Int.toNat (w64 (v137 - 1))) 0 2 (ag [iv o171.1, iv o171.2]) [iv o171.1, iv o171.2] (0, 0) (o171.1, o171.2) (by first | omega | (simp <;> omega))) (by kernel_rfl) (by kernel_rfl) ?_
     exact SI.done (by kernel_rfl)
   refine NX.bk ?_
   refine NX.sq ?_
   refine TS.regionP (by kernel_rfl) ?_
   refine TI.runA 3 [0, 1, 2, 3, 8, 9] (a2 := (st 53 [(0, anyV 0 v138.length), (1, iv p1), (2, iv p2), (3, .func (.func 87) ⟨[]⟩ ⟨[]⟩), (8, iv v58), (9, iv (w64 (v137 - 1)))])) (by kernel_rfl) ?_
   refine TI.done (by kernel_rfl) ?_
   exact Rd.again (a2 := (st 53 [(0, anyV 0 (List.length (List.set (List.set v138 (Int.toNat v137) (o168.1, o168.2)) (Int.toNat (w64 (v137 - 1))) (o171.1, o171.2)))), (1, iv p1), (2, iv p2), (3, .func (.func 87) ⟨[]⟩ ⟨[]⟩), (8, iv v58), (9, iv (w64 (v137 - 1)))])) (h2 := (H110_8 v138 v137 o168 o171)) (Wk.an [] (.cons (At.blk (by kernel_rfl) (RnB.list (fun _ => rfl))) (.nil _)) [anyV 0 v138.length, iv p1, iv p2, .func (.func 87) ⟨[]⟩ ⟨[]⟩, iv v58, iv (w64 (v137 - 1))] (.cons (Rn.anyV (Nat.le_of_ble_eq_true rfl) rfl (by simp only [List.length_set])) (.fl (.fl (.cons (Rn.func' .nil .nil) (.fl (.fl .nil))))))) (ih (w64 (v137 - 1)) (List.set (List.set v138 (Int.toNat v137) (o168.1, o168.2)) (Int.toNat (w64 (v137 - 1))) (o171.1, o171.2)) _ hF)
  | false =>
   replace hF := of_neg hF rfl
   refine TS.condFP (o := (.tmp 34)) (by kernel_rfl) (by kernel_rfl) ?_
   refine TS.exit' (id := 2) (by kernel_rfl) ?_
   refine NX.sqX ?_
   have hF := Option.some.inj hF
   subst hF
   exact Rd.out (e := .exit 2) (by intro h; cases h) (And.intro rfl (Wk.an [] (.cons (At.blk (by kernel_rfl) (RnB.list (fun _ => rfl))) (.nil _)) [anyV 0 v138.length, iv p1, iv p2, .func (.func 87) ⟨[]⟩ ⟨[]⟩, iv v58] (.cons (Rn.anyV (Nat.le_of_ble_eq_true rfl) rfl (by simp only [List.length_set])) (.fl (.fl (.cons (Rn.func' .nil .nil) (.fl .nil)))))))
 rcases Bool.eq_false_or_eq_true (decide (v137 > p1)) with hc157 | hc157
 · replace hm173 := of_pos hm173 hc157
   have hX := of_guard hm173
   clear hm173
   obtain ⟨hg158, hm173⟩ := hX
   have hX := of_do hm173
   clear hm173
   obtain ⟨o159, h160, hm173⟩ := hX
   replace h160 := Option.some.inj h160
   have hX := of_guard hm173
   clear hm173
   obtain ⟨hg161, hm173⟩ := hX
   have hX := of_do hm173
   clear hm173
   obtain ⟨o162, h163, hm173⟩ := hX
   replace h163 := Option.some.inj h163
   have hX := of_do hm173
   clear hm173
   obtain ⟨r164, h165, hm173⟩ := hX
   have hm173 := Option.some.inj hm173
   subst hm173
   have hT : ∀ e ∈ ([⟨87, [ag [iv o159.1, iv o159.2], ag [iv o162.1, iv o162.2]], [.cells 101 (List.flatMap e101 v138)], iv r164, []⟩] : List Entry), PureSim Try.prog e.g e.args e.h e.v e.new := by
    intro e he
    simp only [List.mem_cons, List.not_mem_nil, or_false] at he
    rcases he with rfl
    exact PureSim.anyK (C87 _ _ _ _ _ h165) (by kernel_rfl)
   refine TS.drawP [⟨87, [ag [iv o159.1, iv o159.2], ag [iv o162.1, iv o162.2]], [.cells 101 (List.flatMap e101 v138)], iv r164, []⟩] hT mixed (by kernel_rfl) 14 (by kernel_rfl) [0, 1, 2, 3, 8, 9, 34] [0] (a2 := (st 53 [(0, anyV 0 v138.length), (1, iv p1), (2, iv p2), (3, .func (.func 87) ⟨[]⟩ ⟨[]⟩), (8, iv v58), (9, iv v137), (34, .bool (decide (r164 < 0)))])) (h2 := [.cells 101 (List.flatMap e101 v138)]) ?_ ?_
   · refine QJ.run (s1 := (qs (st 53 [(0, anyV 0 v138.length), (1, iv p1), (2, iv p2), (3, .func (.func 87) ⟨[]⟩ ⟨[]⟩), (8, iv v58), (9, iv v137), (18, iv v137), (19, iv p1)]) [.cells 101 (List.flatMap e101 v138)] [] [])) 2 (by kernel_rfl) (by kernel_rfl) ?_
     refine QJ.op (q := { val := .bool true }) (by decide) (q_conv (e := decide (v137 > p1)) (b := true) (by kernel_rfl) hc157) ?_
     refine QJ.run (s1 := (qs (st 53 [(0, anyV 0 v138.length), (1, iv p1), (2, iv p2), (3, .func (.func 87) ⟨[]⟩ ⟨[]⟩), (8, iv v58), (9, iv v137), (18, iv v137), (19, iv p1), (20, .bool true), (21, .bool true), (22, .func (.func 87) ⟨[]⟩ ⟨[]⟩), (23, anyV 0 v138.length), (24, iv v137)]) [.cells 101 (List.flatMap e101 v138)] [] [])) 4 (by kernel_rfl) (by kernel_rfl) ?_
     refine QJ.op (q := { val := .pointer (some ⟨0, 0 + (Int.toNat v137) * 2, none⟩) }) (by decide) (q_ixS 0 0 ((Int.toNat v137) * 2) (by kernel_rfl) hg158) ?_
     refine QJ.op (q := { val := ag [iv o159.1, iv o159.2] }) (by decide) (q_nA Try.prog [.cells 101 (List.flatMap e101 v138)] 101 0 (0 + (Int.toNat v137) * 2) v138 e101 2 101 (Int.toNat v137) (0, 0) h160) ?_
     refine QJ.run (s1 := (qs (st 53 [(0, anyV 0 v138.length), (1, iv p1), (2, iv p2), (3, .func (.func 87) ⟨[]⟩ ⟨[]⟩), (8, iv v58), (9, iv v137), (18, iv v137), (19, iv p1), (20, .bool true), (21, .bool true), (22, .func (.func 87) ⟨[]⟩ ⟨[]⟩), (23, anyV 0 v138.length), (24, iv v137), (25, .pointer (some ⟨0, 0 + (Int.toNat v137) * 2, none⟩)), (26, ag [iv o159.1, iv o159.2]), (27, anyV 0 v138.length), (28, iv v137), (29, iv (w64 (v137 - 1)))]) [.cells 101 (List.flatMap e101 v138)] [] [])) 3 (by kernel_rfl) (by kernel_rfl) ?_
     refine QJ.op (q := { val := .pointer (some ⟨0, 0 + (Int.toNat (w64 (v137 - 1))) * 2, none⟩) }) (by decide) (q_ixS 0 0 ((Int.toNat (w64 (v137 - 1))) * 2) (by kernel_rfl) hg161) ?_
     refine QJ.op (q := { val := ag [iv o162.1, iv o162.2] }) (by decide) (q_nA Try.prog [.cells 101 (List.flatMap e101 v138)] 101 0 (0 + (Int.toNat (w64 (v137 - 1))) * 2) v138 e101 2 101 (Int.toNat (w64 (v137 - 1))) (0, 0) h163) ?_
     refine QJ.done (by kernel_rfl) ⟨rfl, ?_⟩
     refine SJ.op (q := { val := iv r164, new := [] }) (by kernel_rfl) (qOf_call (g := 87) (args := [ag [iv o159.1, iv o159.2], ag [iv o162.1, iv o162.2]]) (by kernel_rfl) lookC_hit) ?_
     refine SJ.last (by kernel_rfl)
   exact hK
 replace hm173 := of_neg hm173 hc157
 have hm173 := Option.some.inj hm173
 subst hm173
 refine TS.drawP [] (fun e he => by cases he) mixed (by kernel_rfl) 14 (by kernel_rfl) [0, 1, 2, 3, 8, 9, 34] [0] (a2 := (st 53 [(0, anyV 0 v138.length), (1, iv p1), (2, iv p2), (3, .func (.func 87) ⟨[]⟩ ⟨[]⟩), (8, iv v58), (9, iv v137), (34, .bool false)])) (h2 := [.cells 101 (List.flatMap e101 v138)]) ?_ ?_
 · refine QJ.run (s1 := (qs (st 53 [(0, anyV 0 v138.length), (1, iv p1), (2, iv p2), (3, .func (.func 87) ⟨[]⟩ ⟨[]⟩), (8, iv v58), (9, iv v137), (18, iv v137), (19, iv p1)]) [.cells 101 (List.flatMap e101 v138)] [] [])) 2 (by kernel_rfl) (by kernel_rfl) ?_
   refine QJ.op (q := { val := .bool false }) (by decide) (q_conv (e := decide (v137 > p1)) (b := false) (by kernel_rfl) hc157) ?_
   refine QJ.run (s1 := (qs (st 53 [(0, anyV 0 v138.length), (1, iv p1), (2, iv p2), (3, .func (.func 87) ⟨[]⟩ ⟨[]⟩), (8, iv v58), (9, iv v137), (18, iv v137), (19, iv p1), (20, .bool false), (21, .bool false), (22, undef), (23, undef), (24, undef), (25, undef), (26, undef), (27, undef), (28, undef), (29, undef), (30, undef), (31, undef)]) [.cells 101 (List.flatMap e101 v138)] [] [])) 11 (by kernel_rfl) (by kernel_rfl) ?_
   refine QJ.done (by kernel_rfl) ⟨rfl, ?_⟩
   refine SJ.last (by kernel_rfl)
 exact hK
def P110l0 (p1 : Int) (p2 : Int) (r : (List (Int × Int))) : Post := fun e a h => e = .exit 0 ∧ Wk Try.prog 0 1 a h (st 53 [(0, anyV 0 r.length)]) [.cells 101 (List.flatMap e101 r)]
theorem L110l0 (p1 : Int) (p2 : Int) (v58 : Int) (v59 : (List (Int × Int))) (r : (List (Int × Int))) (hF : F110l0 p1 p2 v58 v59 = some r) : TL Try.prog 0 1 c110.s2.bd.bd (st 53 [(0, anyV 0 v59.length), (1, iv p1), (2, iv p2), (3, .func (.func 87) ⟨[]⟩ ⟨[]⟩), (8, iv v58)]) [.cells 101 (List.flatMap e101 v59)] (P110l0 p1 p2 r) := by
 refine F110l0.partial_correctness p1 p2 (motive := fun v58 v59 r => TL Try.prog 0 1 c110.s2.bd.bd (st 53 [(0, anyV 0 v59.length), (1, iv p1), (2, iv p2), (3, .func (.func 87) ⟨[]⟩ ⟨[]⟩), (8, iv v58)]) [.cells 101 (List.flatMap e101 v59)] (P110l0 p1 p2 r)) ?_ v58 v59 r hF
 clear hF r v58 v59
 intro again ih v58 v59 r hF
 refine TL.round ?_
 refine TS.seqP (by kernel_rfl) ?_
 refine TS.seqP (by kernel_rfl) ?_
 refine TS.regionP (by kernel_rfl) ?_
 refine TI.runA 3 [0, 1, 2, 3, 8, 14] (a2 := (st 53 [(0, anyV 0 v59.length), (1, iv p1), (2, iv p2), (3, .func (.func 87) ⟨[]⟩ ⟨[]⟩), (8, iv v58), (14, .bool (decide (v58 < p2)))])) (by kernel_rfl) ?_
 refine TI.done (by kernel_rfl) ?_
 refine NX.sq ?_
 refine TS.condP (o := (.tmp 14)) (b := decide (v58 < p2)) (by kernel_rfl) (by kernel_rfl) (fun hc119 => ?_) (fun hc119 => ?_)
 · replace hF := of_pos hF hc119
   refine TS.skip' (by kernel_rfl) ?_
   refine NX.sq ?_
   refine TS.seqP (by kernel_rfl) ?_
   refine TS.blockP (id := 1) (by kernel_rfl) ?_
   refine TS.seqP (by kernel_rfl) ?_
   refine TS.regionP (by kernel_rfl) ?_
   refine TI.runA 2 [0, 1, 2, 3, 8, 9] (a2 := (st 53 [(0, anyV 0 v59.length), (1, iv p1), (2, iv p2), (3, .func (.func 87) ⟨[]⟩ ⟨[]⟩), (8, iv v58), (9, iv v58)])) (by kernel_rfl) ?_
   refine TI.done (by kernel_rfl) ?_
   refine NX.sq ?_
   refine TS.blockP (id := 2) (by kernel_rfl) ?_
   have hX := of_do hF
   clear hF
   obtain ⟨r174, h175, hF⟩ := hX
   refine TS.loopP (by kernel_rfl) (TL.weak (a2 := (st 53 [(0, anyV 0 v59.length), (1, iv p1), (2, iv p2), (3, .func (.func 87) ⟨[]⟩ ⟨[]⟩), (8, iv v58), (9, iv v58)])) (h2 := [.cells 101 (List.flatMap e101 v59)]) (Wk.an [] (.cons (At.blk (by kernel_rfl) (RnB.list (fun _ => rfl))) (.nil _)) [anyV 0 v59.length, iv p1, iv p2, .func (.func 87) ⟨[]⟩ ⟨[]⟩, iv v58, iv v58] (.cons (Rn.anyV (Nat.le_of_ble_eq_true rfl) rfl (by simp only [List.length_set])) (.fl (.fl (.cons (Rn.func' .nil .nil) (.fl (.fl .nil))))))) (TL.post (L110l1 p1 p2 v58 v58 v59 r174 h175) ?_))
   rintro e a1 h1 hp
   obtain ⟨rfl, hw⟩ := hp
   refine ⟨(st 53 [(0, anyV 0 r174.length), (1, iv p1), (2, iv p2), (3, .func (.func 87) ⟨[]⟩ ⟨[]⟩), (8, iv v58)]), [.cells 101 (List.flatMap e101 r174)], ?_, hw⟩
   refine NX.bkX ?_
   refine NX.bk ?_
   refine NX.sq ?_
   refine TS.regionP (by kernel_rfl) ?_
   refine TI.runA 3 [0, 1, 2, 3, 8] (a2 := (st 53 [(0, anyV 0 r174.length), (1, iv p1), (2, iv p2), (3, .func (.func 87) ⟨[]⟩ ⟨[]⟩), (8, iv (w64 (v58 + 1)))])) (by kernel_rfl) ?_
   refine TI.done (by kernel_rfl) ?_
   exact Rd.again (a2 := (st 53 [(0, anyV 0 r174.length), (1, iv p1), (2, iv p2), (3, .func (.func 87) ⟨[]⟩ ⟨[]⟩), (8, iv (w64 (v58 + 1)))])) (h2 := [.cells 101 (List.flatMap e101 r174)]) (Wk.an [] (.cons (At.blk (by kernel_rfl) (RnB.list (fun _ => rfl))) (.nil _)) [anyV 0 r174.length, iv p1, iv p2, .func (.func 87) ⟨[]⟩ ⟨[]⟩, iv (w64 (v58 + 1))] (.cons (Rn.anyV (Nat.le_of_ble_eq_true rfl) rfl (by simp only [List.length_set])) (.fl (.fl (.cons (Rn.func' .nil .nil) (.fl .nil)))))) (ih (w64 (v58 + 1)) r174 _ hF)
 replace hF := of_neg hF hc119
 refine TS.exit' (id := 0) (by kernel_rfl) ?_
 refine NX.sqX ?_
 have hF := Option.some.inj hF
 subst hF
 exact Rd.out (e := .exit 0) (by intro h; cases h) (And.intro rfl (Wk.an [] (.cons (At.blk (by kernel_rfl) (RnB.list (fun _ => rfl))) (.nil _)) [anyV 0 v59.length] (.cons (Rn.anyV (Nat.le_of_ble_eq_true rfl) rfl (by simp only [List.length_set])) .nil)))
theorem B110 (p0 : List (Int × Int)) (p1 p2 : Int) (r : List (Int × Int)) (hF : F110 p0 p1 p2 = some r) : TS Try.prog 0 1 c110 (st 53 [(0, anyV 0 p0.length), (1, iv p1), (2, iv p2), (3, .func (.func 87) ⟨[]⟩ ⟨[]⟩)]) [.cells 101 (List.flatMap e101 p0)] (NX Try.prog 0 1 [] (SortFin Try.prog Try.f110 [.cells 101 (List.flatMap e101 r)] (.tuple #[]))) := by
 unfold F110 at hF
 refine TS.seqP (by kernel_rfl) ?_
 refine TS.regionP (by kernel_rfl) ?_
 refine TI.runA 3 [0, 1, 2, 3, 8] (a2 := (st 53 [(0, anyV 0 p0.length), (1, iv p1), (2, iv p2), (3, .func (.func 87) ⟨[]⟩ ⟨[]⟩), (8, iv (w64 (p1 + 1)))])) (by kernel_rfl) ?_
 refine TI.done (by kernel_rfl) ?_
 refine NX.sq ?_
 refine TS.blockP (id := 0) (by kernel_rfl) ?_
 have hX := of_do hF
 clear hF
 obtain ⟨r176, h177, hF⟩ := hX
 refine TS.loopP (by kernel_rfl) (TL.weak (a2 := (st 53 [(0, anyV 0 p0.length), (1, iv p1), (2, iv p2), (3, .func (.func 87) ⟨[]⟩ ⟨[]⟩), (8, iv (w64 (p1 + 1)))])) (h2 := [.cells 101 (List.flatMap e101 p0)]) (Wk.an [] (.cons (At.blk (by kernel_rfl) (RnB.list (fun _ => rfl))) (.nil _)) [anyV 0 p0.length, iv p1, iv p2, .func (.func 87) ⟨[]⟩ ⟨[]⟩, iv (w64 (p1 + 1))] (.cons (Rn.anyV (Nat.le_of_ble_eq_true rfl) rfl (by simp only [List.length_set])) (.fl (.fl (.cons (Rn.func' .nil .nil) (.fl .nil)))))) (TL.post (L110l0 p1 p2 (w64 (p1 + 1)) p0 r176 h177) ?_))
 rintro e a1 h1 hp
 obtain ⟨rfl, hw⟩ := hp
 refine ⟨(st 53 [(0, anyV 0 r176.length)]), [.cells 101 (List.flatMap e101 r176)], ?_, hw⟩
 refine NX.bkX ?_
 have hF := Option.some.inj hF
 subst hF
 exact ⟨.inl rfl, rfl, rfl, by kernel_rfl⟩
theorem C110 (l : List (Int × Int)) (p1 p2 : Int) (r : List (Int × Int)) (hF : F110 l p1 p2 = some r) :
 ImpSim Try.prog 110 [anyV 0 (List.length l), .int .i64 p1, .int .i64 p2, .func (.func 87) ⟨[]⟩ ⟨[]⟩] 0 [.cells 101 (List.flatMap e101 l)] (.tuple #[]) [.cells 101 (List.flatMap e101 r)] := by
 refine ImpSim.of_TS (fn := Try.f110) (c := c110) (by kernel_rfl) (by kernel_rfl) (by kernel_rfl) (Nat.le_refl _) ?_
 exact TS.weak (a2 := st 53 [(0, anyV 0 (List.length l)), (1, .int .i64 p1), (2, .int .i64 p2), (3, .func (.func 87) ⟨[]⟩ ⟨[]⟩)]) (h2 := [.cells 101 (List.flatMap e101 l)])
  (Eq.mp (by kernel_rfl) (Wk.tm (P := Try.prog) (base := 0) (L := 1) (a := { tmps := [anyV 0 (List.length l), .int .i64 p1, .int .i64 p2, .func (.func 87) ⟨[]⟩ ⟨[]⟩] ++ List.replicate 49 undef }) (h := [.cells 101 (List.flatMap e101 l)]) [0, 1, 2, 3])) (B110 l p1 p2 r hF)
noncomputable def c99 : Code := Try.f99.code
theorem C99 (l : List (Int × Int)) (k : Nat) (hl : l.length = k) (hk : k ≤ 12) (x : Int) (r : List (Int × Int)) (hF : F110 l 0 k = some r) :
 ImpSim Try.prog 99 [anyV 0 k, .int .i64 0, .int .i64 k, .int .i64 x, .func (.func 87) ⟨[]⟩ ⟨[]⟩] 0 [.cells 101 (List.flatMap e101 l)] (.tuple #[]) [.cells 101 (List.flatMap e101 r)] := by
 have hIN := C110 l 0 k r hF
 rw [hl] at hIN
 generalize hb : Blk.cells 101 (List.flatMap e101 l) = b at hIN ⊢
 generalize hb' : Blk.cells 101 (List.flatMap e101 r) = b' at hIN ⊢
 generalize hV : anyV 0 k = V at hIN ⊢
 have hw : IntKind.wrap .i64 ((k : Int) - 0) = (k : Int) := by
  have := w64_in (x := (k : Int) - 0) (by omega) (by omega)
  rw [show w64 ((k : Int) - 0) = IntKind.wrap .i64 ((k : Int) - 0) from rfl] at this
  omega
 have hw' : IntKind.wrap .i64 (k : Int) = (k : Int) := by simpa using hw
 refine ImpSim.of_TS (fn := Try.f99) (c := c99) (by kernel_rfl) (by kernel_rfl) (by kernel_rfl) (Nat.le_refl _) ?_
 refine TS.weak (a2 := st 148 [(0, V), (1, .int .i64 0), (2, .int .i64 k), (4, .func (.func 87) ⟨[]⟩ ⟨[]⟩)]) (h2 := [b])
  (Eq.mp (by kernel_rfl) (Wk.tm (P := Try.prog) (base := 0) (L := 1) (a := { tmps := [V, .int .i64 0, .int .i64 k, .int .i64 x, .func (.func 87) ⟨[]⟩ ⟨[]⟩] ++ List.replicate 143 undef }) (h := [b]) [0, 1, 2, 4])) ?_
 refine TS.start ?_
 refine TS.seq' (x := c99.s1) (y := c99.s2) (by kernel_rfl) ?_
 refine TS.region' (id := 0) (b := false) (ops := c99.s1.rops) (by kernel_rfl) rfl ?_
 refine TI.val [0, 1, 2, 4] (v := .bool true) (a2 := st 148 [(0, V), (1, .int .i64 0), (2, .int .i64 k), (4, .func (.func 87) ⟨[]⟩ ⟨[]⟩)]) (by kernel_rfl) (by kernel_rfl) ?_
 refine TI.done (by kernel_rfl) ?_
 refine NX.sq ?_
 refine TS.seq' (x := c99.s2.s1) (y := c99.s2.s2) (by kernel_rfl) ?_
 refine TS.region' (id := 1) (b := false) (ops := c99.s2.s1.rops) (by kernel_rfl) rfl ?_
 refine TI.val [0, 1, 2, 4] (v := .bool true) (a2 := st 148 [(0, V), (1, .int .i64 0), (2, .int .i64 k), (4, .func (.func 87) ⟨[]⟩ ⟨[]⟩)]) (by kernel_rfl) (by kernel_rfl) ?_
 refine TI.done (by kernel_rfl) ?_
 refine NX.sq ?_
 refine TS.block' (id := 0) (x := c99.s2.s2.bd) (by kernel_rfl) ?_
 refine TS.loop' (x := c99.s2.s2.bd.bd) (by kernel_rfl) ?_
 refine TL.round ?_
 refine TS.block' (id := 1) (x := c99.s2.s2.bd.bd.bd) (by kernel_rfl) ?_
 refine TS.seq' (x := c99.s2.s2.bd.bd.bd.s1) (y := c99.s2.s2.bd.bd.bd.s2) (by kernel_rfl) ?_
 refine TS.region' (id := 2) (b := false) (ops := c99.s2.s2.bd.bd.bd.s1.rops) (by kernel_rfl) rfl ?_
 refine TI.val [0, 1, 2, 4, 21] (v := .int .i64 k) (a2 := st 148 [(0, V), (1, .int .i64 0), (2, .int .i64 k), (4, .func (.func 87) ⟨[]⟩ ⟨[]⟩), (21, .int .i64 k)]) (by kernel_rfl) (by kernel_rfl) ?_
 refine TI.val [0, 1, 2, 4, 21, 22] (v := .int .i64 0) (a2 := st 148 [(0, V), (1, .int .i64 0), (2, .int .i64 k), (4, .func (.func 87) ⟨[]⟩ ⟨[]⟩), (21, .int .i64 k), (22, .int .i64 0)]) (by kernel_rfl) (by kernel_rfl) ?_
 refine TI.val [0, 1, 2, 4, 23] (v := .int .i64 k) (a2 := st 148 [(0, V), (1, .int .i64 0), (2, .int .i64 k), (4, .func (.func 87) ⟨[]⟩ ⟨[]⟩), (23, .int .i64 k)]) (q_int (op := .sub) (ty := 3) (ox := .tmp 21) (oy := .tmp 22) (k := .i64) (k' := .i64) (y := k) (z := 0) (P := Try.prog) (by kernel_rfl) (by simp [intBin, hw'])) (by kernel_rfl) ?_
 refine TI.val [0, 1, 2, 4, 12] (v := .int .i64 k) (a2 := st 148 [(0, V), (1, .int .i64 0), (2, .int .i64 k), (4, .func (.func 87) ⟨[]⟩ ⟨[]⟩), (12, .int .i64 k)]) (by kernel_rfl) (by kernel_rfl) ?_
 refine TI.done (by kernel_rfl) ?_
 refine NX.sq ?_
 refine TS.seq' (x := c99.s2.s2.bd.bd.bd.s2.s1) (y := c99.s2.s2.bd.bd.bd.s2.s2) (by kernel_rfl) ?_
 refine TS.seq' (x := c99.s2.s2.bd.bd.bd.s2.s1.s1) (y := c99.s2.s2.bd.bd.bd.s2.s1.s2) (by kernel_rfl) ?_
 refine TS.region' (id := 3) (b := false) (ops := c99.s2.s2.bd.bd.bd.s2.s1.s1.rops) (by kernel_rfl) rfl ?_
 refine TI.val [0, 1, 2, 4, 24] (v := .int .i64 k) (a2 := st 148 [(0, V), (1, .int .i64 0), (2, .int .i64 k), (4, .func (.func 87) ⟨[]⟩ ⟨[]⟩), (24, .int .i64 k)]) (by kernel_rfl) (by kernel_rfl) ?_
 refine TI.val [0, 1, 2, 4, 25] (v := .bool true) (a2 := st 148 [(0, V), (1, .int .i64 0), (2, .int .i64 k), (4, .func (.func 87) ⟨[]⟩ ⟨[]⟩), (25, .bool true)]) (q_int (op := .leq) (ty := 3) (ox := .tmp 24) (oy := .const (.int .i64 12)) (k := .i64) (k' := .i64) (y := k) (z := 12) (P := Try.prog) (by kernel_rfl) (by simp [intBin]; omega)) (by kernel_rfl) ?_
 refine TI.done (by kernel_rfl) ?_
 refine NX.sq ?_
 refine TS.condT' (o := (.tmp 25)) (x := c99.s2.s2.bd.bd.bd.s2.s1.s2.th) (y := c99.s2.s2.bd.bd.bd.s2.s1.s2.el) (by kernel_rfl) (by kernel_rfl) ?_
 refine TS.seq' (x := c99.s2.s2.bd.bd.bd.s2.s1.s2.th.s1) (y := c99.s2.s2.bd.bd.bd.s2.s1.s2.th.s2) (by kernel_rfl) ?_
 refine TS.region' (id := 4) (b := false) (ops := c99.s2.s2.bd.bd.bd.s2.s1.s2.th.s1.rops) (by kernel_rfl) rfl ?_
 refine TI.val [1, 2, 4, 26] (v := V) (a2 := st 148 [(1, .int .i64 0), (2, .int .i64 k), (4, .func (.func 87) ⟨[]⟩ ⟨[]⟩), (26, V)]) (by kernel_rfl) (by kernel_rfl) ?_
 refine TI.val [2, 4, 26, 27] (v := .int .i64 0) (a2 := st 148 [(2, .int .i64 k), (4, .func (.func 87) ⟨[]⟩ ⟨[]⟩), (26, V), (27, .int .i64 0)]) (by kernel_rfl) (by kernel_rfl) ?_
 refine TI.val [4, 26, 27, 28] (v := .int .i64 k) (a2 := st 148 [(4, .func (.func 87) ⟨[]⟩ ⟨[]⟩), (26, V), (27, .int .i64 0), (28, .int .i64 k)]) (by kernel_rfl) (by kernel_rfl) ?_
 refine TI.val [26, 27, 28, 29] (v := .func (.func 87) ⟨[]⟩ ⟨[]⟩) (a2 := st 148 [(26, V), (27, .int .i64 0), (28, .int .i64 k), (29, .func (.func 87) ⟨[]⟩ ⟨[]⟩)]) (by kernel_rfl) (by kernel_rfl) ?_
 refine TI.icallT [] (a2 := st 148 []) (by kernel_rfl) hIN (by kernel_rfl) ?_
 refine TI.done (by kernel_rfl) ?_
 refine NX.sq ?_
 refine TS.ret' (by kernel_rfl) ?_
 refine NX.sqR ?_
 refine NX.bkR ?_
 refine Rd.out (by simp) ?_
 refine NX.bkR ?_
 exact ⟨.inr rfl, rfl, rfl, by kernel_rfl⟩
noncomputable def c92 : Code := Try.f92.code
noncomputable def env92 : Cl.Env := { P := Try.prog, sum := fun _ => none, imp := fun _ => false, strict := true }
theorem casesT92 {k : Nat} (hk : k ≤ 12) : k = 0 ∨ k = 1 ∨ k = 2 ∨ k = 3 ∨ k = 4 ∨ k = 5 ∨ k = 6 ∨ k = 7 ∨ k = 8 ∨ k = 9 ∨ k = 10 ∨ k = 11 ∨ k = 12 := by omega
theorem conv92 {k : Nat} (hk : k ≤ 12) : qConvert Try.prog 3 141 (.int .i64 k) = some { val := .int .u64 k } := by
 rcases casesT92 hk with rfl | rfl | rfl | rfl | rfl | rfl | rfl | rfl | rfl | rfl | rfl | rfl | rfl
 all_goals kernel_rfl
theorem lenb92 {k : Nat} (hk : k ≤ 12) : ∃ y, PureSim Try.prog 95 [.int .u64 k] [] (.int .i64 y) [] := by
 have ok : SumOk env92 := Cl.sumOk_none fun _ => rfl
 rcases casesT92 hk with rfl | rfl | rfl | rfl | rfl | rfl | rfl | rfl | rfl | rfl | rfl | rfl | rfl
 · exact ⟨0, answer ok mixed (by kernel_rfl : (run env92 3000).pcall 95 [.int .u64 (0 : Nat)] [] = some (.int .i64 0, []))⟩
 · exact ⟨1, answer ok mixed (by kernel_rfl : (run env92 3000).pcall 95 [.int .u64 (1 : Nat)] [] = some (.int .i64 1, []))⟩
 · exact ⟨2, answer ok mixed (by kernel_rfl : (run env92 3000).pcall 95 [.int .u64 (2 : Nat)] [] = some (.int .i64 2, []))⟩
 · exact ⟨2, answer ok mixed (by kernel_rfl : (run env92 3000).pcall 95 [.int .u64 (3 : Nat)] [] = some (.int .i64 2, []))⟩
 · exact ⟨3, answer ok mixed (by kernel_rfl : (run env92 3000).pcall 95 [.int .u64 (4 : Nat)] [] = some (.int .i64 3, []))⟩
 · exact ⟨3, answer ok mixed (by kernel_rfl : (run env92 3000).pcall 95 [.int .u64 (5 : Nat)] [] = some (.int .i64 3, []))⟩
 · exact ⟨3, answer ok mixed (by kernel_rfl : (run env92 3000).pcall 95 [.int .u64 (6 : Nat)] [] = some (.int .i64 3, []))⟩
 · exact ⟨3, answer ok mixed (by kernel_rfl : (run env92 3000).pcall 95 [.int .u64 (7 : Nat)] [] = some (.int .i64 3, []))⟩
 · exact ⟨4, answer ok mixed (by kernel_rfl : (run env92 3000).pcall 95 [.int .u64 (8 : Nat)] [] = some (.int .i64 4, []))⟩
 · exact ⟨4, answer ok mixed (by kernel_rfl : (run env92 3000).pcall 95 [.int .u64 (9 : Nat)] [] = some (.int .i64 4, []))⟩
 · exact ⟨4, answer ok mixed (by kernel_rfl : (run env92 3000).pcall 95 [.int .u64 (10 : Nat)] [] = some (.int .i64 4, []))⟩
 · exact ⟨4, answer ok mixed (by kernel_rfl : (run env92 3000).pcall 95 [.int .u64 (11 : Nat)] [] = some (.int .i64 4, []))⟩
 exact ⟨4, answer ok mixed (by kernel_rfl : (run env92 3000).pcall 95 [.int .u64 (12 : Nat)] [] = some (.int .i64 4, []))⟩
theorem C92 (l : List (Int × Int)) (k : Nat) (hl : l.length = k) (hk : k ≤ 12) (r : List (Int × Int)) (hF : F110 l 0 k = some r) :
 ImpSim Try.prog 92 [anyV 0 k, .func (.func 87) ⟨[]⟩ ⟨[]⟩] 0 [.cells 101 (List.flatMap e101 l)] (.tuple #[]) [.cells 101 (List.flatMap e101 r)] := by
 obtain ⟨y, hLN⟩ := lenb92 hk
 have hPQ := C99 l k hl hk y r hF
 have hcv := conv92 hk
 generalize Blk.cells 101 (List.flatMap e101 l) = b at hPQ ⊢
 generalize Blk.cells 101 (List.flatMap e101 r) = b' at hPQ ⊢
 refine ImpSim.of_TS (fn := Try.f92) (c := c92) (by kernel_rfl) (by kernel_rfl) (by kernel_rfl) (Nat.le_refl _) ?_
 refine TS.weak (a2 := st 14 [(0, anyV 0 k), (1, .func (.func 87) ⟨[]⟩ ⟨[]⟩)]) (h2 := [b])
  (Eq.mp (by kernel_rfl) (Wk.tm (P := Try.prog) (base := 0) (L := 1) (a := { tmps := [anyV 0 k, .func (.func 87) ⟨[]⟩ ⟨[]⟩] ++ List.replicate 12 undef }) (h := [b]) [0, 1])) ?_
 refine TS.start ?_
 refine TS.seq' (x := c92.s1) (y := c92.s2) (by kernel_rfl) ?_
 refine TS.region' (id := 0) (b := false) (ops := c92.s1.rops) (by kernel_rfl) rfl ?_
 refine TI.val [0, 1, 5] (v := anyV 0 k) (a2 := st 14 [(0, anyV 0 k), (1, .func (.func 87) ⟨[]⟩ ⟨[]⟩), (5, anyV 0 k)]) (by kernel_rfl) (by kernel_rfl) ?_
 refine TI.val [0, 1, 6] (v := .int .i64 k) (a2 := st 14 [(0, anyV 0 k), (1, .func (.func 87) ⟨[]⟩ ⟨[]⟩), (6, .int .i64 k)]) (by kernel_rfl) (by kernel_rfl) ?_
 refine TI.val [0, 1, 4] (v := .int .i64 k) (a2 := st 14 [(0, anyV 0 k), (1, .func (.func 87) ⟨[]⟩ ⟨[]⟩), (4, .int .i64 k)]) (by kernel_rfl) (by kernel_rfl) ?_
 refine TI.done (by kernel_rfl) ?_
 refine NX.sq ?_
 refine TS.region' (id := 1) (b := false) (ops := c92.s2.rops) (by kernel_rfl) rfl ?_
 refine TI.val [1, 4, 7] (v := anyV 0 k) (a2 := st 14 [(1, .func (.func 87) ⟨[]⟩ ⟨[]⟩), (4, .int .i64 k), (7, anyV 0 k)]) (by kernel_rfl) (by kernel_rfl) ?_
 refine TI.val [1, 4, 7, 8] (v := .int .i64 k) (a2 := st 14 [(1, .func (.func 87) ⟨[]⟩ ⟨[]⟩), (4, .int .i64 k), (7, anyV 0 k), (8, .int .i64 k)]) (by kernel_rfl) (by kernel_rfl) ?_
 refine TI.val [1, 7, 8, 9] (v := .int .i64 k) (a2 := st 14 [(1, .func (.func 87) ⟨[]⟩ ⟨[]⟩), (7, anyV 0 k), (8, .int .i64 k), (9, .int .i64 k)]) (by kernel_rfl) (by kernel_rfl) ?_
 refine TI.val [1, 7, 8, 10] (v := .int .u64 k) (a2 := st 14 [(1, .func (.func 87) ⟨[]⟩ ⟨[]⟩), (7, anyV 0 k), (8, .int .i64 k), (10, .int .u64 k)]) (Eq.trans (b := qConvert Try.prog 3 141 (.int .i64 k)) (by kernel_rfl) hcv) (by kernel_rfl) ?_
 refine TI.pcall [1, 7, 8, 11] (g := 95) (args := [.int .u64 k]) (v := .int .i64 y) (a2 := st 14 [(1, .func (.func 87) ⟨[]⟩ ⟨[]⟩), (7, anyV 0 k), (8, .int .i64 k), (11, .int .i64 y)]) (by kernel_rfl) (PureSim.any hLN (flatL (by rfl)) rfl _) (by kernel_rfl) ?_
 refine TI.val [7, 8, 11, 12] (v := .func (.func 87) ⟨[]⟩ ⟨[]⟩) (a2 := st 14 [(7, anyV 0 k), (8, .int .i64 k), (11, .int .i64 y), (12, .func (.func 87) ⟨[]⟩ ⟨[]⟩)]) (by kernel_rfl) (by kernel_rfl) ?_
 refine TI.icallT [] (a2 := st 14 []) (by kernel_rfl) hPQ (by kernel_rfl) ?_
 refine TI.done (by kernel_rfl) ?_
 exact ⟨.inl rfl, rfl, rfl, by kernel_rfl⟩
theorem C92nil : PureSim Try.prog 92 [.slice none 0 0, .func (.func 87) ⟨[]⟩ ⟨[]⟩] [] (.tuple #[]) [] :=
 answer (E := env92) (Cl.sumOk_none fun _ => rfl) mixed (n := 3000) (by kernel_rfl)
theorem len110l1 (p1 p2 a b : Int) (v r : List (Int × Int)) (h : F110l1 p1 p2 a b v = some r) : r.length = v.length := by
 refine F110l1.partial_correctness p1 p2 a (motive := fun b v r => r.length = v.length) ?_ b v r h
 intro f ih b v r hF
 obtain ⟨m, hm, hF⟩ := of_do hF
 split at hF
 · split at hF
   · obtain ⟨o1, _, hF⟩ := of_do hF
     split at hF
     · obtain ⟨o2, _, hF⟩ := of_do hF
       have := ih _ _ _ hF
       simpa using this
     cases hF
   cases hF
 cases hF
 rfl
theorem len110l0 (p1 p2 a : Int) (v r : List (Int × Int)) (h : F110l0 p1 p2 a v = some r) : r.length = v.length := by
 refine F110l0.partial_correctness p1 p2 (motive := fun a v r => r.length = v.length) ?_ a v r h
 intro f ih a v r hF
 split at hF
 · obtain ⟨m, hm, hF⟩ := of_do hF
   rw [ih _ _ _ hF, len110l1 _ _ _ _ _ _ hm]
 cases hF
 rfl
theorem len110 (p1 p2 : Int) (v r : List (Int × Int)) (h : F110 v p1 p2 = some r) : r.length = v.length := by
 unfold F110 at h
 obtain ⟨m, hm, h⟩ := of_do h
 cases h
 exact len110l0 _ _ _ _ _ hm
def sort92 (l : List (Int × Int)) : Option (List (Int × Int)) := if List.length l ≤ 12 then F110 l 0 (List.length l) else none
theorem sort92_len {l r : List (Int × Int)} (h : sort92 l = some r) : List.length r = List.length l := by
 unfold sort92 at h
 split at h
 · exact len110 _ _ _ _ h
 cases h
theorem e101_flat (l : List (Int × Int)) : blkFlat (.cells 101 (List.flatMap e101 l)) = true := by
 rcases cellsL_flat (enc := e101) (l := l) (t := 101) (fun _ => rfl) with h | h
 · cases h
 exact h
theorem TI.sort92 {base L j k : Nat} {ops : Array Oper} {a a2 : CAct} {h h1 h2 : List Blk} {Ψ : CAct → List Blk → Prop} {l r : List (Int × Int)} (hs : sort92 l = some r)
 (hc : callAt ops j a = some (92, [accV k (List.length l), .func (.func 87) ⟨[]⟩ ⟨[]⟩])) (hb : h[k]? = some (accB 101 (List.length l) (List.flatMap e101 l))) (hk : base ≤ k)
 (hset : h.set k (accB 101 (List.length r) (List.flatMap e101 r)) = h1) (keep keepH : List Nat) (hm : mk2 keep keepH (putAt ops j a (.tuple ⟨[]⟩), h1) = (a2, h2)) (ht : TI Try.prog base L ops (j + 1) a2 h2 Ψ) :
 TI Try.prog base L ops j a h Ψ := by
 have hl := sort92_len hs
 by_cases h0 : List.length l = 0
 · have hr : r = [] := List.eq_nil_of_length_eq_zero (by omega)
   have hl' : l = [] := List.eq_nil_of_length_eq_zero h0
   subst hr; subst hl'
   have hbd : h[k]? = some .dead := hb
   have hsd : h.set k (accB 101 0 []) = h := set_dead hbd
   refine TI.callM (v := .tuple ⟨[]⟩) (new := []) hc (PureSim.ren (hc := []) (fun _ => (0, 0)) C92nil (.nil _) (.cons (.flat rfl) (.cons (Rn.func' .nil .nil) .nil)) (.flat rfl) newflat_nil) keep keepH ?_ ht
   rw [List.append_nil, ← hm, ← hset]
   exact congrArg (fun x => mk2 keep keepH (putAt ops j a (.tuple ⟨[]⟩), x)) hsd.symm
 have hle : List.length l ≤ 12 := by
  unfold Go.Proofs.Ythpfffijnkmdgaa.sort92 at hs; split at hs
  · assumption
  cases hs
 have hF : F110 l 0 (List.length l) = some r := by
  unfold Go.Proofs.Ythpfffijnkmdgaa.sort92 at hs; rw [if_pos hle] at hs; exact hs
 have e1 : accB 101 (List.length l) (List.flatMap e101 l) = .cells 101 (List.flatMap e101 l) := by unfold accB; rw [if_neg h0]
 have e2 : accB 101 (List.length r) (List.flatMap e101 r) = .cells 101 (List.flatMap e101 r) := by unfold accB; rw [if_neg (by omega)]
 rw [e1] at hb
 rw [e2] at hset
 refine TI.icallM hc (ImpSim.frame (ro := []) (wr := [.cells 101 (List.flatMap e101 l)]) (wr' := [.cells 101 (List.flatMap e101 r)]) (n := 1) (h := h) (fun _ => (k, 0)) (C92 l _ rfl hle r hF) rfl rfl (.cons (.inr ⟨.cells 101 (List.flatMap e101 l), hb, .list (fun _ => rfl)⟩) (.nil _)) (fun j h1 h2 => ⟨hk, rfl, fun i hi _ => by omega⟩) (by simp only [List.all_cons, List.all_nil, Bool.and_true]; exact e101_flat l) (by simp only [List.all_cons, List.all_nil, Bool.and_true]; exact e101_flat r)
  (.cons (Rn.accA (i' := k) Nat.one_pos rfl) (.cons (Rn.func' .nil .nil) .nil)) rfl) keep keepH ?_ ht
 subst hset; exact hm
def e55 (x : (Int × Int)) : List Value := [.int .i64 x.1, .int .i64 x.2]
end Go.Proofs.Ythpfffijnkmdgaa
