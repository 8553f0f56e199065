/- What functions of the program compute, and that they do. -/
import Derived.Test.YtiaippkjgmccoaaKS
import Derived.Test.YtiaippkjgmccoaaGiven
set_option linter.unusedVariables false
set_option linter.unusedSimpArgs false
set_option maxRecDepth 100000
set_option maxHeartbeats 4000000
namespace Go.Proofs.Ytiaippkjgmccoaa
open Go Go.Cl
noncomputable section
noncomputable def c37 : Code := Try.f37.code
def S37_0 (v20 : List Int) (v19 : Int) (p1 : List ((Int × Bool) × (Int × Bool))) (p0 : Int) : CAct := (st 58 [(1, pt 1 0), (5, accV 2 v20.length), (6, iv v19), (7, pt 6 0), (17, .bool (decide (v19 < (p1.length : Int)))), (20, pt 1 0), (21, iv p0), (22, sv 3 0 0), (23, pt 1 1), (24, sv 0 p1.length ANY), (25, iv v19), (26, sv 0 (List.length (List.take (Int.toNat v19) p1)) ANY), (27, ownV 4 (List.length (List.take (Int.toNat v19) p1))), (28, pt 1 1), (29, sv 0 p1.length ANY), (30, iv v19), (31, iv (w64 (v19 + 1))), (32, .slice (some ⟨0, 0 + Int.toNat (w64 (v19 + 1)) * 4, none⟩) (List.length (List.drop (Int.toNat (w64 (v19 + 1))) p1)) ANY), (33, ownV 5 (List.length ((List.take (Int.toNat v19) p1) ++ (List.drop (Int.toNat (w64 (v19 + 1))) p1)))), (34, ag [iv p0, ownV 5 (List.length ((List.take (Int.toNat v19) p1) ++ (List.drop (Int.toNat (w64 (v19 + 1))) p1)))])])
def S37_1 (v20 : List Int) (v19 : Int) (p1 : List ((Int × Bool) × (Int × Bool))) (p0 : Int) : CAct := (st 58 [(1, pt 1 0), (5, accV 2 v20.length), (6, iv v19), (17, .bool (decide (v19 < (p1.length : Int)))), (20, pt 1 0), (21, iv p0), (22, sv 3 0 0), (23, pt 1 1), (24, sv 0 p1.length ANY), (25, iv v19), (26, sv 0 (List.length (List.take (Int.toNat v19) p1)) ANY), (27, ownV 4 (List.length (List.take (Int.toNat v19) p1))), (28, pt 1 1), (29, sv 0 p1.length ANY), (30, iv v19), (31, iv (w64 (v19 + 1))), (32, .slice (some ⟨0, 0 + Int.toNat (w64 (v19 + 1)) * 4, none⟩) (List.length (List.drop (Int.toNat (w64 (v19 + 1))) p1)) ANY), (33, ownV 5 (List.length ((List.take (Int.toNat v19) p1) ++ (List.drop (Int.toNat (w64 (v19 + 1))) p1))))])
def S37_2 (v20 : List Int) (v19 : Int) (p1 : List ((Int × Bool) × (Int × Bool))) (p0 : Int) : CAct := (st 58 [(1, pt 1 0), (5, accV 2 v20.length), (6, iv v19), (17, .bool (decide (v19 < (p1.length : Int)))), (20, pt 1 0), (21, iv p0), (22, sv 3 0 0), (23, pt 1 1), (24, sv 0 p1.length ANY), (25, iv v19), (26, sv 0 (List.length (List.take (Int.toNat v19) p1)) ANY), (27, ownV 4 (List.length (List.take (Int.toNat v19) p1))), (28, pt 1 1), (29, sv 0 p1.length ANY), (30, iv v19), (31, iv (w64 (v19 + 1))), (32, .slice (some ⟨0, 0 + Int.toNat (w64 (v19 + 1)) * 4, none⟩) (List.length (List.drop (Int.toNat (w64 (v19 + 1))) p1)) ANY)])
def S37_3 (v20 : List Int) (v19 : Int) (p1 : List ((Int × Bool) × (Int × Bool))) (p0 : Int) : CAct := (st 58 [(1, pt 1 0), (5, accV 2 v20.length), (6, iv v19), (17, .bool (decide (v19 < (p1.length : Int)))), (20, pt 1 0), (21, iv p0), (22, sv 3 0 0), (23, pt 1 1), (24, sv 0 p1.length ANY), (25, iv v19), (26, sv 0 (List.length (List.take (Int.toNat v19) p1)) ANY), (27, ownV 4 (List.length (List.take (Int.toNat v19) p1))), (28, pt 1 1), (29, sv 0 p1.length ANY), (30, iv v19), (31, iv (w64 (v19 + 1)))])
def H37_4 (p1 : List ((Int × Bool) × (Int × Bool))) (p0 : Int) (v20 : List Int) (v19 : Int) (r47 r49 : Int × Bool) : List Blk := [ab 93 e93 p1, cl 30 [iv p0, sv 0 p1.length ANY], ab 3 e3 v20, .dead, .dead, .cells 93 (List.flatMap e93 ((List.take (Int.toNat v19) p1) ++ (List.drop (Int.toNat (w64 (v19 + 1))) p1))), cl 30 [iv p0, ownV 5 (List.length ((List.take (Int.toNat v19) p1) ++ (List.drop (Int.toNat (w64 (v19 + 1))) p1)))], cl 55 [iv r47.1, .bool r47.2, iv r49.1, .bool r49.2]]
def S37_5 (v20 : List Int) (v19 : Int) (p1 : List ((Int × Bool) × (Int × Bool))) (p0 : Int) : CAct := (st 58 [(1, pt 1 0), (5, accV 2 v20.length), (6, iv v19), (17, .bool (decide (v19 < (p1.length : Int)))), (20, pt 1 0), (21, iv p0), (22, sv 3 0 0), (23, pt 1 1), (24, sv 0 p1.length ANY), (25, iv v19), (26, sv 0 (List.length (List.take (Int.toNat v19) p1)) ANY), (27, ownV 4 (List.length (List.take (Int.toNat v19) p1)))])
def H37_6 (p1 : List ((Int × Bool) × (Int × Bool))) (p0 : Int) (v20 : List Int) (v19 : Int) : List Blk := [ab 93 e93 p1, cl 30 [iv p0, sv 0 p1.length ANY], ab 3 e3 v20, .dead, .dead, .cells 93 (List.flatMap e93 ((List.take (Int.toNat v19) p1) ++ (List.drop (Int.toNat (w64 (v19 + 1))) p1))), cl 30 [iv p0, ownV 5 (List.length ((List.take (Int.toNat v19) p1) ++ (List.drop (Int.toNat (w64 (v19 + 1))) p1)))]]
def S37_7 (v20 : List Int) (v19 : Int) (p1 : List ((Int × Bool) × (Int × Bool))) (p0 : Int) : CAct := (st 58 [(1, pt 1 0), (5, accV 2 v20.length), (6, iv v19), (17, .bool (decide (v19 < (p1.length : Int)))), (20, pt 1 0), (21, iv p0), (22, sv 3 0 0), (23, pt 1 1), (24, sv 0 p1.length ANY), (25, iv v19), (26, sv 0 (List.length (List.take (Int.toNat v19) p1)) ANY)])
def H37_8 (p1 : List ((Int × Bool) × (Int × Bool))) (p0 : Int) (v20 : List Int) (v19 : Int) : List Blk := [ab 93 e93 p1, cl 30 [iv p0, sv 0 p1.length ANY], ab 3 e3 v20, .dead, .dead, .cells 93 (List.flatMap e93 ((List.take (Int.toNat v19) p1) ++ (List.drop (Int.toNat (w64 (v19 + 1))) p1))), cl 30 [iv 0, .slice none 0 0]]
def H37_9 (p1 : List ((Int × Bool) × (Int × Bool))) (p0 : Int) (v20 : List Int) (v19 : Int) : List Blk := [ab 93 e93 p1, cl 30 [iv p0, sv 0 p1.length ANY], ab 3 e3 v20, .dead, .dead, .cells 93 (List.flatMap e93 ((List.take (Int.toNat v19) p1) ++ (List.drop (Int.toNat (w64 (v19 + 1))) p1)))]
def S37_10 (v20 : List Int) (v19 : Int) (p1 : List ((Int × Bool) × (Int × Bool))) (p0 : Int) : CAct := (st 58 [(1, pt 1 0), (5, accV 2 v20.length), (6, iv v19), (17, .bool (decide (v19 < (p1.length : Int)))), (20, pt 1 0), (21, iv p0), (22, sv 3 0 0), (23, pt 1 1), (24, sv 0 p1.length ANY), (25, iv v19)])
def H37_11 (p1 : List ((Int × Bool) × (Int × Bool))) (p0 : Int) (v20 : List Int) (v19 : Int) : List Blk := [ab 93 e93 p1, cl 30 [iv p0, sv 0 p1.length ANY], ab 3 e3 v20, .dead, .cells 93 (List.flatMap e93 (List.take (Int.toNat v19) p1))]
def H37_12 (p1 : List ((Int × Bool) × (Int × Bool))) (p0 : Int) (v20 : List Int) : List Blk := [ab 93 e93 p1, cl 30 [iv p0, sv 0 p1.length ANY], ab 3 e3 v20, cl 93 []]
def F37l0 (p0 : Int) (p1 : List ((Int × Bool) × (Int × Bool))) (v20 : List Int) (v19 : Int) : Option (List Int) :=
 if decide (v19 < (p1.length : Int)) then
  if (0 : Int) ≤ v19 ∧ v19 ≤ (p1.length : Int) then
   if List.length (List.take (Int.toNat v19) p1) ≤ 1000000000 then
    if (0 : Int) ≤ w64 (v19 + 1) ∧ w64 (v19 + 1) ≤ (p1.length : Int) then
     if List.length (List.drop (Int.toNat (w64 (v19 + 1))) p1) ≤ 1000000000 then
      if (0 : Int) ≤ v19 ∧ v19 < (p1.length : Int) then
       some (List.getD p1 (Int.toNat v19) ((0, false), (0, false))) >>= fun o45 =>
       F76 o45.1.1 o45.1.2 >>= fun r47 =>
       F76 o45.2.1 o45.2.2 >>= fun r49 =>
       F60 p0 ((List.take (Int.toNat v19) p1) ++ (List.drop (Int.toNat (w64 (v19 + 1))) p1)) ([(r47.1, r47.2), (r49.1, r49.2)]) >>= fun r51 =>
       (
        if !r51 then
         if List.length v20 ≤ 1000000000 then
          some (v20 ++ [v19])
         else none
        else
         some v20
       : Option (List Int)) >>= fun m56 =>
       F37l0 p0 p1 m56 (w64 (v19 + 1))
      else none
     else none
    else none
   else none
  else none
 else
  some v20
 partial_fixpoint
def F37 (p0 : Int) (p1 : List ((Int × Bool) × (Int × Bool))) : Option ((List Int) × Int) :=
 F27 p0 p1 >>= fun r1 =>
 if r1 != 0 then
  some ([], r1)
 else
  F37l0 p0 p1 ([]) 0 >>= fun r60 =>
  some (r60, 0)
def V37 (b : Nat) (r : (List Int) × Int) : Value := .tuple ⟨[accV (b + 0) r.1.length, iv r.2]⟩
def N37 (b : Nat) (r : (List Int) × Int) : List Blk := [ab 3 e3 r.1]
def P37l0 (p0 : Int) (p1 : List ((Int × Bool) × (Int × Bool))) (r : List Int) : Post := fun e a h => e = .exit 0 ∧ Wk Try.prog 1 1 a h (st 58 [(5, accV 1 r.length)]) [ab 93 e93 p1, ab 3 e3 r]
theorem L37l0 (p0 : Int) (p1 : List ((Int × Bool) × (Int × Bool))) (v20 : List Int) (v19 : Int) (r : List Int) (hF : F37l0 p0 p1 v20 v19 = some r) : TL Try.prog 1 1 c37.s2.s2.s2.s2.s1.s2.bd.bd (st 58 [(1, pt 1 0), (5, accV 2 v20.length), (6, iv v19)]) [ab 93 e93 p1, cl 30 [iv p0, sv 0 p1.length ANY], ab 3 e3 v20] (P37l0 p0 p1 r) := by
 refine F37l0.partial_correctness p0 p1 (motive := fun v20 v19 r => TL Try.prog 1 1 c37.s2.s2.s2.s2.s1.s2.bd.bd (st 58 [(1, pt 1 0), (5, accV 2 v20.length), (6, iv v19)]) [ab 93 e93 p1, cl 30 [iv p0, sv 0 p1.length ANY], ab 3 e3 v20] (P37l0 p0 p1 r)) ?_ v20 v19 r hF
 clear hF r v20 v19
 intro again ih v20 v19 r hF
 refine TL.round (TS.sq (TS.sq (TS.rg (TI.ra 5 [1, 5, 6, 17] (st 58 [(1, pt 1 0), (5, accV 2 v20.length), (6, iv v19), (17, .bool (decide (v19 < (p1.length : Int))))]) (TI.dn (NX.sq ?_))))))
 refine TS.cd (.tmp 17) (decide (v19 < (p1.length : Int))) (fun hc39 => ?_) (fun hc39 => ?_)
 · replace hF := of_pos hF hc39
   refine TS.sk (NX.sq (TS.sq (TS.bk 1 (TS.sq ?_))))
   obtain ⟨hg40, hF⟩ := of_guard hF
   obtain ⟨hg41, hF⟩ := of_guard hF
   obtain ⟨hg42, hF⟩ := of_guard hF
   obtain ⟨hg43, hF⟩ := of_guard hF
   refine TS.draw' (id := 8) (b := true) (ops := c37.s2.s2.s2.s2.s1.s2.bd.bd.s2.s1.bd.s1.rops) (fin := (qs (S37_0 v20 v19 p1 p0) (H37_8 p1 p0 v20 v19) [(15, 6, 7), (13, 5, 6), (7, 4, 5), (2, 3, 4)] [(13, 4), (7, 3)])) (fin2 := (qs (S37_0 v20 v19 p1 p0) (H37_8 p1 p0 v20 v19) [(15, 6, 7), (13, 5, 6), (7, 4, 5), (2, 3, 4)] [(13, 4), (7, 3)])) (a1 := (S37_0 v20 v19 p1 p0)) (h1 := (H37_6 p1 p0 v20 v19)) (a2 := (st 58 [(1, pt 1 0), (5, accV 2 v20.length), (6, iv v19), (7, pt 6 0)])) (h2 := (H37_6 p1 p0 v20 v19)) [] (fun e he => by cases he) mixed (by kernel_rfl) rfl 16 (by kernel_rfl) [(13, 4), (7, 3)] ?_ rfl (.inr ⟨?_, (by kernel_rfl)⟩) ?_ [1, 5, 6, 7] [0, 1, 2, 5, 6] (by kernel_rfl) ?_
   · refine QI.run (s1 := (qs (S37_10 v20 v19 p1 p0) (H37_12 p1 p0 v20) [(2, 3, 4)] [])) 6 (by kernel_rfl) (by kernel_rfl) (QI.op (q := { val := sv 0 (List.length (List.take (Int.toNat v19) p1)) ANY }) (s1 := (qs (S37_7 v20 v19 p1 p0) (H37_12 p1 p0 v20) [(2, 3, 4)] [])) (by decide) (q_slAhi (P := Try.prog) (t := 28) (e := 93) (s := 4) (b := 0) (off := 0) (ys := p1) (k := .i64) (y := v19) (by kernel_rfl) (by kernel_rfl) (by kernel_rfl) hg40) (by kernel_rfl) ?_)
     refine QI.op (q := { val := ownV 4 (List.length (List.take (Int.toNat v19) p1)), new := [.cells 93 (List.flatMap e93 (List.take (Int.toNat v19) p1))], upd := some (3, .dead) }) (s1 := (qs (S37_5 v20 v19 p1 p0) (H37_11 p1 p0 v20 v19) [(7, 4, 5), (2, 3, 4)] [(7, 3)])) (by decide) (q_appL (P := Try.prog) (base := 1) (hp := (H37_12 p1 p0 v20)) (n := 4) (s := 4) (enc := e93) (ts := #[28, 28]) (e := 93) (bytes := 32) (z := ag [iv 0, .bool false, iv 0, .bool false]) (y := sv 0 (List.length (List.take (Int.toNat v19) p1)) ANY) (ys := List.take (Int.toNat v19) p1) (b := 3) (t := 93) (by kernel_rfl) (by kernel_rfl) (by decide) (by kernel_rfl) (by kernel_rfl) (by kernel_rfl) (by kernel_rfl) (by kernel_rfl) (by kernel_rfl) (arg_win (e := 93) (off := 0) (L := p1) (ys := List.take (Int.toNat v19) p1) (win_take win_all _) (holds_acc (hp := (H37_12 p1 p0 v20)) (b := 0) (T := 93) (enc := e93) (L := p1) (by kernel_rfl)) (fun _ => rfl) (by kernel_rfl)) (by first | omega | (simp only [List.length_append, List.length_cons, List.length_nil]; omega))) (by kernel_rfl) (QI.run (s1 := (qs (S37_3 v20 v19 p1 p0) (H37_11 p1 p0 v20 v19) [(7, 4, 5), (2, 3, 4)] [(7, 3)])) 4 (by kernel_rfl) (by kernel_rfl) (QI.op (q := { val := .slice (some ⟨0, 0 + Int.toNat (w64 (v19 + 1)) * 4, none⟩) (List.length (List.drop (Int.toNat (w64 (v19 + 1))) p1)) ANY }) (s1 := (qs (S37_2 v20 v19 p1 p0) (H37_11 p1 p0 v20 v19) [(7, 4, 5), (2, 3, 4)] [(7, 3)])) (by decide) (q_slAlo (P := Try.prog) (t := 28) (e := 93) (s := 4) (b := 0) (off := 0) (ys := p1) (k := .i64) (y := w64 (v19 + 1)) (by kernel_rfl) (by kernel_rfl) (by kernel_rfl) hg42) (by kernel_rfl) ?_))
     exact QI.op (q := { val := ownV 5 (List.length ((List.take (Int.toNat v19) p1) ++ (List.drop (Int.toNat (w64 (v19 + 1))) p1))), new := [.cells 93 (List.flatMap e93 ((List.take (Int.toNat v19) p1) ++ (List.drop (Int.toNat (w64 (v19 + 1))) p1)))], upd := some (4, .dead) }) (s1 := (qs (S37_1 v20 v19 p1 p0) (H37_9 p1 p0 v20 v19) [(13, 5, 6), (7, 4, 5), (2, 3, 4)] [(13, 4), (7, 3)])) (by decide) (q_appO (P := Try.prog) (base := 1) (hp := (H37_11 p1 p0 v20 v19)) (n := 5) (s := 4) (enc := e93) (ts := #[28, 28]) (e := 93) (bytes := 32) (z := ag [iv 0, .bool false, iv 0, .bool false]) (y := .slice (some ⟨0, 0 + Int.toNat (w64 (v19 + 1)) * 4, none⟩) (List.length (List.drop (Int.toNat (w64 (v19 + 1))) p1)) ANY) (ys := List.drop (Int.toNat (w64 (v19 + 1))) p1) (b := 4) (l := List.take (Int.toNat v19) p1) (by kernel_rfl) (by kernel_rfl) (by decide) (by kernel_rfl) (by kernel_rfl) (by kernel_rfl) (by kernel_rfl) (by kernel_rfl) (arg_win (e := 93) (off := 0 + Int.toNat (w64 (v19 + 1)) * 4) (L := p1) (ys := List.drop (Int.toNat (w64 (v19 + 1))) p1) (win_drop win_all _) (holds_acc (hp := (H37_11 p1 p0 v20 v19)) (b := 0) (T := 93) (enc := e93) (L := p1) (by kernel_rfl)) (fun _ => rfl) (by kernel_rfl)) (cells_ok (fun _ => rfl)) (fun _ => rfl) (by first | omega | (simp only [List.length_append, List.length_cons, List.length_nil]; omega))) (by kernel_rfl) (QI.run (s1 := (qs (S37_0 v20 v19 p1 p0) (H37_8 p1 p0 v20 v19) [(15, 6, 7), (13, 5, 6), (7, 4, 5), (2, 3, 4)] [(13, 4), (7, 3)])) 2 (by kernel_rfl) (by kernel_rfl) (QI.done (by kernel_rfl)))
   · refine QI.run (s1 := (qs (S37_10 v20 v19 p1 p0) (H37_12 p1 p0 v20) [(2, 3, 4)] [])) 6 (by kernel_rfl) (by kernel_rfl) (QI.op (q := { val := sv 0 (List.length (List.take (Int.toNat v19) p1)) ANY }) (s1 := (qs (S37_7 v20 v19 p1 p0) (H37_12 p1 p0 v20) [(2, 3, 4)] [])) (by decide) (q_slAhi (P := Try.prog) (t := 28) (e := 93) (s := 4) (b := 0) (off := 0) (ys := p1) (k := .i64) (y := v19) (by kernel_rfl) (by kernel_rfl) (by kernel_rfl) hg40) (by kernel_rfl) ?_)
     refine QI.op (q := { val := ownV 4 (List.length (List.take (Int.toNat v19) p1)), new := [.cells 93 (List.flatMap e93 (List.take (Int.toNat v19) p1))], upd := some (3, .dead) }) (s1 := (qs (S37_5 v20 v19 p1 p0) (H37_11 p1 p0 v20 v19) [(7, 4, 5), (2, 3, 4)] [(7, 3)])) (by decide) (q_appL (P := Try.prog) (base := 1) (hp := (H37_12 p1 p0 v20)) (n := 4) (s := 4) (enc := e93) (ts := #[28, 28]) (e := 93) (bytes := 32) (z := ag [iv 0, .bool false, iv 0, .bool false]) (y := sv 0 (List.length (List.take (Int.toNat v19) p1)) ANY) (ys := List.take (Int.toNat v19) p1) (b := 3) (t := 93) (by kernel_rfl) (by kernel_rfl) (by decide) (by kernel_rfl) (by kernel_rfl) (by kernel_rfl) (by kernel_rfl) (by kernel_rfl) (by kernel_rfl) (arg_win (e := 93) (off := 0) (L := p1) (ys := List.take (Int.toNat v19) p1) (win_take win_all _) (holds_acc (hp := (H37_12 p1 p0 v20)) (b := 0) (T := 93) (enc := e93) (L := p1) (by kernel_rfl)) (fun _ => rfl) (by kernel_rfl)) (by first | omega | (simp only [List.length_append, List.length_cons, List.length_nil]; omega))) (by kernel_rfl) (QI.run (s1 := (qs (S37_3 v20 v19 p1 p0) (H37_11 p1 p0 v20 v19) [(7, 4, 5), (2, 3, 4)] [(7, 3)])) 4 (by kernel_rfl) (by kernel_rfl) (QI.op (q := { val := .slice (some ⟨0, 0 + Int.toNat (w64 (v19 + 1)) * 4, none⟩) (List.length (List.drop (Int.toNat (w64 (v19 + 1))) p1)) ANY }) (s1 := (qs (S37_2 v20 v19 p1 p0) (H37_11 p1 p0 v20 v19) [(7, 4, 5), (2, 3, 4)] [(7, 3)])) (by decide) (q_slAlo (P := Try.prog) (t := 28) (e := 93) (s := 4) (b := 0) (off := 0) (ys := p1) (k := .i64) (y := w64 (v19 + 1)) (by kernel_rfl) (by kernel_rfl) (by kernel_rfl) hg42) (by kernel_rfl) ?_))
     exact QI.op (q := { val := ownV 5 (List.length ((List.take (Int.toNat v19) p1) ++ (List.drop (Int.toNat (w64 (v19 + 1))) p1))), new := [.cells 93 (List.flatMap e93 ((List.take (Int.toNat v19) p1) ++ (List.drop (Int.toNat (w64 (v19 + 1))) p1)))], upd := some (4, .dead) }) (s1 := (qs (S37_1 v20 v19 p1 p0) (H37_9 p1 p0 v20 v19) [(13, 5, 6), (7, 4, 5), (2, 3, 4)] [(13, 4), (7, 3)])) (by decide) (q_appO (P := Try.prog) (base := 1) (hp := (H37_11 p1 p0 v20 v19)) (n := 5) (s := 4) (enc := e93) (ts := #[28, 28]) (e := 93) (bytes := 32) (z := ag [iv 0, .bool false, iv 0, .bool false]) (y := .slice (some ⟨0, 0 + Int.toNat (w64 (v19 + 1)) * 4, none⟩) (List.length (List.drop (Int.toNat (w64 (v19 + 1))) p1)) ANY) (ys := List.drop (Int.toNat (w64 (v19 + 1))) p1) (b := 4) (l := List.take (Int.toNat v19) p1) (by kernel_rfl) (by kernel_rfl) (by decide) (by kernel_rfl) (by kernel_rfl) (by kernel_rfl) (by kernel_rfl) (by kernel_rfl) (arg_win (e := 93) (off := 0 + Int.toNat (w64 (v19 + 1)) * 4) (L := p1) (ys := List.drop (Int.toNat (w64 (v19 + 1))) p1) (win_drop win_all _) (holds_acc (hp := (H37_11 p1 p0 v20 v19)) (b := 0) (T := 93) (enc := e93) (L := p1) (by kernel_rfl)) (fun _ => rfl) (by kernel_rfl)) (cells_ok (fun _ => rfl)) (fun _ => rfl) (by first | omega | (simp only [List.length_append, List.length_cons, List.length_nil]; omega))) (by kernel_rfl) (QI.run (s1 := (qs (S37_0 v20 v19 p1 p0) (H37_8 p1 p0 v20 v19) [(15, 6, 7), (13, 5, 6), (7, 4, 5), (2, 3, 4)] [(13, 4), (7, 3)])) 2 (by kernel_rfl) (by kernel_rfl) (QI.done (by kernel_rfl)))
   · exact SI.run (a2 := (S37_0 v20 v19 p1 p0)) (h2 := (H37_6 p1 p0 v20 v19)) 1 (by kernel_rfl) (SI.done (by kernel_rfl))
   refine TS.sq ?_
   obtain ⟨hg44, hF⟩ := of_guard hF
   obtain ⟨o45, h46, hF⟩ := of_do hF
   replace h46 := sj h46
   obtain ⟨r47, h48, hF⟩ := of_do hF
   obtain ⟨r49, h50, hF⟩ := of_do hF
   obtain ⟨r51, h52, hF⟩ := of_do hF
   have hT : ∀ e ∈ ([⟨76, [ag [iv o45.1.1, .bool o45.1.2]], (H37_6 p1 p0 v20 v19), ag [iv r47.1, .bool r47.2], []⟩, ⟨76, [ag [iv o45.2.1, .bool o45.2.2]], (H37_6 p1 p0 v20 v19), ag [iv r49.1, .bool r49.2], []⟩, ⟨60, [ag [iv p0, ownV 5 (List.length ((List.take (Int.toNat v19) p1) ++ (List.drop (Int.toNat (w64 (v19 + 1))) p1)))], sv 7 2 2], (H37_4 p1 p0 v20 v19 r47 r49), .bool r51, []⟩] : List Entry), PureSim Try.prog e.g e.args e.h e.v e.new := by
    intro e he
    simp only [List.mem_cons, List.not_mem_nil, or_false] at he
    rcases he with rfl | rfl | rfl
    · exact PureSim.ak (C76 _ _ _ h48)
    · exact PureSim.ak (C76 _ _ _ h50)
    exact (PureSim.ren (hc := [accB 93 (List.length ((List.take (Int.toNat v19) p1) ++ (List.drop (Int.toNat (w64 (v19 + 1))) p1))) (List.flatMap e93 ((List.take (Int.toNat v19) p1) ++ (List.drop (Int.toNat (w64 (v19 + 1))) p1))), accB 55 (List.length ([(r47.1, r47.2), (r49.1, r49.2)])) (List.flatMap e55 ([(r47.1, r47.2), (r49.1, r49.2)]))]) (fun i => List.getD [(5, 0), (7, 0)] i (0, 0)) (C60 _ _ _ _ h52) (.cons (At.accU (by kernel_rfl) rfl (fun _ => rfl)) (.cons (At.accU (by kernel_rfl) rfl (fun _ => rfl)) (.nil _))) (.cons (Rn.agg' (.fl (.cons (Rn.ownA (i' := 5) (nl rfl) rfl (by simp only [List.length_set])) .nil))) (.cons (Rn.any _ _ _ _ _ _ (nl rfl) rfl rfl (by decide)) .nil)) (.flat (by kernel_rfl)) newflat_nil)
   refine TS.dp [⟨76, [ag [iv o45.1.1, .bool o45.1.2]], (H37_6 p1 p0 v20 v19), ag [iv r47.1, .bool r47.2], []⟩, ⟨76, [ag [iv o45.2.1, .bool o45.2.2]], (H37_6 p1 p0 v20 v19), ag [iv r49.1, .bool r49.2], []⟩, ⟨60, [ag [iv p0, ownV 5 (List.length ((List.take (Int.toNat v19) p1) ++ (List.drop (Int.toNat (w64 (v19 + 1))) p1)))], sv 7 2 2], (H37_4 p1 p0 v20 v19 r47 r49), .bool r51, []⟩] hT mixed 16 [1, 5, 6, 52] [0, 1, 2] (st 58 [(1, pt 1 0), (5, accV 2 v20.length), (6, iv v19), (52, .bool (!r51))]) [ab 93 e93 p1, cl 30 [iv p0, sv 0 p1.length ANY], ab 3 e3 v20, .dead, .dead, .dead, .dead, .dead] ?_ ?_
   · refine QJ.rn (qs (st 58 [(1, pt 1 0), (5, accV 2 v20.length), (6, iv v19), (7, pt 6 0), (35, ag [iv p0, ownV 5 (List.length ((List.take (Int.toNat v19) p1) ++ (List.drop (Int.toNat (w64 (v19 + 1))) p1)))]), (36, pt 1 1), (37, sv 0 p1.length ANY), (38, iv v19)]) (H37_6 p1 p0 v20 v19) [] []) 4 (QJ.o { val := .pointer (some ⟨0, 0 + (Int.toNat v19) * 4, none⟩) } (q_ixS 0 0 ((Int.toNat v19) * 4) (by kernel_rfl) hg44) (QJ.rn (qs (st 58 [(1, pt 1 0), (5, accV 2 v20.length), (6, iv v19), (7, pt 6 0), (35, ag [iv p0, ownV 5 (List.length ((List.take (Int.toNat v19) p1) ++ (List.drop (Int.toNat (w64 (v19 + 1))) p1)))]), (36, pt 1 1), (37, sv 0 p1.length ANY), (38, iv v19), (39, .pointer (some ⟨0, 0 + (Int.toNat v19) * 4, none⟩)), (40, .pointer (some ⟨0, 0 + (Int.toNat v19) * 4, none⟩))]) (H37_6 p1 p0 v20 v19) [] []) 1 ?_))
     refine QJ.o { val := ag [iv o45.1.1, .bool o45.1.2] } (q_eqv (q_ldPW (P := Try.prog) (hp := (H37_6 p1 p0 v20 v19)) (t := 55) (b := 0) (o := 0 + (Int.toNat v19) * 4) (off := 0) (L := p1) (ys := p1) (enc := e93) (s := 4) (T := 93) (i := Int.toNat v19) (k := 0) (m := 2) win_all (holds_acc (hp := (H37_6 p1 p0 v20 v19)) (b := 0) (T := 93) (enc := e93) (L := p1) (by kernel_rfl)) (by kernel_rfl) (by kernel_rfl) (by kernel_rfl) (fun _ => rfl) rfl (by decide) (by first | omega | (simp <;> omega)) ((0, false), (0, false))) (congrArg (fun (z : ((Int × Bool) × (Int × Bool))) => ({ val := ag [iv z.1.1, .bool z.1.2] } : QRes)) h46)) (QJ.o { val := ag [iv r47.1, .bool r47.2], new := [] } (qOf_call (g := 76) (args := [ag [iv o45.1.1, .bool o45.1.2]]) (by kernel_rfl) lookC_hit) (QJ.rn (qs (st 58 [(1, pt 1 0), (5, accV 2 v20.length), (6, iv v19), (7, pt 6 0), (35, ag [iv p0, ownV 5 (List.length ((List.take (Int.toNat v19) p1) ++ (List.drop (Int.toNat (w64 (v19 + 1))) p1)))]), (36, pt 1 1), (37, sv 0 p1.length ANY), (38, iv v19), (39, .pointer (some ⟨0, 0 + (Int.toNat v19) * 4, none⟩)), (40, .pointer (some ⟨0, 0 + (Int.toNat v19) * 4, none⟩)), (41, ag [iv o45.1.1, .bool o45.1.2]), (42, ag [iv r47.1, .bool r47.2]), (43, pt 1 1), (44, sv 0 p1.length ANY), (45, iv v19)]) (H37_6 p1 p0 v20 v19) [] []) 3 (QJ.o { val := .pointer (some ⟨0, 0 + (Int.toNat v19) * 4, none⟩) } (q_ixS 0 0 ((Int.toNat v19) * 4) (by kernel_rfl) hg44) (QJ.rn (qs (st 58 [(1, pt 1 0), (5, accV 2 v20.length), (6, iv v19), (7, pt 6 0), (35, ag [iv p0, ownV 5 (List.length ((List.take (Int.toNat v19) p1) ++ (List.drop (Int.toNat (w64 (v19 + 1))) p1)))]), (36, pt 1 1), (37, sv 0 p1.length ANY), (38, iv v19), (39, .pointer (some ⟨0, 0 + (Int.toNat v19) * 4, none⟩)), (40, .pointer (some ⟨0, 0 + (Int.toNat v19) * 4, none⟩)), (41, ag [iv o45.1.1, .bool o45.1.2]), (42, ag [iv r47.1, .bool r47.2]), (43, pt 1 1), (44, sv 0 p1.length ANY), (45, iv v19), (46, .pointer (some ⟨0, 0 + (Int.toNat v19) * 4, none⟩)), (47, .pointer (some ⟨0, 0 + (Int.toNat v19) * 4 + 2, none⟩))]) (H37_6 p1 p0 v20 v19) [] []) 1 ?_))))
     refine QJ.o { val := ag [iv o45.2.1, .bool o45.2.2] } (q_eqv (q_ldPW (P := Try.prog) (hp := (H37_6 p1 p0 v20 v19)) (t := 55) (b := 0) (o := 0 + (Int.toNat v19) * 4 + 2) (off := 0) (L := p1) (ys := p1) (enc := e93) (s := 4) (T := 93) (i := Int.toNat v19) (k := 2) (m := 2) win_all (holds_acc (hp := (H37_6 p1 p0 v20 v19)) (b := 0) (T := 93) (enc := e93) (L := p1) (by kernel_rfl)) (by kernel_rfl) (by kernel_rfl) (by kernel_rfl) (fun _ => rfl) rfl (by decide) (by first | omega | (simp <;> omega)) ((0, false), (0, false))) (congrArg (fun (z : ((Int × Bool) × (Int × Bool))) => ({ val := ag [iv z.2.1, .bool z.2.2] } : QRes)) h46)) ?_
     exact QJ.o { val := ag [iv r49.1, .bool r49.2], new := [] } (qOf_call (g := 76) (args := [ag [iv o45.2.1, .bool o45.2.2]]) (by kernel_rfl) (lookC_skip (by intro _ ha hh; first | (exact absurd (congrArg List.length hh) (Nat.ne_of_beq_eq_false rfl)) | (have hr := sj (h48.symm.trans (Eq.trans (congr (congrArg F76 (show o45.1.1 = o45.2.1 from congrArg (leafI 0) ha)) (show o45.1.2 = o45.2.2 from congrArg (leafB 1) ha)) h50)); first | (subst hr; rfl) | (cases hr; done) | (cases hr; rfl))) lookC_hit)) (QJ.rn (qs (st 58 [(1, pt 1 0), (5, accV 2 v20.length), (6, iv v19), (7, pt 6 0), (35, ag [iv p0, ownV 5 (List.length ((List.take (Int.toNat v19) p1) ++ (List.drop (Int.toNat (w64 (v19 + 1))) p1)))]), (36, pt 1 1), (37, sv 0 p1.length ANY), (38, iv v19), (39, .pointer (some ⟨0, 0 + (Int.toNat v19) * 4, none⟩)), (40, .pointer (some ⟨0, 0 + (Int.toNat v19) * 4, none⟩)), (41, ag [iv o45.1.1, .bool o45.1.2]), (42, ag [iv r47.1, .bool r47.2]), (43, pt 1 1), (44, sv 0 p1.length ANY), (45, iv v19), (46, .pointer (some ⟨0, 0 + (Int.toNat v19) * 4, none⟩)), (47, .pointer (some ⟨0, 0 + (Int.toNat v19) * 4 + 2, none⟩)), (48, ag [iv o45.2.1, .bool o45.2.2]), (49, ag [iv r49.1, .bool r49.2]), (50, sv 7 2 2)]) (H37_4 p1 p0 v20 v19 r47 r49) [(15, 7, 8)] []) 1 (QJ.dn ⟨rfl, (SJ.o { val := .bool r51, new := [] } (qOf_call (g := 60) (args := [ag [iv p0, ownV 5 (List.length ((List.take (Int.toNat v19) p1) ++ (List.drop (Int.toNat (w64 (v19 + 1))) p1)))], sv 7 2 2]) (by kernel_rfl) (lookC_skip (fun hg => absurd (show (76 : Nat) = 60 from hg) (by decide)) (lookC_skip (fun hg => absurd (show (76 : Nat) = 60 from hg) (by decide)) lookC_hit))) SJ.la)⟩))
   obtain ⟨m56, hm57, hF⟩ := of_do hF
   have hK : NX Try.prog 1 1 [.bk 1, .sq c37.s2.s2.s2.s2.s1.s2.bd.bd.s2.s2] (Rd Try.prog 1 1 c37.s2.s2.s2.s2.s1.s2.bd.bd (P37l0 p0 p1 r)) .normal (st 58 [(1, pt 1 0), (5, accV 2 m56.length), (6, iv v19)]) [ab 93 e93 p1, cl 30 [iv p0, sv 0 p1.length ANY], ab 3 e3 m56] := by
    refine NX.bk (NX.sq (TS.rg (TI.ra 3 [1, 5, 6] (st 58 [(1, pt 1 0), (5, accV 2 m56.length), (6, iv (w64 (v19 + 1)))]) (TI.dn ?_))))
    exact Rd.again (a2 := (st 58 [(1, pt 1 0), (5, accV 2 m56.length), (6, iv (w64 (v19 + 1)))])) (h2 := [ab 93 e93 p1, cl 30 [iv p0, sv 0 p1.length ANY], ab 3 e3 m56]) (Wk.an [1, 2] (.ac (.lt (.fl (.sl .nil)) (.ac (.nil _)))) [pt 1 0, accV 2 m56.length, iv (w64 (v19 + 1))] (.pp (.cons (Rn.acc (nl rfl) rfl) (.fl .nil)))) (ih m56 (w64 (v19 + 1)) _ hF)
   clear hF
   have hF := hm57
   clear hm57
   refine TS.start ?_
   refine TS.cd (.tmp 52) (!r51) (fun hc58 => ?_) (fun hc58 => ?_)
   · replace hF := of_pos hF hc58
     obtain ⟨hg59, hF⟩ := of_guard hF
     refine TS.rg (TI.rn 3 [1, 6, 53, 55] [0, 1, 2, 8] (st 58 [(1, pt 1 0), (6, iv v19), (53, accV 2 v20.length), (55, sv 8 1 1)]) [ab 93 e93 p1, cl 30 [iv p0, sv 0 p1.length ANY], ab 3 e3 v20, .dead, .dead, .dead, .dead, .dead, cl 3 [iv v19]] (TI.acc (l := v20) (b := 2) (ts := #[38, 38]) (e := 3) (bytes := 8) (z := iv 0) (y := sv 8 1 1) (ys := [v19]) (xs := List.flatMap e3 ([v19])) (m := 1) (s := 1) (enc := e3) (by kernel_rfl) (by kernel_rfl) (by decide) (by kernel_rfl) (by kernel_rfl) (by kernel_rfl) (by kernel_rfl) (by kernel_rfl) (by kernel_rfl) (by kernel_rfl) (by kernel_rfl) (fun _ => rfl) rfl rfl (by omega) [1, 6, 56] [0, 1, 9] (a2 := (st 58 [(1, pt 1 0), (6, iv v19), (56, sv 9 (List.length (v20 ++ [v19])) UNK)])) (h2 := [ab 93 e93 p1, cl 30 [iv p0, sv 0 p1.length ANY], .dead, .dead, .dead, .dead, .dead, .dead, .dead, .cells 3 (List.flatMap e3 (v20 ++ [v19]))]) (by kernel_rfl) (TI.ra 1 [1, 5, 6] (st 58 [(1, pt 1 0), (5, sv 9 (List.length (v20 ++ [v19])) UNK), (6, iv v19)]) (TI.dn ?_))))
     have hF := sj hF
     subst hF
     exact TS.weak (by exact (Wk.an [1, 9] (.ac (.lt (.fl (.sl .nil)) (.cons (At.accU (by kernel_rfl) rfl (fun _ => rfl)) (.nil _)))) [pt 1 0, sv 9 (List.length (v20 ++ [v19])) UNK, iv v19] (.pp (.cons (Rn.accU (nl rfl) rfl (by simp)) (.fl .nil))))) hK
   replace hF := of_neg hF hc58
   refine TS.sk ?_
   have hF := sj hF
   subst hF
   exact TS.weak (by exact (Wk.an [1, 2] (.ac (.lt (.fl (.sl .nil)) (.ac (.nil _)))) [pt 1 0, accV 2 v20.length, iv v19] (.pp (.cons (Rn.acc (nl rfl) rfl) (.fl .nil))))) hK
 replace hF := of_neg hF hc39
 refine TS.ex 0 (NX.sqX ?_)
 have hF := sj hF
 subst hF
 exact Rd.out (e := .exit 0) (by intro h; cases h) (And.intro rfl (Wk.an [2] (.ac (.ac (.nil _))) [accV 2 v20.length] (.cons (Rn.acc (nl rfl) rfl) .nil)))
theorem B37 (p0 : Int) (p1 : List ((Int × Bool) × (Int × Bool))) (r : (List Int) × Int) (hF : F37 p0 p1 = some r) : TS Try.prog 1 1 c37 (st 58 [(0, ag [iv p0, sv 0 p1.length ANY])]) [ab 93 e93 p1] (NX Try.prog 1 1 [] (FinP Try.prog Try.f37 1 (V37 1 r) (N37 1 r))) := by
 unfold F37 at hF
 refine TS.sq (TS.rg (TI.rn 3 [1] [0, 1] (st 58 [(1, pt 1 0)]) [ab 93 e93 p1, cl 30 [iv p0, sv 0 p1.length ANY]] (TI.dn (NX.sq (TS.sq ?_)))))
 obtain ⟨r1, h2, hF⟩ := of_do hF
 refine TS.rg (TI.ra 1 [1, 8] (st 58 [(1, pt 1 0), (8, ag [iv p0, sv 0 p1.length ANY])]) (TI.cp 27 [ag [iv p0, sv 0 p1.length ANY]] (iv r1) [] (PureSim.ren (hc := [ab 93 e93 p1]) (fun i => List.getD [(0, 0)] i (0, 0)) (C27 _ _ _ h2) (.ac (.nil _)) (.cons (Rn.agg' (.fl (.cons (Rn.any _ _ _ _ _ _ (nl rfl) rfl rfl (by decide)) .nil))) .nil) (.flat (by kernel_rfl)) newflat_nil) (TI.ra 1 [1, 4] (st 58 [(1, pt 1 0), (4, iv r1)]) (TI.dn (NX.sq (TS.sq (TS.sq (TS.rg ?_))))))))
 refine TI.ra 2 [1, 4, 11] (st 58 [(1, pt 1 0), (4, iv r1), (11, .bool (r1 != 0))]) (TI.dn (NX.sq ?_))
 refine TS.cd (.tmp 11) (r1 != 0) (fun hc3 => ?_) (fun hc3 => ?_)
 · replace hF := of_pos hF hc3
   refine TS.sq (TS.rg (TI.rn 3 [2, 3] [0] (st 58 [(2, .slice none 0 0), (3, iv r1)]) [ab 93 e93 p1, .dead] (TI.dn (NX.sq (TS.rt (NX.sqR ?_))))))
   have hF := sj hF
   subst hF
   exact ⟨.inr rfl, rfl, .tuple ⟨[.slice none 0 0, iv r1]⟩, by kernel_rfl, WkV.made (L := 1) (f := [2]) (by decide) (by decide) rfl (.cons At.accN (.nil _)) (Rn.tuple' (.cons Rn.accN (.fl .nil)))⟩
 replace hF := of_neg hF hc3
 refine TS.sk (NX.sq (TS.sq (TS.rg (TI.ra 1 [1, 5] (st 58 [(1, pt 1 0), (5, .slice none 0 0)]) (TI.dn (NX.sq (TS.sq (TS.sq ?_))))))))
 refine TS.rg (TI.ra 1 [1, 5, 6] (st 58 [(1, pt 1 0), (5, .slice none 0 0), (6, iv 0)]) (TI.dn (NX.sq (TS.bk 0 ?_))))
 obtain ⟨r60, h61, hF⟩ := of_do hF
 refine TS.lp (TL.weak (a2 := (st 58 [(1, pt 1 0), (5, accV 2 (List.length ([]))), (6, iv 0)])) (h2 := [ab 93 e93 p1, cl 30 [iv p0, sv 0 p1.length ANY], accB 3 (List.length ([])) (List.flatMap e3 ([]))]) (Wk.an [1, 2] (.ac (.lt (.fl (.sl .nil)) (.cons At.accN (.nil _)))) [pt 1 0, .slice none 0 0, iv 0] (.pp (.cons (Rn.accN) (.fl .nil)))) (TL.post (L37l0 p0 p1 ([]) 0 r60 h61) ?_))
 rintro e a1 h1 hp
 obtain ⟨rfl, hw⟩ := hp
 refine ⟨(st 58 [(5, accV 1 r60.length)]), [ab 93 e93 p1, ab 3 e3 r60], (NX.bkX (NX.sq (TS.sq (TS.rg (TI.ra 3 [2, 3] (st 58 [(2, accV 1 r60.length), (3, iv 0)]) (TI.dn (NX.sq (TS.rt ?_)))))))), hw⟩
 have hF := sj hF
 subst hF
 exact ⟨.inr rfl, rfl, .tuple ⟨[accV 1 r60.length, iv 0]⟩, by kernel_rfl, WkV.made (L := 1) (f := [1]) (by decide) (by decide) rfl (.ac (.nil _)) (Rn.tuple' (.cons (Rn.acc (nl rfl) rfl) (.fl .nil)))⟩
theorem C37 (p0 : Int) (p1 : List ((Int × Bool) × (Int × Bool))) (r : (List Int) × Int) (hF : F37 p0 p1 = some r) : PureSim Try.prog 37 [ag [iv p0, sv 0 p1.length ANY]] [ab 93 e93 p1] (V37 1 r) (N37 1 r) :=
 PureSim.of_Fin Try.func37 (c := c37) (by kernel_rfl) (by kernel_rfl) 1 rfl [0] [0] (by kernel_rfl) (B37 p0 p1 r hF)
noncomputable def c39 : Code := Try.f39.code
def S39_0 (p2 : List (Int × Bool)) (v89 v90 : Int) (r188 : List Bool) (v228 : Int) : CAct := (st 95 [(1, sv 1 p2.length ANY), (2, pt 2 0), (7, iv v89), (8, iv v90), (9, mkV 3 r188.length), (11, .bool false), (13, iv v228), (71, .bool (decide (v228 < (p2.length : Int)))), (74, .bool false), (75, .bool false), (76, undef), (77, undef), (78, undef), (79, undef), (80, undef), (81, undef), (82, undef), (83, undef), (84, undef), (85, undef), (86, undef), (87, undef), (88, undef)])
def H39_1 (p1 : List ((Int × Bool) × (Int × Bool))) (p2 : List (Int × Bool)) (p0 : Int) (v179 : List Bool) (v178 v90 : Int) : List Blk := [ab 93 e93 p1, ab 55 e55 p2, cl 30 [iv p0, sv 0 p1.length ANY], .cells 4 (List.flatMap e4 (List.set v179 (Int.toNat v178) ((and64 (shr64 v90 v178) 1) == 1)))]
def H39_2 (p1 : List ((Int × Bool) × (Int × Bool))) (p2 : List (Int × Bool)) (p0 : Int) : List Blk := [ab 93 e93 p1, ab 55 e55 p2, cl 30 [iv p0, sv 0 p1.length ANY], .cells 4 (List.flatMap e4 (List.replicate (Int.toNat p0) (false : Bool)))]
def H39_3 (p1 : List ((Int × Bool) × (Int × Bool))) (p2 : List (Int × Bool)) (p0 : Int) (v179 : List Bool) : List Blk := [ab 93 e93 p1, ab 55 e55 p2, cl 30 [iv p0, sv 0 p1.length ANY], .cells 4 (List.flatMap e4 v179)]
def H39_4 (p1 : List ((Int × Bool) × (Int × Bool))) (p2 : List (Int × Bool)) (p0 : Int) (r188 : List Bool) : List Blk := [ab 93 e93 p1, ab 55 e55 p2, cl 30 [iv p0, sv 0 p1.length ANY], .cells 4 (List.flatMap e4 r188)]
def S39_5 (p2 : List (Int × Bool)) (v89 v90 p0 : Int) : CAct := (st 95 [(1, sv 1 p2.length ANY), (2, pt 2 0), (7, iv v89), (8, iv v90), (9, mkV 3 (List.length (List.replicate (Int.toNat p0) (false : Bool)))), (10, iv 0)])
def H39_6 (p1 : List ((Int × Bool) × (Int × Bool))) (p2 : List (Int × Bool)) (p0 : Int) : List Blk := [ab 93 e93 p1, ab 55 e55 p2, cl 30 [iv p0, sv 0 p1.length ANY]]
def S39_7 (p2 : List (Int × Bool)) (v89 v90 : Int) (v179 : List Bool) (v178 : Int) : CAct := (st 95 [(1, sv 1 p2.length ANY), (2, pt 2 0), (7, iv v89), (8, iv v90), (9, mkV 3 v179.length), (10, iv v178)])
def H39_8 (p1 : List ((Int × Bool) × (Int × Bool))) (p2 : List (Int × Bool)) : List Blk := [ab 93 e93 p1, ab 55 e55 p2]
def F39l1 (p0 : Int) (p1 : List ((Int × Bool) × (Int × Bool))) (p2 : List (Int × Bool)) (v89 v90 v178 : Int) (v179 : List Bool) : Option (List Bool) :=
 if decide (v178 < p0) then
  if (0 : Int) ≤ v178 then
   if (0 : Int) ≤ v178 ∧ v178 < (v179.length : Int) then
    F39l1 p0 p1 p2 v89 v90 (w64 (v178 + 1)) (List.set v179 (Int.toNat v178) ((and64 (shr64 v90 v178) 1) == 1))
   else none
  else none
 else
  some v179
 partial_fixpoint
def F39l2 (p0 : Int) (p1 : List ((Int × Bool) × (Int × Bool))) (p2 : List (Int × Bool)) (r188 : List Bool) (v89 v90 : Int) (v196 : Bool) (v197 : Int) : Option Bool :=
 if decide (v197 < (p1.length : Int)) then
  (
   if v196 then
    if (0 : Int) ≤ v197 ∧ v197 < (p1.length : Int) then
     some (List.getD p1 (Int.toNat v197) ((0, false), (0, false))) >>= fun o210 =>
     F63 o210.1.1 o210.1.2 o210.2.1 o210.2.2 r188 >>= fun r212 =>
     some (r212)
    else none
   else
    some (false)
  : Option Bool) >>= fun m214 =>
  F39l2 p0 p1 p2 r188 v89 v90 m214 (w64 (v197 + 1))
 else
  some v196
 partial_fixpoint
def F39l3 (p0 : Int) (p1 : List ((Int × Bool) × (Int × Bool))) (p2 : List (Int × Bool)) (r188 : List Bool) (v89 v90 : Int) (v227 : Bool) (v228 : Int) : Option Bool :=
 if decide (v228 < (p2.length : Int)) then
  (
   if v227 then
    if (0 : Int) ≤ v228 ∧ v228 < (p2.length : Int) then
     some (List.getD p2 (Int.toNat v228) (0, false)) >>= fun o242 =>
     if (0 : Int) ≤ o242.1 ∧ o242.1 < (r188.length : Int) then
      some (List.getD r188 (Int.toNat o242.1) false) >>= fun o245 =>
      some (o245 == o242.2)
     else none
    else none
   else
    some (false)
  : Option Bool) >>= fun m247 =>
  F39l3 p0 p1 p2 r188 v89 v90 m247 (w64 (v228 + 1))
 else
  some v227
 partial_fixpoint
def F39l0 (p0 : Int) (p1 : List ((Int × Bool) × (Int × Bool))) (p2 : List (Int × Bool)) (v89 v90 : Int) : Option Int :=
 if (0 : Int) ≤ p0 then
  if decide (v90 < (shl64 1 p0)) then
   if (0 : Int) ≤ p0 ∧ p0 ≤ 1000000000 then
    F39l1 p0 p1 p2 v89 v90 0 (List.replicate (Int.toNat p0) (false : Bool)) >>= fun r188 =>
    F39l2 p0 p1 p2 r188 v89 v90 true 0 >>= fun r216 =>
    F39l3 p0 p1 p2 r188 v89 v90 r216 0 >>= fun r249 =>
    (
     if r249 then
      some (w64 (v89 + 1))
     else
      some v89
    : Option Int) >>= fun m253 =>
    F39l0 p0 p1 p2 m253 (w64 (v90 + 1))
   else none
  else
   some v89
 else none
 partial_fixpoint
def F39 (p0 : Int) (p1 : List ((Int × Bool) × (Int × Bool))) (p2 : List (Int × Bool)) : Option I2 :=
 F59 p0 p1 p2 >>= fun r1 =>
 (
  if r1 == 0 then
   some (decide (p0 > 14))
  else
   some (false)
 : Option Bool) >>= fun m4 =>
 (
  if m4 then
   some 16
  else
   some r1
 : Option Int) >>= fun m7 =>
 if m7 != 0 then
  some (0, m7)
 else
  F39l0 p0 p1 p2 0 0 >>= fun r255 =>
  some (r255, 0)
def V39 (b : Nat) (r : I2) : Value := .tuple ⟨[iv r.1, iv r.2]⟩
def N39 (b : Nat) (r : I2) : List Blk := []
def P39l1 (p0 : Int) (p1 : List ((Int × Bool) × (Int × Bool))) (p2 : List (Int × Bool)) (v89 v90 : Int) (r : List Bool) : Post := fun e a h => e = .exit 2 ∧ Wk Try.prog 2 2 a h (st 95 [(1, sv 1 p2.length ANY), (2, pt 2 0), (7, iv v89), (8, iv v90), (9, mkV 3 r.length)]) [ab 93 e93 p1, ab 55 e55 p2, cl 30 [iv p0, sv 0 p1.length ANY], .cells 4 (List.flatMap e4 r)]
theorem L39l1 (p0 : Int) (p1 : List ((Int × Bool) × (Int × Bool))) (p2 : List (Int × Bool)) (v89 v90 v178 : Int) (v179 r : List Bool) (hF : F39l1 p0 p1 p2 v89 v90 v178 v179 = some r) : TL Try.prog 2 2 c39.s2.s2.s2.s2.s2.s1.s2.bd.bd.s2.s1.bd.s2.s1.s2.bd.bd (S39_7 p2 v89 v90 v179 v178) (H39_3 p1 p2 p0 v179) (P39l1 p0 p1 p2 v89 v90 r) := by
 refine F39l1.partial_correctness p0 p1 p2 v89 v90 (motive := fun v178 v179 r => TL Try.prog 2 2 c39.s2.s2.s2.s2.s2.s1.s2.bd.bd.s2.s1.bd.s2.s1.s2.bd.bd (S39_7 p2 v89 v90 v179 v178) (H39_3 p1 p2 p0 v179) (P39l1 p0 p1 p2 v89 v90 r)) ?_ v178 v179 r hF
 clear hF r v178 v179
 intro again ih v178 v179 r hF
 refine TL.round (TS.sq (TS.sq (TS.rg (TI.ra 4 [1, 2, 7, 8, 9, 10, 40] (st 95 [(1, sv 1 p2.length ANY), (2, pt 2 0), (7, iv v89), (8, iv v90), (9, mkV 3 v179.length), (10, iv v178), (40, .bool (decide (v178 < p0)))]) (TI.dn (NX.sq ?_))))))
 refine TS.cd (.tmp 40) (decide (v178 < p0)) (fun hc185 => ?_) (fun hc185 => ?_)
 · replace hF := of_pos hF hc185
   refine TS.sk (NX.sq (TS.sq (TS.bk 3 ?_)))
   obtain ⟨hg186, hF⟩ := of_guard hF
   obtain ⟨hg187, hF⟩ := of_guard hF
   refine TS.rg (TI.ra 4 [1, 2, 7, 8, 9, 10, 43, 44, 45, 46] (st 95 [(1, sv 1 p2.length ANY), (2, pt 2 0), (7, iv v89), (8, iv v90), (9, mkV 3 v179.length), (10, iv v178), (43, mkV 3 v179.length), (44, iv v178), (45, iv v90), (46, iv v178)]) (TI.o { val := iv (shr64 v90 v178) } (q_shr (P := Try.prog) (ty := 3) (ox := (.tmp 45)) (oy := (.tmp 46)) (by kernel_rfl) hg186) [1, 2, 7, 8, 9, 10, 43, 44, 47] [0, 1, 2, 3] (st 95 [(1, sv 1 p2.length ANY), (2, pt 2 0), (7, iv v89), (8, iv v90), (9, mkV 3 v179.length), (10, iv v178), (43, mkV 3 v179.length), (44, iv v178), (47, iv (shr64 v90 v178))]) (H39_3 p1 p2 p0 v179) (TI.o { val := iv (and64 (shr64 v90 v178) 1) } (q_and (P := Try.prog) (ty := 3) (ox := (.tmp 47)) (oy := (.const (iv 1))) (by kernel_rfl)) [1, 2, 7, 8, 9, 10, 43, 44, 48] [0, 1, 2, 3] (st 95 [(1, sv 1 p2.length ANY), (2, pt 2 0), (7, iv v89), (8, iv v90), (9, mkV 3 v179.length), (10, iv v178), (43, mkV 3 v179.length), (44, iv v178), (48, iv (and64 (shr64 v90 v178) 1))]) (H39_3 p1 p2 p0 v179) (TI.ra 1 [1, 2, 7, 8, 9, 10, 43, 44, 49] (st 95 [(1, sv 1 p2.length ANY), (2, pt 2 0), (7, iv v89), (8, iv v90), (9, mkV 3 v179.length), (10, iv v178), (43, mkV 3 v179.length), (44, iv v178), (49, .bool ((and64 (shr64 v90 v178) 1) == 1))]) (TI.o { val := .pointer (some ⟨3, 0 + (Int.toNat v178) * 1, none⟩) } (q_ixS 3 0 ((Int.toNat v178) * 1) (by kernel_rfl) hg187) [1, 2, 7, 8, 9, 10, 49, 50] [0, 1, 2, 3] (st 95 [(1, sv 1 p2.length ANY), (2, pt 2 0), (7, iv v89), (8, iv v90), (9, mkV 3 v179.length), (10, iv v178), (49, .bool ((and64 (shr64 v90 v178) 1) == 1)), (50, .pointer (some ⟨3, 0 + (Int.toNat v178) * 1, none⟩))]) (H39_3 p1 p2 p0 v179) ?_)))))
   refine TI.o { val := undef, upd := some (3, .cells 4 (List.flatMap e4 (List.set v179 (Int.toNat v178) ((and64 (shr64 v90 v178) 1) == 1)))) } (q_stP Try.prog 2 (H39_3 p1 p2 p0 v179) 4 3 (0 + (Int.toNat v178) * 1) v179 e4 1 4 (Int.toNat v178) 0 1 (.bool ((and64 (shr64 v90 v178) 1) == 1)) [.bool ((and64 (shr64 v90 v178) 1) == 1)] false ((and64 (shr64 v90 v178) 1) == 1) (by first | omega | (simp <;> omega))) [1, 2, 7, 8, 9, 10] [0, 1, 2, 3] (S39_7 p2 v89 v90 v179 v178) (H39_1 p1 p2 p0 v179 v178 v90) (TI.dn (NX.bk (NX.sq (TS.rg (TI.ra 3 [1, 2, 7, 8, 9, 10] (st 95 [(1, sv 1 p2.length ANY), (2, pt 2 0), (7, iv v89), (8, iv v90), (9, mkV 3 v179.length), (10, iv (w64 (v178 + 1)))]) (TI.dn ?_))))))
   exact Rd.again (a2 := (st 95 [(1, sv 1 p2.length ANY), (2, pt 2 0), (7, iv v89), (8, iv v90), (9, mkV 3 (List.length (List.set v179 (Int.toNat v178) ((and64 (shr64 v90 v178) 1) == 1)))), (10, iv (w64 (v178 + 1)))])) (h2 := (H39_1 p1 p2 p0 v179 v178 v90)) (Wk.an [2, 3] (.ac (.ac (.lt (.fl (.sl .nil)) (.cons (At.blk (by kernel_rfl) (RnB.list (fun _ => rfl))) (.nil _))))) [sv 1 p2.length ANY, pt 2 0, iv v89, iv v90, mkV 3 v179.length, iv (w64 (v178 + 1))] (.sl (.pp (.fl (.fl (.cons (Rn.mk (nl rfl) rfl (by simp only [List.length_set])) (.fl .nil))))))) (ih (w64 (v178 + 1)) (List.set v179 (Int.toNat v178) ((and64 (shr64 v90 v178) 1) == 1)) _ hF)
 replace hF := of_neg hF hc185
 refine TS.ex 2 (NX.sqX ?_)
 have hF := sj hF
 subst hF
 exact Rd.out (e := .exit 2) (by intro h; cases h) (And.intro rfl (Wk.an [2, 3] (.ac (.ac (.lt (.fl (.sl .nil)) (.cons (At.blk (by kernel_rfl) (RnB.list (fun _ => rfl))) (.nil _))))) [sv 1 p2.length ANY, pt 2 0, iv v89, iv v90, mkV 3 v179.length] (.sl (.pp (.fl (.fl (.cons (Rn.mk (nl rfl) rfl (by simp only [List.length_set])) .nil)))))))
def P39l2 (p0 : Int) (p1 : List ((Int × Bool) × (Int × Bool))) (p2 : List (Int × Bool)) (r188 : List Bool) (v89 v90 : Int) (r : Bool) : Post := fun e a h => e = .exit 4 ∧ Wk Try.prog 2 2 a h (st 95 [(1, sv 1 p2.length ANY), (2, pt 2 0), (7, iv v89), (8, iv v90), (9, mkV 3 r188.length), (11, .bool r)]) (H39_4 p1 p2 p0 r188)
theorem L39l2 (p0 : Int) (p1 : List ((Int × Bool) × (Int × Bool))) (p2 : List (Int × Bool)) (r188 : List Bool) (v89 v90 : Int) (v196 : Bool) (v197 : Int) (r : Bool) (hF : F39l2 p0 p1 p2 r188 v89 v90 v196 v197 = some r) : TL Try.prog 2 2 c39.s2.s2.s2.s2.s2.s1.s2.bd.bd.s2.s1.bd.s2.s2.s2.s1.s2.bd.bd (st 95 [(1, sv 1 p2.length ANY), (2, pt 2 0), (7, iv v89), (8, iv v90), (9, mkV 3 r188.length), (11, .bool v196), (12, iv v197)]) (H39_4 p1 p2 p0 r188) (P39l2 p0 p1 p2 r188 v89 v90 r) := by
 refine F39l2.partial_correctness p0 p1 p2 r188 v89 v90 (motive := fun v196 v197 r => TL Try.prog 2 2 c39.s2.s2.s2.s2.s2.s1.s2.bd.bd.s2.s1.bd.s2.s2.s2.s1.s2.bd.bd (st 95 [(1, sv 1 p2.length ANY), (2, pt 2 0), (7, iv v89), (8, iv v90), (9, mkV 3 r188.length), (11, .bool v196), (12, iv v197)]) (H39_4 p1 p2 p0 r188) (P39l2 p0 p1 p2 r188 v89 v90 r)) ?_ v196 v197 r hF
 clear hF r v196 v197
 intro again ih v196 v197 r hF
 refine TL.round (TS.sq (TS.sq (TS.rg (TI.ra 5 [1, 2, 7, 8, 9, 11, 12, 55] (st 95 [(1, sv 1 p2.length ANY), (2, pt 2 0), (7, iv v89), (8, iv v90), (9, mkV 3 r188.length), (11, .bool v196), (12, iv v197), (55, .bool (decide (v197 < (p1.length : Int))))]) (TI.dn (NX.sq ?_))))))
 refine TS.cd (.tmp 55) (decide (v197 < (p1.length : Int))) (fun hc208 => ?_) (fun hc208 => ?_)
 · replace hF := of_pos hF hc208
   refine TS.sk (NX.sq (TS.sq (TS.bk 5 ?_)))
   obtain ⟨m214, hm215, hF⟩ := of_do hF
   have hK : NX Try.prog 2 2 [.bk 5, .sq c39.s2.s2.s2.s2.s2.s1.s2.bd.bd.s2.s1.bd.s2.s2.s2.s1.s2.bd.bd.s2.s2] (Rd Try.prog 2 2 c39.s2.s2.s2.s2.s2.s1.s2.bd.bd.s2.s1.bd.s2.s2.s2.s1.s2.bd.bd (P39l2 p0 p1 p2 r188 v89 v90 r)) .normal (st 95 [(1, sv 1 p2.length ANY), (2, pt 2 0), (7, iv v89), (8, iv v90), (9, mkV 3 r188.length), (11, .bool m214), (12, iv v197)]) (H39_4 p1 p2 p0 r188) := by
    refine NX.bk (NX.sq (TS.rg (TI.ra 3 [1, 2, 7, 8, 9, 11, 12] (st 95 [(1, sv 1 p2.length ANY), (2, pt 2 0), (7, iv v89), (8, iv v90), (9, mkV 3 r188.length), (11, .bool m214), (12, iv (w64 (v197 + 1)))]) (TI.dn ?_))))
    exact Rd.again (a2 := (st 95 [(1, sv 1 p2.length ANY), (2, pt 2 0), (7, iv v89), (8, iv v90), (9, mkV 3 r188.length), (11, .bool m214), (12, iv (w64 (v197 + 1)))])) (h2 := (H39_4 p1 p2 p0 r188)) (Wk.an [2, 3] (.ac (.ac (.lt (.fl (.sl .nil)) (.cons (At.blk (by kernel_rfl) (RnB.list (fun _ => rfl))) (.nil _))))) [sv 1 p2.length ANY, pt 2 0, iv v89, iv v90, mkV 3 r188.length, .bool m214, iv (w64 (v197 + 1))] (.sl (.pp (.fl (.fl (.cons (Rn.mk (nl rfl) rfl (by simp only [List.length_set])) (.fl (.fl .nil)))))))) (ih m214 (w64 (v197 + 1)) _ hF)
   cases v196 with
   | true =>
    replace hm215 := of_pos hm215 rfl
    have hX := of_guard hm215
    clear hm215
    obtain ⟨hg209, hm215⟩ := hX
    have hX := of_do hm215
    clear hm215
    obtain ⟨o210, h211, hm215⟩ := hX
    replace h211 := sj h211
    have hX := of_do hm215
    clear hm215
    obtain ⟨r212, h213, hm215⟩ := hX
    have hm215 := sj hm215
    subst hm215
    exact TS.rg (TI.ra 5 [1, 2, 7, 8, 9, 12, 59, 61, 62] (st 95 [(1, sv 1 p2.length ANY), (2, pt 2 0), (7, iv v89), (8, iv v90), (9, mkV 3 r188.length), (12, iv v197), (59, .bool true), (61, sv 0 p1.length ANY), (62, iv v197)]) (TI.o { val := .pointer (some ⟨0, 0 + (Int.toNat v197) * 4, none⟩) } (q_ixS 0 0 ((Int.toNat v197) * 4) (by kernel_rfl) hg209) [1, 2, 7, 8, 9, 12, 59, 63] [0, 1, 2, 3] (st 95 [(1, sv 1 p2.length ANY), (2, pt 2 0), (7, iv v89), (8, iv v90), (9, mkV 3 r188.length), (12, iv v197), (59, .bool true), (63, .pointer (some ⟨0, 0 + (Int.toNat v197) * 4, none⟩))]) (H39_4 p1 p2 p0 r188) (TI.o { val := ag [iv o210.1.1, .bool o210.1.2, iv o210.2.1, .bool o210.2.2] } (q_nAa Try.prog (H39_4 p1 p2 p0 r188) 93 0 (0 + (Int.toNat v197) * 4) p1 e93 4 93 (Int.toNat v197) ((0, false), (0, false)) h211) [1, 2, 7, 8, 9, 12, 59, 64] [0, 1, 2, 3] (st 95 [(1, sv 1 p2.length ANY), (2, pt 2 0), (7, iv v89), (8, iv v90), (9, mkV 3 r188.length), (12, iv v197), (59, .bool true), (64, ag [iv o210.1.1, .bool o210.1.2, iv o210.2.1, .bool o210.2.2])]) (H39_4 p1 p2 p0 r188) (TI.ra 1 [1, 2, 7, 8, 9, 12, 59, 64, 65] (st 95 [(1, sv 1 p2.length ANY), (2, pt 2 0), (7, iv v89), (8, iv v90), (9, mkV 3 r188.length), (12, iv v197), (59, .bool true), (64, ag [iv o210.1.1, .bool o210.1.2, iv o210.2.1, .bool o210.2.2]), (65, mkV 3 r188.length)]) (TI.cp 63 [ag [iv o210.1.1, .bool o210.1.2, iv o210.2.1, .bool o210.2.2], mkV 3 r188.length] (.bool r212) [] (PureSim.ren (hc := [ab 4 e4 r188]) (fun i => List.getD [(3, 0)] i (0, 0)) (C63 _ _ _ _ _ _ h213) (.cons (At.accU (by kernel_rfl) rfl (fun _ => rfl)) (.nil _)) (.fl (.cons (Rn.mkA (i' := 3) (nl rfl) rfl (by simp only [List.length_set])) .nil)) (.flat (by kernel_rfl)) newflat_nil) (TI.ra 2 [1, 2, 7, 8, 9, 11, 12] (st 95 [(1, sv 1 p2.length ANY), (2, pt 2 0), (7, iv v89), (8, iv v90), (9, mkV 3 r188.length), (11, .bool r212), (12, iv v197)]) (TI.dn hK)))))))
   | false =>
    replace hm215 := of_neg hm215 rfl
    have hm215 := sj hm215
    subst hm215
    exact TS.rg (TI.ra 11 [1, 2, 7, 8, 9, 11, 12] (st 95 [(1, sv 1 p2.length ANY), (2, pt 2 0), (7, iv v89), (8, iv v90), (9, mkV 3 r188.length), (11, .bool false), (12, iv v197)]) (TI.dn hK))
 replace hF := of_neg hF hc208
 refine TS.ex 4 (NX.sqX ?_)
 have hF := sj hF
 subst hF
 exact Rd.out (e := .exit 4) (by intro h; cases h) (And.intro rfl (Wk.an [2, 3] (.ac (.ac (.lt (.fl (.sl .nil)) (.cons (At.blk (by kernel_rfl) (RnB.list (fun _ => rfl))) (.nil _))))) [sv 1 p2.length ANY, pt 2 0, iv v89, iv v90, mkV 3 r188.length, .bool v196] (.sl (.pp (.fl (.fl (.cons (Rn.mk (nl rfl) rfl (by simp only [List.length_set])) (.fl .nil))))))))
def P39l3 (p0 : Int) (p1 : List ((Int × Bool) × (Int × Bool))) (p2 : List (Int × Bool)) (r188 : List Bool) (v89 v90 : Int) (r : Bool) : Post := fun e a h => e = .exit 6 ∧ Wk Try.prog 2 2 a h (st 95 [(1, sv 1 p2.length ANY), (2, pt 2 0), (7, iv v89), (8, iv v90), (11, .bool r)]) (H39_6 p1 p2 p0)
theorem L39l3 (p0 : Int) (p1 : List ((Int × Bool) × (Int × Bool))) (p2 : List (Int × Bool)) (r188 : List Bool) (v89 v90 : Int) (v227 : Bool) (v228 : Int) (r : Bool) (hF : F39l3 p0 p1 p2 r188 v89 v90 v227 v228 = some r) : TL Try.prog 2 2 c39.s2.s2.s2.s2.s2.s1.s2.bd.bd.s2.s1.bd.s2.s2.s2.s2.s1.s2.bd.bd (st 95 [(1, sv 1 p2.length ANY), (2, pt 2 0), (7, iv v89), (8, iv v90), (9, mkV 3 r188.length), (11, .bool v227), (13, iv v228)]) (H39_4 p1 p2 p0 r188) (P39l3 p0 p1 p2 r188 v89 v90 r) := by
 refine F39l3.partial_correctness p0 p1 p2 r188 v89 v90 (motive := fun v227 v228 r => TL Try.prog 2 2 c39.s2.s2.s2.s2.s2.s1.s2.bd.bd.s2.s1.bd.s2.s2.s2.s2.s1.s2.bd.bd (st 95 [(1, sv 1 p2.length ANY), (2, pt 2 0), (7, iv v89), (8, iv v90), (9, mkV 3 r188.length), (11, .bool v227), (13, iv v228)]) (H39_4 p1 p2 p0 r188) (P39l3 p0 p1 p2 r188 v89 v90 r)) ?_ v227 v228 r hF
 clear hF r v227 v228
 intro again ih v227 v228 r hF
 refine TL.round (TS.sq (TS.sq (TS.rg (TI.ra 4 [1, 2, 7, 8, 9, 11, 13, 71] (st 95 [(1, sv 1 p2.length ANY), (2, pt 2 0), (7, iv v89), (8, iv v90), (9, mkV 3 r188.length), (11, .bool v227), (13, iv v228), (71, .bool (decide (v228 < (p2.length : Int))))]) (TI.dn (NX.sq ?_))))))
 refine TS.cd (.tmp 71) (decide (v228 < (p2.length : Int))) (fun hc240 => ?_) (fun hc240 => ?_)
 · replace hF := of_pos hF hc240
   refine TS.sk (NX.sq (TS.sq (TS.bk 7 ?_)))
   obtain ⟨m247, hm248, hF⟩ := of_do hF
   have hK : NX Try.prog 2 2 [.bk 7, .sq c39.s2.s2.s2.s2.s2.s1.s2.bd.bd.s2.s1.bd.s2.s2.s2.s2.s1.s2.bd.bd.s2.s2] (Rd Try.prog 2 2 c39.s2.s2.s2.s2.s2.s1.s2.bd.bd.s2.s1.bd.s2.s2.s2.s2.s1.s2.bd.bd (P39l3 p0 p1 p2 r188 v89 v90 r)) .normal (st 95 [(1, sv 1 p2.length ANY), (2, pt 2 0), (7, iv v89), (8, iv v90), (9, mkV 3 r188.length), (11, .bool m247), (13, iv v228)]) (H39_4 p1 p2 p0 r188) := by
    refine NX.bk (NX.sq (TS.rg (TI.ra 3 [1, 2, 7, 8, 9, 11, 13] (st 95 [(1, sv 1 p2.length ANY), (2, pt 2 0), (7, iv v89), (8, iv v90), (9, mkV 3 r188.length), (11, .bool m247), (13, iv (w64 (v228 + 1)))]) (TI.dn ?_))))
    exact Rd.again (a2 := (st 95 [(1, sv 1 p2.length ANY), (2, pt 2 0), (7, iv v89), (8, iv v90), (9, mkV 3 r188.length), (11, .bool m247), (13, iv (w64 (v228 + 1)))])) (h2 := (H39_4 p1 p2 p0 r188)) (Wk.an [2, 3] (.ac (.ac (.lt (.fl (.sl .nil)) (.cons (At.blk (by kernel_rfl) (RnB.list (fun _ => rfl))) (.nil _))))) [sv 1 p2.length ANY, pt 2 0, iv v89, iv v90, mkV 3 r188.length, .bool m247, iv (w64 (v228 + 1))] (.sl (.pp (.fl (.fl (.cons (Rn.mk (nl rfl) rfl (by simp only [List.length_set])) (.fl (.fl .nil)))))))) (ih m247 (w64 (v228 + 1)) _ hF)
   cases v227 with
   | true =>
    replace hm248 := of_pos hm248 rfl
    have hX := of_guard hm248
    clear hm248
    obtain ⟨hg241, hm248⟩ := hX
    have hX := of_do hm248
    clear hm248
    obtain ⟨o242, h243, hm248⟩ := hX
    replace h243 := sj h243
    have hX := of_guard hm248
    clear hm248
    obtain ⟨hg244, hm248⟩ := hX
    have hX := of_do hm248
    clear hm248
    obtain ⟨o245, h246, hm248⟩ := hX
    replace h246 := sj h246
    have hm248 := sj hm248
    subst hm248
    refine TS.drawT [] (fun e he => by cases he) mixed 15 [] (st 95 [(1, sv 1 p2.length ANY), (2, pt 2 0), (7, iv v89), (8, iv v90), (9, mkV 3 r188.length), (11, .bool true), (13, iv v228), (71, .bool (decide (v228 < (p2.length : Int)))), (74, .bool true), (75, .bool true), (76, mkV 3 r188.length), (77, sv 1 p2.length ANY), (78, iv v228), (79, .pointer (some ⟨1, 0 + (Int.toNat v228) * 2, none⟩)), (80, .pointer (some ⟨1, 0 + (Int.toNat v228) * 2, none⟩)), (81, iv o242.1), (82, .pointer (some ⟨3, 0 + (Int.toNat o242.1) * 1, none⟩)), (83, .bool o245), (84, sv 1 p2.length ANY), (85, iv v228), (86, .pointer (some ⟨1, 0 + (Int.toNat v228) * 2, none⟩)), (87, .pointer (some ⟨1, 0 + (Int.toNat v228) * 2 + 1, none⟩)), (88, .bool o242.2)]) (H39_4 p1 p2 p0 r188) ?_ ?_
    · refine QJ.rn (qs (st 95 [(1, sv 1 p2.length ANY), (2, pt 2 0), (7, iv v89), (8, iv v90), (9, mkV 3 r188.length), (11, .bool true), (13, iv v228), (71, .bool (decide (v228 < (p2.length : Int)))), (74, .bool true), (75, .bool true), (76, mkV 3 r188.length), (77, sv 1 p2.length ANY), (78, iv v228)]) (H39_4 p1 p2 p0 r188) [] []) 5 (QJ.o { val := .pointer (some ⟨1, 0 + (Int.toNat v228) * 2, none⟩) } (q_ixS 1 0 ((Int.toNat v228) * 2) (by kernel_rfl) hg241) (QJ.rn (qs (st 95 [(1, sv 1 p2.length ANY), (2, pt 2 0), (7, iv v89), (8, iv v90), (9, mkV 3 r188.length), (11, .bool true), (13, iv v228), (71, .bool (decide (v228 < (p2.length : Int)))), (74, .bool true), (75, .bool true), (76, mkV 3 r188.length), (77, sv 1 p2.length ANY), (78, iv v228), (79, .pointer (some ⟨1, 0 + (Int.toNat v228) * 2, none⟩)), (80, .pointer (some ⟨1, 0 + (Int.toNat v228) * 2, none⟩))]) (H39_4 p1 p2 p0 r188) [] []) 1 (QJ.o { val := iv o242.1 } (q_n1a Try.prog (H39_4 p1 p2 p0 r188) 3 1 (0 + (Int.toNat v228) * 2) p2 e55 2 55 (Int.toNat v228) 0 (0, false) h243) (QJ.o { val := .pointer (some ⟨3, 0 + (Int.toNat o242.1) * 1, none⟩) } (q_ixS 3 0 ((Int.toNat o242.1) * 1) (by kernel_rfl) hg244) (QJ.o { val := .bool o245 } (q_n1 Try.prog (H39_4 p1 p2 p0 r188) 4 3 (0 + (Int.toNat o242.1) * 1) r188 e4 1 4 (Int.toNat o242.1) 0 false h246) (QJ.rn (qs (st 95 [(1, sv 1 p2.length ANY), (2, pt 2 0), (7, iv v89), (8, iv v90), (9, mkV 3 r188.length), (11, .bool true), (13, iv v228), (71, .bool (decide (v228 < (p2.length : Int)))), (74, .bool true), (75, .bool true), (76, mkV 3 r188.length), (77, sv 1 p2.length ANY), (78, iv v228), (79, .pointer (some ⟨1, 0 + (Int.toNat v228) * 2, none⟩)), (80, .pointer (some ⟨1, 0 + (Int.toNat v228) * 2, none⟩)), (81, iv o242.1), (82, .pointer (some ⟨3, 0 + (Int.toNat o242.1) * 1, none⟩)), (83, .bool o245), (84, sv 1 p2.length ANY), (85, iv v228)]) (H39_4 p1 p2 p0 r188) [] []) 2 (QJ.o { val := .pointer (some ⟨1, 0 + (Int.toNat v228) * 2, none⟩) } (q_ixS 1 0 ((Int.toNat v228) * 2) (by kernel_rfl) hg241) (QJ.rn (qs (st 95 [(1, sv 1 p2.length ANY), (2, pt 2 0), (7, iv v89), (8, iv v90), (9, mkV 3 r188.length), (11, .bool true), (13, iv v228), (71, .bool (decide (v228 < (p2.length : Int)))), (74, .bool true), (75, .bool true), (76, mkV 3 r188.length), (77, sv 1 p2.length ANY), (78, iv v228), (79, .pointer (some ⟨1, 0 + (Int.toNat v228) * 2, none⟩)), (80, .pointer (some ⟨1, 0 + (Int.toNat v228) * 2, none⟩)), (81, iv o242.1), (82, .pointer (some ⟨3, 0 + (Int.toNat o242.1) * 1, none⟩)), (83, .bool o245), (84, sv 1 p2.length ANY), (85, iv v228), (86, .pointer (some ⟨1, 0 + (Int.toNat v228) * 2, none⟩)), (87, .pointer (some ⟨1, 0 + (Int.toNat v228) * 2 + 1, none⟩))]) (H39_4 p1 p2 p0 r188) [] []) 1 ?_))))))))
      exact QJ.o { val := .bool o242.2 } (q_n1a Try.prog (H39_4 p1 p2 p0 r188) 4 1 (0 + (Int.toNat v228) * 2 + 1) p2 e55 2 55 (Int.toNat v228) 1 (0, false) h243) (QJ.dn ⟨by kernel_rfl, by kernel_rfl, by kernel_rfl⟩)
    exact TI.rn 0 [1, 2, 7, 8, 9, 13, 75, 83, 88] [0, 1, 2, 3] (st 95 [(1, sv 1 p2.length ANY), (2, pt 2 0), (7, iv v89), (8, iv v90), (9, mkV 3 r188.length), (13, iv v228), (75, .bool true), (83, .bool o245), (88, .bool o242.2)]) (H39_4 p1 p2 p0 r188) (TI.ra 3 [1, 2, 7, 8, 9, 11, 13] (st 95 [(1, sv 1 p2.length ANY), (2, pt 2 0), (7, iv v89), (8, iv v90), (9, mkV 3 r188.length), (11, .bool (o245 == o242.2)), (13, iv v228)]) (TI.dn hK))
   | false =>
    replace hm248 := of_neg hm248 rfl
    have hm248 := sj hm248
    subst hm248
    refine TS.drawT [] (fun e he => by cases he) mixed 15 [] (S39_0 p2 v89 v90 r188 v228) (H39_4 p1 p2 p0 r188) ?_ ?_
    · exact QJ.rn (qs (S39_0 p2 v89 v90 r188 v228) (H39_4 p1 p2 p0 r188) [] []) 15 (QJ.dn ⟨by kernel_rfl, by kernel_rfl, by kernel_rfl⟩)
    exact TI.rn 0 [1, 2, 7, 8, 9, 13, 75, 83, 88] [0, 1, 2, 3] (st 95 [(1, sv 1 p2.length ANY), (2, pt 2 0), (7, iv v89), (8, iv v90), (9, mkV 3 r188.length), (13, iv v228), (75, .bool false), (83, undef), (88, undef)]) (H39_4 p1 p2 p0 r188) (TI.ra 3 [1, 2, 7, 8, 9, 11, 13] (st 95 [(1, sv 1 p2.length ANY), (2, pt 2 0), (7, iv v89), (8, iv v90), (9, mkV 3 r188.length), (11, .bool false), (13, iv v228)]) (TI.dn hK))
 replace hF := of_neg hF hc240
 refine TS.ex 6 (NX.sqX ?_)
 have hF := sj hF
 subst hF
 exact Rd.out (e := .exit 6) (by intro h; cases h) (And.intro rfl (Wk.an [2] (.ac (.ac (.lt (.fl (.sl .nil)) (.nil _)))) [sv 1 p2.length ANY, pt 2 0, iv v89, iv v90, .bool v227] (.sl (.pp (.fl (.fl (.fl .nil)))))))
def P39l0 (p0 : Int) (p1 : List ((Int × Bool) × (Int × Bool))) (p2 : List (Int × Bool)) (r : Int) : Post := fun e a h => e = .exit 0 ∧ Wk Try.prog 2 2 a h (st 95 [(7, iv r)]) (H39_8 p1 p2)
theorem L39l0 (p0 : Int) (p1 : List ((Int × Bool) × (Int × Bool))) (p2 : List (Int × Bool)) (v89 v90 r : Int) (hF : F39l0 p0 p1 p2 v89 v90 = some r) : TL Try.prog 2 2 c39.s2.s2.s2.s2.s2.s1.s2.bd.bd (st 95 [(1, sv 1 p2.length ANY), (2, pt 2 0), (7, iv v89), (8, iv v90)]) (H39_6 p1 p2 p0) (P39l0 p0 p1 p2 r) := by
 refine F39l0.partial_correctness p0 p1 p2 (motive := fun v89 v90 r => TL Try.prog 2 2 c39.s2.s2.s2.s2.s2.s1.s2.bd.bd (st 95 [(1, sv 1 p2.length ANY), (2, pt 2 0), (7, iv v89), (8, iv v90)]) (H39_6 p1 p2 p0) (P39l0 p0 p1 p2 r)) ?_ v89 v90 r hF
 clear hF r v89 v90
 intro again ih v89 v90 r hF
 refine TL.round (TS.sq (TS.sq ?_))
 obtain ⟨hg171, hF⟩ := of_guard hF
 refine TS.rg (TI.ra 3 [1, 2, 7, 8, 27, 29] (st 95 [(1, sv 1 p2.length ANY), (2, pt 2 0), (7, iv v89), (8, iv v90), (27, iv v90), (29, iv p0)]) (TI.o { val := iv (shl64 1 p0) } (q_shl (P := Try.prog) (ty := 3) (ox := (.const (iv 1))) (oy := (.tmp 29)) (by kernel_rfl) hg171) [1, 2, 7, 8, 27, 30] [0, 1, 2] (st 95 [(1, sv 1 p2.length ANY), (2, pt 2 0), (7, iv v89), (8, iv v90), (27, iv v90), (30, iv (shl64 1 p0))]) (H39_6 p1 p2 p0) (TI.ra 1 [1, 2, 7, 8, 31] (st 95 [(1, sv 1 p2.length ANY), (2, pt 2 0), (7, iv v89), (8, iv v90), (31, .bool (decide (v90 < (shl64 1 p0))))]) (TI.dn (NX.sq ?_)))))
 refine TS.cd (.tmp 31) (decide (v90 < (shl64 1 p0))) (fun hc173 => ?_) (fun hc173 => ?_)
 · replace hF := of_pos hF hc173
   refine TS.sk (NX.sq (TS.sq (TS.bk 1 (TS.sq ?_))))
   obtain ⟨hg174, hF⟩ := of_guard hF
   refine TS.rg (TI.ra 2 [1, 2, 7, 8, 35] (st 95 [(1, sv 1 p2.length ANY), (2, pt 2 0), (7, iv v89), (8, iv v90), (35, iv p0)]) (TI.o { val := mkV 3 (List.length (List.replicate (Int.toNat p0) (false : Bool))), new := [.cells 4 (List.flatMap e4 (List.replicate (Int.toNat p0) (false : Bool)))] } (q_make (P := Try.prog) (n := 3) (t := 26) (enc := e4) (s := 1) (e := 4) (y := p0) (z := .bool false) (bytes := 1) (false : Bool) (by kernel_rfl) (by kernel_rfl) (by kernel_rfl) (by kernel_rfl) (by kernel_rfl) (by kernel_rfl) rfl hg174 (by decide)) [1, 2, 7, 8, 36] [0, 1, 2, 3] (st 95 [(1, sv 1 p2.length ANY), (2, pt 2 0), (7, iv v89), (8, iv v90), (36, mkV 3 (List.length (List.replicate (Int.toNat p0) (false : Bool))))]) (H39_2 p1 p2 p0) (TI.ra 1 [1, 2, 7, 8, 9] (st 95 [(1, sv 1 p2.length ANY), (2, pt 2 0), (7, iv v89), (8, iv v90), (9, mkV 3 (List.length (List.replicate (Int.toNat p0) (false : Bool))))]) (TI.dn (NX.sq (TS.sq (TS.sq (TS.rg ?_))))))))
   refine TI.ra 1 [1, 2, 7, 8, 9, 10] (S39_5 p2 v89 v90 p0) (TI.dn (NX.sq (TS.bk 2 ?_)))
   obtain ⟨r188, h189, hF⟩ := of_do hF
   refine TS.lp (TL.weak (a2 := (S39_5 p2 v89 v90 p0)) (h2 := (H39_2 p1 p2 p0)) (Wk.an [2, 3] (.ac (.ac (.lt (.fl (.sl .nil)) (.cons (At.blk (by kernel_rfl) (RnB.list (fun _ => rfl))) (.nil _))))) [sv 1 p2.length ANY, pt 2 0, iv v89, iv v90, mkV 3 (List.length (List.replicate (Int.toNat p0) (false : Bool))), iv 0] (.sl (.pp (.fl (.fl (.cons (Rn.mk (nl rfl) rfl (by simp only [List.length_set])) (.fl .nil))))))) (TL.post (L39l1 p0 p1 p2 v89 v90 0 (List.replicate (Int.toNat p0) (false : Bool)) r188 h189) ?_))
   rintro e a1 h1 hp
   obtain ⟨rfl, hw⟩ := hp
   refine ⟨(st 95 [(1, sv 1 p2.length ANY), (2, pt 2 0), (7, iv v89), (8, iv v90), (9, mkV 3 r188.length)]), (H39_4 p1 p2 p0 r188), (NX.bkX (NX.sq (TS.sq (TS.rg (TI.ra 1 [1, 2, 7, 8, 9, 11] (st 95 [(1, sv 1 p2.length ANY), (2, pt 2 0), (7, iv v89), (8, iv v90), (9, mkV 3 r188.length), (11, .bool true)]) (TI.dn (NX.sq (TS.sq ?_)))))))), hw⟩
   refine TS.sq (TS.rg (TI.ra 1 [1, 2, 7, 8, 9, 11, 12] (st 95 [(1, sv 1 p2.length ANY), (2, pt 2 0), (7, iv v89), (8, iv v90), (9, mkV 3 r188.length), (11, .bool true), (12, iv 0)]) (TI.dn (NX.sq (TS.bk 4 ?_)))))
   obtain ⟨r216, h217, hF⟩ := of_do hF
   refine TS.lp (TL.weak (a2 := (st 95 [(1, sv 1 p2.length ANY), (2, pt 2 0), (7, iv v89), (8, iv v90), (9, mkV 3 r188.length), (11, .bool true), (12, iv 0)])) (h2 := (H39_4 p1 p2 p0 r188)) (Wk.an [2, 3] (.ac (.ac (.lt (.fl (.sl .nil)) (.cons (At.blk (by kernel_rfl) (RnB.list (fun _ => rfl))) (.nil _))))) [sv 1 p2.length ANY, pt 2 0, iv v89, iv v90, mkV 3 r188.length, .bool true, iv 0] (.sl (.pp (.fl (.fl (.cons (Rn.mk (nl rfl) rfl (by simp only [List.length_set])) (.fl (.fl .nil)))))))) (TL.post (L39l2 p0 p1 p2 r188 v89 v90 true 0 r216 h217) ?_))
   rintro e a1 h1 hp
   obtain ⟨rfl, hw⟩ := hp
   refine ⟨(st 95 [(1, sv 1 p2.length ANY), (2, pt 2 0), (7, iv v89), (8, iv v90), (9, mkV 3 r188.length), (11, .bool r216)]), (H39_4 p1 p2 p0 r188), (NX.bkX (NX.sq (TS.sq (TS.sq (TS.rg (TI.ra 1 [1, 2, 7, 8, 9, 11, 13] (st 95 [(1, sv 1 p2.length ANY), (2, pt 2 0), (7, iv v89), (8, iv v90), (9, mkV 3 r188.length), (11, .bool r216), (13, iv 0)]) (TI.dn (NX.sq ?_)))))))), hw⟩
   refine TS.bk 6 ?_
   obtain ⟨r249, h250, hF⟩ := of_do hF
   refine TS.lp (TL.weak (a2 := (st 95 [(1, sv 1 p2.length ANY), (2, pt 2 0), (7, iv v89), (8, iv v90), (9, mkV 3 r188.length), (11, .bool r216), (13, iv 0)])) (h2 := (H39_4 p1 p2 p0 r188)) (Wk.an [2, 3] (.ac (.ac (.lt (.fl (.sl .nil)) (.cons (At.blk (by kernel_rfl) (RnB.list (fun _ => rfl))) (.nil _))))) [sv 1 p2.length ANY, pt 2 0, iv v89, iv v90, mkV 3 r188.length, .bool r216, iv 0] (.sl (.pp (.fl (.fl (.cons (Rn.mk (nl rfl) rfl (by simp only [List.length_set])) (.fl (.fl .nil)))))))) (TL.post (L39l3 p0 p1 p2 r188 v89 v90 r216 0 r249 h250) ?_))
   rintro e a1 h1 hp
   obtain ⟨rfl, hw⟩ := hp
   refine ⟨(st 95 [(1, sv 1 p2.length ANY), (2, pt 2 0), (7, iv v89), (8, iv v90), (11, .bool r249)]), (H39_6 p1 p2 p0), (NX.bkX (NX.sq (TS.sq (TS.rg (TI.ra 1 [1, 2, 7, 8, 91] (st 95 [(1, sv 1 p2.length ANY), (2, pt 2 0), (7, iv v89), (8, iv v90), (91, .bool r249)]) (TI.dn (NX.sq ?_))))))), hw⟩
   obtain ⟨m253, hm254, hF⟩ := of_do hF
   have hK : NX Try.prog 2 2 [.bk 1, .sq c39.s2.s2.s2.s2.s2.s1.s2.bd.bd.s2.s2] (Rd Try.prog 2 2 c39.s2.s2.s2.s2.s2.s1.s2.bd.bd (P39l0 p0 p1 p2 r)) .normal (st 95 [(1, sv 1 p2.length ANY), (2, pt 2 0), (7, iv m253), (8, iv v90)]) (H39_6 p1 p2 p0) := by
    refine NX.bk (NX.sq (TS.rg (TI.ra 3 [1, 2, 7, 8] (st 95 [(1, sv 1 p2.length ANY), (2, pt 2 0), (7, iv m253), (8, iv (w64 (v90 + 1)))]) (TI.dn ?_))))
    exact Rd.again (a2 := (st 95 [(1, sv 1 p2.length ANY), (2, pt 2 0), (7, iv m253), (8, iv (w64 (v90 + 1)))])) (h2 := (H39_6 p1 p2 p0)) (Wk.an [2] (.ac (.ac (.lt (.fl (.sl .nil)) (.nil _)))) [sv 1 p2.length ANY, pt 2 0, iv m253, iv (w64 (v90 + 1))] (.sl (.pp (.fl (.fl .nil))))) (ih m253 (w64 (v90 + 1)) _ hF)
   clear hF
   have hF := hm254
   clear hm254
   refine TS.start ?_
   cases r249 with
   | true =>
    replace hF := of_pos hF rfl
    refine TS.cdT (.tmp 91) (TS.rg (TI.ra 3 [1, 2, 7, 8] (st 95 [(1, sv 1 p2.length ANY), (2, pt 2 0), (7, iv (w64 (v89 + 1))), (8, iv v90)]) (TI.dn ?_)))
    have hF := sj hF
    subst hF
    exact TS.weak (by exact (Wk.an [2] (.ac (.ac (.lt (.fl (.sl .nil)) (.nil _)))) [sv 1 p2.length ANY, pt 2 0, iv (w64 (v89 + 1)), iv v90] (.sl (.pp (.fl (.fl .nil)))))) hK
   | false =>
    replace hF := of_neg hF rfl
    refine TS.cdF (.tmp 91) (TS.sk ?_)
    have hF := sj hF
    subst hF
    exact TS.weak (by exact (Wk.an [2] (.ac (.ac (.lt (.fl (.sl .nil)) (.nil _)))) [sv 1 p2.length ANY, pt 2 0, iv v89, iv v90] (.sl (.pp (.fl (.fl .nil)))))) hK
 replace hF := of_neg hF hc173
 refine TS.ex 0 (NX.sqX ?_)
 have hF := sj hF
 subst hF
 exact Rd.out (e := .exit 0) (by intro h; cases h) (And.intro rfl (Wk.an [] (.ac (.ac (.nil _))) [iv v89] (.fl .nil)))
theorem B39 (p0 : Int) (p1 : List ((Int × Bool) × (Int × Bool))) (p2 : List (Int × Bool)) (r : I2) (hF : F39 p0 p1 p2 = some r) : TS Try.prog 2 2 c39 (st 95 [(0, ag [iv p0, sv 0 p1.length ANY]), (1, sv 1 p2.length ANY)]) (H39_8 p1 p2) (NX Try.prog 2 2 [] (FinP Try.prog Try.f39 2 (V39 2 r) (N39 2 r))) := by
 unfold F39 at hF
 refine TS.sq (TS.rg (TI.rn 3 [1, 2] [0, 1, 2] (st 95 [(1, sv 1 p2.length ANY), (2, pt 2 0)]) (H39_6 p1 p2 p0) (TI.dn (NX.sq (TS.sq ?_)))))
 obtain ⟨r1, h2, hF⟩ := of_do hF
 refine TS.rg (TI.ra 2 [1, 2, 14, 15] (st 95 [(1, sv 1 p2.length ANY), (2, pt 2 0), (14, ag [iv p0, sv 0 p1.length ANY]), (15, sv 1 p2.length ANY)]) (TI.cp 59 [ag [iv p0, sv 0 p1.length ANY], sv 1 p2.length ANY] (iv r1) [] (PureSim.ren (hc := (H39_8 p1 p2)) (fun i => List.getD [(0, 0), (1, 0)] i (0, 0)) (C59 _ _ _ _ h2) (.ac (.ac (.nil _))) (.cons (Rn.agg' (.fl (.cons (Rn.any _ _ _ _ _ _ (nl rfl) rfl rfl (by decide)) .nil))) (.cons (Rn.any _ _ _ _ _ _ (nl rfl) rfl rfl (by decide)) .nil)) (.flat (by kernel_rfl)) newflat_nil) (TI.ra 1 [1, 2, 6] (st 95 [(1, sv 1 p2.length ANY), (2, pt 2 0), (6, iv r1)]) (TI.dn (NX.sq (TS.sq (TS.sq ?_)))))))
 obtain ⟨m4, hm257, hF⟩ := of_do hF
 have hK : NX Try.prog 2 2 [.sq c39.s2.s2.s1.s2, .sq c39.s2.s2.s2] (FinP Try.prog Try.f39 2 (V39 2 r) (N39 2 r)) .normal (st 95 [(1, sv 1 p2.length ANY), (2, pt 2 0), (6, iv r1), (23, .bool m4)]) (H39_6 p1 p2 p0) := by
  refine NX.sq ?_
  obtain ⟨m7, hm8, hF⟩ := of_do hF
  have hK : NX Try.prog 2 2 [.sq c39.s2.s2.s2] (FinP Try.prog Try.f39 2 (V39 2 r) (N39 2 r)) .normal (st 95 [(1, sv 1 p2.length ANY), (2, pt 2 0), (6, iv m7)]) (H39_6 p1 p2 p0) := by
   refine NX.sq (TS.sq (TS.sq (TS.rg (TI.ra 2 [1, 2, 6, 25] (st 95 [(1, sv 1 p2.length ANY), (2, pt 2 0), (6, iv m7), (25, .bool (m7 != 0))]) (TI.dn (NX.sq ?_))))))
   refine TS.cd (.tmp 25) (m7 != 0) (fun hc9 => ?_) (fun hc9 => ?_)
   · replace hF := of_pos hF hc9
     refine TS.sq (TS.rg (TI.rn 3 [4, 5] [0, 1] (st 95 [(4, iv 0), (5, iv m7)]) [ab 93 e93 p1, ab 55 e55 p2, .dead] (TI.dn (NX.sq (TS.rt (NX.sqR ?_))))))
     have hF := sj hF
     subst hF
     exact ⟨.inr rfl, rfl, .tuple ⟨[iv 0, iv m7]⟩, by kernel_rfl, WkV.flat0 (by kernel_rfl) (nl rfl)⟩
   replace hF := of_neg hF hc9
   refine TS.sk (NX.sq (TS.sq (TS.rg (TI.ra 1 [1, 2, 7] (st 95 [(1, sv 1 p2.length ANY), (2, pt 2 0), (7, iv 0)]) (TI.dn (NX.sq (TS.sq (TS.sq ?_))))))))
   refine TS.rg (TI.ra 1 [1, 2, 7, 8] (st 95 [(1, sv 1 p2.length ANY), (2, pt 2 0), (7, iv 0), (8, iv 0)]) (TI.dn (NX.sq (TS.bk 0 ?_))))
   obtain ⟨r255, h256, hF⟩ := of_do hF
   refine TS.lp (TL.weak (a2 := (st 95 [(1, sv 1 p2.length ANY), (2, pt 2 0), (7, iv 0), (8, iv 0)])) (h2 := (H39_6 p1 p2 p0)) (Wk.an [2] (.ac (.ac (.lt (.fl (.sl .nil)) (.nil _)))) [sv 1 p2.length ANY, pt 2 0, iv 0, iv 0] (.sl (.pp (.fl (.fl .nil))))) (TL.post (L39l0 p0 p1 p2 0 0 r255 h256) ?_))
   rintro e a1 h1 hp
   obtain ⟨rfl, hw⟩ := hp
   refine ⟨(st 95 [(7, iv r255)]), (H39_8 p1 p2), (NX.bkX (NX.sq (TS.sq (TS.rg (TI.ra 3 [4, 5] (st 95 [(4, iv r255), (5, iv 0)]) (TI.dn (NX.sq (TS.rt ?_)))))))), hw⟩
   have hF := sj hF
   subst hF
   exact ⟨.inr rfl, rfl, .tuple ⟨[iv r255, iv 0]⟩, by kernel_rfl, WkV.flat0 (by kernel_rfl) (nl rfl)⟩
  clear hF
  have hF := hm8
  clear hm8
  refine TS.start ?_
  cases m4 with
  | true =>
   replace hF := of_pos hF rfl
   refine TS.cdT (.tmp 23) (TS.rg (TI.ra 1 [1, 2, 6] (st 95 [(1, sv 1 p2.length ANY), (2, pt 2 0), (6, iv 16)]) (TI.dn ?_)))
   have hF := sj hF
   subst hF
   exact TS.weak (by exact (Wk.an [2] (.ac (.ac (.lt (.fl (.sl .nil)) (.nil _)))) [sv 1 p2.length ANY, pt 2 0, iv 16] (.sl (.pp (.fl .nil))))) hK
  | false =>
   replace hF := of_neg hF rfl
   refine TS.cdF (.tmp 23) (TS.sk ?_)
   have hF := sj hF
   subst hF
   exact TS.weak (by exact (Wk.an [2] (.ac (.ac (.lt (.fl (.sl .nil)) (.nil _)))) [sv 1 p2.length ANY, pt 2 0, iv r1] (.sl (.pp (.fl .nil))))) hK
 rcases Bool.eq_false_or_eq_true (r1 == 0) with hc3 | hc3
 · replace hm257 := of_pos hm257 hc3
   have hm257 := sj hm257
   subst hm257
   exact TS.rg (TI.ra 1 [1, 2, 6, 17] (st 95 [(1, sv 1 p2.length ANY), (2, pt 2 0), (6, iv r1), (17, iv r1)]) (TI.o { val := .bool true } (q_conv (e := r1 == 0) (b := true) (by kernel_rfl) hc3) [1, 2, 6, 18] [0, 1, 2] (st 95 [(1, sv 1 p2.length ANY), (2, pt 2 0), (6, iv r1), (18, .bool true)]) (H39_6 p1 p2 p0) (TI.ra 5 [1, 2, 6, 23] (st 95 [(1, sv 1 p2.length ANY), (2, pt 2 0), (6, iv r1), (23, .bool (decide (p0 > 14)))]) (TI.dn hK))))
 replace hm257 := of_neg hm257 hc3
 have hm257 := sj hm257
 subst hm257
 exact TS.rg (TI.ra 1 [1, 2, 6, 17] (st 95 [(1, sv 1 p2.length ANY), (2, pt 2 0), (6, iv r1), (17, iv r1)]) (TI.o { val := .bool false } (q_conv (e := r1 == 0) (b := false) (by kernel_rfl) hc3) [1, 2, 6, 18] [0, 1, 2] (st 95 [(1, sv 1 p2.length ANY), (2, pt 2 0), (6, iv r1), (18, .bool false)]) (H39_6 p1 p2 p0) (TI.ra 5 [1, 2, 6, 23] (st 95 [(1, sv 1 p2.length ANY), (2, pt 2 0), (6, iv r1), (23, .bool false)]) (TI.dn hK))))
theorem C39 (p0 : Int) (p1 : List ((Int × Bool) × (Int × Bool))) (p2 : List (Int × Bool)) (r : I2) (hF : F39 p0 p1 p2 = some r) : PureSim Try.prog 39 [ag [iv p0, sv 0 p1.length ANY], sv 1 p2.length ANY] (H39_8 p1 p2) (V39 2 r) (N39 2 r) :=
 PureSim.of_Fin Try.func39 (c := c39) (by kernel_rfl) (by kernel_rfl) 2 rfl [0, 1] [0, 1] (by kernel_rfl) (B39 p0 p1 p2 r hF)
noncomputable def c6 : Code := Try.f6.code
def H6_0 (p1 : List ((Int × Bool) × (Int × Bool))) (p2 : List (Int × Bool)) (r7 : Int × (List ((Int × Bool) × (Int × Bool)))) (r9 r11 : (List Int) × Int) (r15 : List (Int × Bool)) : List Blk := [ab 86 e86 p1, ab 50 e50 p2, .dead, ab 93 e93 r7.2, cl 30 [iv r7.1, accV 3 r7.2.length], ab 3 e3 r9.1, ab 3 e3 r11.1, ab 55 e55 r15]
def H6_1 (p1 : List ((Int × Bool) × (Int × Bool))) (p2 : List (Int × Bool)) (r7 : Int × (List ((Int × Bool) × (Int × Bool)))) (r9 r11 : (List Int) × Int) : List Blk := [ab 86 e86 p1, ab 50 e50 p2, .dead, ab 93 e93 r7.2, cl 30 [iv r7.1, accV 3 r7.2.length], ab 3 e3 r9.1, ab 3 e3 r11.1]
def S6_2 (r9 r11 : (List Int) × Int) (r13 r17 : I2) : CAct := (st 80 [(7, iv r9.2), (9, iv r11.2), (10, iv r13.1), (11, iv r13.2), (12, iv r17.1), (13, iv r17.2), (59, accV 5 r9.1.length), (60, accV 6 r11.1.length)])
def H6_3 (p1 : List ((Int × Bool) × (Int × Bool))) (p2 : List (Int × Bool)) (p0 : Int) : List Blk := [ab 86 e86 p1, ab 50 e50 p2, cl 24 [iv p0, sv 0 p1.length ANY]]
def H6_4 (p1 : List ((Int × Bool) × (Int × Bool))) (p2 : List (Int × Bool)) : List Blk := [ab 86 e86 p1, ab 50 e50 p2, .dead, .dead, .dead, .dead, .dead, .dead]
def S6_5 (p2 : List (Int × Bool)) : CAct := (st 80 [(1, sv 1 p2.length ANY), (2, pt 2 0), (18, .bool false), (20, iv (p2.length : Int))])
def S6_6 (r13 r17 : I2) (r9 r11 : (List Int) × Int) : CAct := (st 80 [(10, iv r13.1), (11, iv r13.2), (12, iv r17.1), (13, iv r17.2), (62, .bool true), (63, iv r9.2), (64, iv r11.2)])
def S6_7 (p2 : List (Int × Bool)) : CAct := (st 80 [(1, sv 1 p2.length ANY), (2, pt 2 0), (18, .bool false), (21, .bool false)])
def S6_8 (r13 r17 : I2) : CAct := (st 80 [(10, iv r13.1), (11, iv r13.2), (12, iv r17.1), (13, iv r17.2), (62, .bool true), (65, .bool true)])
def S6_9 (p2 : List (Int × Bool)) (p1 : List ((Int × Bool) × (Int × Bool))) : CAct := (st 80 [(1, sv 1 p2.length ANY), (2, pt 2 0), (16, iv (p1.length : Int))])
def H6_10 (r9 r11 : (List Int) × Int) : List Blk := [ab 3 e3 r9.1, ab 3 e3 r11.1]
def H6_11 (p1 : List ((Int × Bool) × (Int × Bool))) (p2 : List (Int × Bool)) : List Blk := [ab 86 e86 p1, ab 50 e50 p2]
def S6_12 (p2 : List (Int × Bool)) : CAct := (st 80 [(1, sv 1 p2.length ANY), (2, pt 2 0), (17, .bool false)])
def S6_13 (r13 r17 : I2) : CAct := (st 80 [(11, iv r13.2), (13, iv r17.2), (67, .bool true), (68, iv r13.1), (69, iv r17.1)])
def F6 (p0 : Int) (p1 : List ((Int × Bool) × (Int × Bool))) (p2 : List (Int × Bool)) : Option Bool :=
 (
  if decide ((p1.length : Int) > 100) then
   some (true)
  else
   if decide ((p2.length : Int) > 100) then
    some (true)
   else
    if decide (p0 > 8) then
     some (decide (p0 ≤ 14))
    else
     some (false)
 : Option Bool) >>= fun m4 =>
 if m4 then
  F15 >>= fun r5 =>
  some r5
 else
  F16 p0 p1 >>= fun r7 =>
  F36 p0 p1 >>= fun r9 =>
  F37 r7.1 r7.2 >>= fun r11 =>
  F38 p0 p1 p2 >>= fun r13 =>
  F17 p2 >>= fun r15 =>
  F39 r7.1 r7.2 r15 >>= fun r17 =>
  F25 r9.1 r11.1 >>= fun r19 =>
  (
   if r19 then
    if r9.2 == r11.2 then
     if r13.1 == r17.1 then
      if r13.2 == r17.2 then
       F15 >>= fun r24 =>
       some (r24)
      else
       some (false)
     else
      some (false)
    else
     some (false)
   else
    some (false)
  : Option Bool) >>= fun m26 =>
  some m26
def V6 (b : Nat) (r : Bool) : Value := .bool r
def N6 (b : Nat) (r : Bool) : List Blk := []
theorem B6 (p0 : Int) (p1 : List ((Int × Bool) × (Int × Bool))) (p2 : List (Int × Bool)) (r : Bool) (hF : F6 p0 p1 p2 = some r) : TS Try.prog 2 2 c6 (st 80 [(0, ag [iv p0, sv 0 p1.length ANY]), (1, sv 1 p2.length ANY)]) (H6_11 p1 p2) (NX Try.prog 2 2 [] (FinP Try.prog Try.f6 2 (V6 2 r) (N6 2 r))) := by
 unfold F6 at hF
 refine TS.sq (TS.rg (TI.rn 2 [1, 2] [0, 1, 2] (st 80 [(1, sv 1 p2.length ANY), (2, pt 2 0)]) (H6_3 p1 p2 p0) (TI.dn (NX.sq (TS.sq (TS.sq ?_))))))
 obtain ⟨m4, hm28, hF⟩ := of_do hF
 have hK : NX Try.prog 2 2 [.sq c6.s2.s1.s2, .sq c6.s2.s2] (FinP Try.prog Try.f6 2 (V6 2 r) (N6 2 r)) .normal (st 80 [(1, sv 1 p2.length ANY), (2, pt 2 0), (32, .bool m4)]) (H6_3 p1 p2 p0) := by
  refine NX.sq ?_
  cases m4 with
  | true =>
   replace hF := of_pos hF rfl
   refine TS.cdT (.tmp 32) (TS.sq ?_)
   obtain ⟨r5, h6, hF⟩ := of_do hF
   refine TS.rg (TI.cf (C15 _ h6) (TI.rn 1 [4] [0, 1] (st 80 [(4, .bool r5)]) [ab 86 e86 p1, ab 50 e50 p2, .dead] (TI.dn (NX.sq (TS.rt (NX.sqR ?_))))))
   have hF := sj hF
   subst hF
   exact ⟨.inr rfl, rfl, .bool r5, by kernel_rfl, WkV.flat0 (by kernel_rfl) (nl rfl)⟩
  | false =>
   replace hF := of_neg hF rfl
   refine TS.cdF (.tmp 32) (TS.sk (NX.sq (TS.sq ?_)))
   obtain ⟨r7, h8, hF⟩ := of_do hF
   refine TS.rg (TI.ra 1 [1, 2, 34] (st 80 [(1, sv 1 p2.length ANY), (2, pt 2 0), (34, ag [iv p0, sv 0 p1.length ANY])]) (TI.cp 16 [ag [iv p0, sv 0 p1.length ANY]] (ag [iv r7.1, accV 3 r7.2.length]) [ab 93 e93 r7.2] (PureSim.ren (hc := [ab 86 e86 p1]) (fun i => List.getD [(0, 0)] i (0, 0)) (C16 _ _ _ h8) (.ac (.nil _)) (.cons (Rn.agg' (.fl (.cons (Rn.any _ _ _ _ _ _ (nl rfl) rfl rfl (by decide)) .nil))) .nil) (Rn.agg' (.fl (.cons (Rn.acc (i' := 3) (nl rfl) rfl) .nil))) (newflat_cons (accB_flat (fun _ => rfl)) newflat_nil)) (TI.rn 2 [1, 2, 5] [0, 1, 2, 3, 4] (st 80 [(1, sv 1 p2.length ANY), (2, pt 2 0), (5, pt 4 0)]) [ab 86 e86 p1, ab 50 e50 p2, cl 24 [iv p0, sv 0 p1.length ANY], ab 93 e93 r7.2, cl 30 [iv r7.1, accV 3 r7.2.length]] (TI.dn (NX.sq (TS.sq ?_))))))
   obtain ⟨r9, h10, hF⟩ := of_do hF
   refine TS.rg (TI.ra 1 [1, 2, 5, 37] (st 80 [(1, sv 1 p2.length ANY), (2, pt 2 0), (5, pt 4 0), (37, ag [iv p0, sv 0 p1.length ANY])]) (TI.cp 36 [ag [iv p0, sv 0 p1.length ANY]] (.tuple ⟨[accV 5 r9.1.length, iv r9.2]⟩) [ab 3 e3 r9.1] (PureSim.ren (hc := [ab 86 e86 p1]) (fun i => List.getD [(0, 0)] i (0, 0)) (C36 _ _ _ h10) (.ac (.nil _)) (.cons (Rn.agg' (.fl (.cons (Rn.any _ _ _ _ _ _ (nl rfl) rfl rfl (by decide)) .nil))) .nil) (Rn.tuple' (.cons (Rn.acc (i' := 5) (nl rfl) rfl) (.fl .nil))) (newflat_cons (accB_flat (fun _ => rfl)) newflat_nil)) (TI.rn 5 [1, 2, 5, 6, 7] [0, 1, 2, 3, 4, 5] (st 80 [(1, sv 1 p2.length ANY), (2, pt 2 0), (5, pt 4 0), (6, accV 5 r9.1.length), (7, iv r9.2)]) [ab 86 e86 p1, ab 50 e50 p2, cl 24 [iv p0, sv 0 p1.length ANY], ab 93 e93 r7.2, cl 30 [iv r7.1, accV 3 r7.2.length], ab 3 e3 r9.1] (TI.dn (NX.sq (TS.sq ?_))))))
   obtain ⟨r11, h12, hF⟩ := of_do hF
   refine TS.rg (TI.ra 1 [1, 2, 5, 6, 7, 42] (st 80 [(1, sv 1 p2.length ANY), (2, pt 2 0), (5, pt 4 0), (6, accV 5 r9.1.length), (7, iv r9.2), (42, ag [iv r7.1, accV 3 r7.2.length])]) (TI.cp 37 [ag [iv r7.1, accV 3 r7.2.length]] (.tuple ⟨[accV 6 r11.1.length, iv r11.2]⟩) [ab 3 e3 r11.1] (PureSim.ren (hc := [ab 93 e93 r7.2]) (fun i => List.getD [(3, 0)] i (0, 0)) (C37 _ _ _ h12) (.ac (.nil _)) (.cons (Rn.agg' (.fl (.cons (Rn.accA (i' := 3) (nl rfl) rfl) .nil))) .nil) (Rn.tuple' (.cons (Rn.acc (i' := 6) (nl rfl) rfl) (.fl .nil))) (newflat_cons (accB_flat (fun _ => rfl)) newflat_nil)) (TI.rn 5 [1, 2, 5, 6, 7, 8, 9] [0, 1, 2, 3, 4, 5, 6] (st 80 [(1, sv 1 p2.length ANY), (2, pt 2 0), (5, pt 4 0), (6, accV 5 r9.1.length), (7, iv r9.2), (8, accV 6 r11.1.length), (9, iv r11.2)]) [ab 86 e86 p1, ab 50 e50 p2, cl 24 [iv p0, sv 0 p1.length ANY], ab 93 e93 r7.2, cl 30 [iv r7.1, accV 3 r7.2.length], ab 3 e3 r9.1, ab 3 e3 r11.1] (TI.dn (NX.sq (TS.sq ?_))))))
   obtain ⟨r13, h14, hF⟩ := of_do hF
   refine TS.rg (TI.rn 2 [1, 5, 6, 7, 8, 9, 47, 48] [0, 1, 3, 4, 5, 6] (st 80 [(1, sv 1 p2.length ANY), (5, pt 4 0), (6, accV 5 r9.1.length), (7, iv r9.2), (8, accV 6 r11.1.length), (9, iv r11.2), (47, ag [iv p0, sv 0 p1.length ANY]), (48, sv 1 p2.length ANY)]) (H6_1 p1 p2 r7 r9 r11) (TI.cp 38 [ag [iv p0, sv 0 p1.length ANY], sv 1 p2.length ANY] (.tuple ⟨[iv r13.1, iv r13.2]⟩) [] (PureSim.ren (hc := (H6_11 p1 p2)) (fun i => List.getD [(0, 0), (1, 0)] i (0, 0)) (C38 _ _ _ _ h14) (.ac (.ac (.nil _))) (.cons (Rn.agg' (.fl (.cons (Rn.any _ _ _ _ _ _ (nl rfl) rfl rfl (by decide)) .nil))) (.cons (Rn.any _ _ _ _ _ _ (nl rfl) rfl rfl (by decide)) .nil)) (.flat (by kernel_rfl)) newflat_nil) (TI.ra 5 [1, 5, 6, 7, 8, 9, 10, 11] (st 80 [(1, sv 1 p2.length ANY), (5, pt 4 0), (6, accV 5 r9.1.length), (7, iv r9.2), (8, accV 6 r11.1.length), (9, iv r11.2), (10, iv r13.1), (11, iv r13.2)]) (TI.dn (NX.sq (TS.sq ?_))))))
   obtain ⟨r15, h16, hF⟩ := of_do hF
   obtain ⟨r17, h18, hF⟩ := of_do hF
   have hT : ∀ e ∈ ([⟨17, [sv 1 p2.length ANY], (H6_1 p1 p2 r7 r9 r11), accV 7 r15.length, [ab 55 e55 r15]⟩, ⟨39, [ag [iv r7.1, accV 3 r7.2.length], accV 7 r15.length], (H6_0 p1 p2 r7 r9 r11 r15), .tuple ⟨[iv r17.1, iv r17.2]⟩, []⟩] : List Entry), PureSim Try.prog e.g e.args e.h e.v e.new := by
    intro e he
    simp only [List.mem_cons, List.not_mem_nil, or_false] at he
    rcases he with rfl | rfl
    · exact (PureSim.ren (hc := [ab 50 e50 p2]) (fun i => List.getD [(1, 0)] i (0, 0)) (C17 _ _ h16) (.ac (.nil _)) (.cons (Rn.any _ _ _ _ _ _ (nl rfl) rfl rfl (by decide)) .nil) (Rn.acc (i' := 7) (nl rfl) rfl) (newflat_cons (accB_flat (fun _ => rfl)) newflat_nil))
    exact (PureSim.ren (hc := [ab 93 e93 r7.2, ab 55 e55 r15]) (fun i => List.getD [(3, 0), (7, 0)] i (0, 0)) (C39 _ _ _ _ h18) (.ac (.ac (.nil _))) (.cons (Rn.agg' (.fl (.cons (Rn.accA (i' := 3) (nl rfl) rfl) .nil))) (.cons (Rn.accA (i' := 7) (nl rfl) rfl) .nil)) (.flat (by kernel_rfl)) newflat_nil)
   refine TS.dp [⟨17, [sv 1 p2.length ANY], (H6_1 p1 p2 r7 r9 r11), accV 7 r15.length, [ab 55 e55 r15]⟩, ⟨39, [ag [iv r7.1, accV 3 r7.2.length], accV 7 r15.length], (H6_0 p1 p2 r7 r9 r11 r15), .tuple ⟨[iv r17.1, iv r17.2]⟩, []⟩] hT mixed 8 [6, 7, 8, 9, 10, 11, 12, 13] [0, 1, 5, 6] (st 80 [(6, accV 5 r9.1.length), (7, iv r9.2), (8, accV 6 r11.1.length), (9, iv r11.2), (10, iv r13.1), (11, iv r13.2), (12, iv r17.1), (13, iv r17.2)]) [ab 86 e86 p1, ab 50 e50 p2, .dead, .dead, .dead, ab 3 e3 r9.1, ab 3 e3 r11.1, .dead] ?_ ?_
   · exact QJ.rn (qs (st 80 [(1, sv 1 p2.length ANY), (5, pt 4 0), (6, accV 5 r9.1.length), (7, iv r9.2), (8, accV 6 r11.1.length), (9, iv r11.2), (10, iv r13.1), (11, iv r13.2), (53, ag [iv r7.1, accV 3 r7.2.length]), (54, sv 1 p2.length ANY)]) (H6_1 p1 p2 r7 r9 r11) [] []) 2 (QJ.o { val := accV 7 r15.length, new := [ab 55 e55 r15] } (qOf_call (g := 17) (args := [sv 1 p2.length ANY]) (by kernel_rfl) lookC_hit) (QJ.o { val := .tuple ⟨[iv r17.1, iv r17.2]⟩, new := [] } (qOf_call (g := 39) (args := [ag [iv r7.1, accV 3 r7.2.length], accV 7 r15.length]) (by kernel_rfl) (lookC_skip (fun hg => absurd (show (17 : Nat) = 39 from hg) (by decide)) lookC_hit)) (QJ.rn (qs (st 80 [(1, sv 1 p2.length ANY), (5, pt 4 0), (6, accV 5 r9.1.length), (7, iv r9.2), (8, accV 6 r11.1.length), (9, iv r11.2), (10, iv r13.1), (11, iv r13.2), (12, iv r17.1), (52, .tuple ⟨[iv r17.1, iv r17.2]⟩), (53, ag [iv r7.1, accV 3 r7.2.length]), (54, sv 1 p2.length ANY), (55, accV 7 r15.length), (56, .tuple ⟨[iv r17.1, iv r17.2]⟩), (57, iv r17.1), (58, iv r17.2)]) (H6_0 p1 p2 r7 r9 r11 r15) [(2, 7, 8)] []) 4 (QJ.dn ⟨rfl, SJ.la⟩))))
   refine TS.sq ?_
   obtain ⟨r19, h20, hF⟩ := of_do hF
   obtain ⟨m26, hm27, hF⟩ := of_do hF
   have hK : NX Try.prog 2 2 [.sq c6.s2.s2.s2.s2.s2.s2.s2.s2] (FinP Try.prog Try.f6 2 (V6 2 r) (N6 2 r)) .normal (st 80 [(4, .bool m26)]) (H6_4 p1 p2) := by
    refine NX.sq (TS.rt ?_)
    have hF := sj hF
    subst hF
    exact ⟨.inr rfl, rfl, .bool m26, by kernel_rfl, WkV.flat0 (by kernel_rfl) (nl rfl)⟩
   cases r19 with
   | true =>
    replace hm27 := of_pos hm27 rfl
    rcases Bool.eq_false_or_eq_true (r9.2 == r11.2) with hc21 | hc21
    · replace hm27 := of_pos hm27 hc21
      rcases Bool.eq_false_or_eq_true (r13.1 == r17.1) with hc22 | hc22
      · replace hm27 := of_pos hm27 hc22
        rcases Bool.eq_false_or_eq_true (r13.2 == r17.2) with hc23 | hc23
        · replace hm27 := of_pos hm27 hc23
          have hX := of_do hm27
          clear hm27
          obtain ⟨r24, h25, hm27⟩ := hX
          have hm27 := sj hm27
          subst hm27
          refine TS.rg (TI.ra 2 [7, 9, 10, 11, 12, 13, 59, 60] (S6_2 r9 r11 r13 r17) (TI.cp 25 [accV 5 r9.1.length, accV 6 r11.1.length] (.bool true) [] (PureSim.ren (hc := (H6_10 r9 r11)) (fun i => List.getD [(5, 0), (6, 0)] i (0, 0)) (C25 _ _ _ h20) (.ac (.ac (.nil _))) (.cons (Rn.accA (i' := 5) (nl rfl) rfl) (.cons (Rn.accA (i' := 6) (nl rfl) rfl) .nil)) (.flat (by kernel_rfl)) newflat_nil) (TI.rn 3 [10, 11, 12, 13, 62, 63, 64] [0, 1] (S6_6 r13 r17 r9 r11) (H6_4 p1 p2) (TI.o { val := .bool true } (q_conv (e := r9.2 == r11.2) (b := true) (by kernel_rfl) hc21) [10, 11, 12, 13, 62, 65] [0, 1] (S6_8 r13 r17) (H6_4 p1 p2) (TI.ra 4 [11, 13, 67, 68, 69] (S6_13 r13 r17) (TI.o { val := .bool true } (q_conv (e := r13.1 == r17.1) (b := true) (by kernel_rfl) hc22) [11, 13, 67, 70] [0, 1] (st 80 [(11, iv r13.2), (13, iv r17.2), (67, .bool true), (70, .bool true)]) (H6_4 p1 p2) (TI.ra 4 [72, 73, 74] (st 80 [(72, .bool true), (73, iv r13.2), (74, iv r17.2)]) (TI.o { val := .bool true } (q_conv (e := r13.2 == r17.2) (b := true) (by kernel_rfl) hc23) [72, 75] [0, 1] (st 80 [(72, .bool true), (75, .bool true)]) (H6_4 p1 p2) ?_))))))))
          exact TI.ra 2 [77] (st 80 [(77, .bool true)]) (TI.cf (C15 _ h25) (TI.ra 2 [4] (st 80 [(4, .bool r24)]) (TI.dn hK)))
        replace hm27 := of_neg hm27 hc23
        have hm27 := sj hm27
        subst hm27
        refine TS.rg (TI.ra 2 [7, 9, 10, 11, 12, 13, 59, 60] (S6_2 r9 r11 r13 r17) (TI.cp 25 [accV 5 r9.1.length, accV 6 r11.1.length] (.bool true) [] (PureSim.ren (hc := (H6_10 r9 r11)) (fun i => List.getD [(5, 0), (6, 0)] i (0, 0)) (C25 _ _ _ h20) (.ac (.ac (.nil _))) (.cons (Rn.accA (i' := 5) (nl rfl) rfl) (.cons (Rn.accA (i' := 6) (nl rfl) rfl) .nil)) (.flat (by kernel_rfl)) newflat_nil) (TI.rn 3 [10, 11, 12, 13, 62, 63, 64] [0, 1] (S6_6 r13 r17 r9 r11) (H6_4 p1 p2) (TI.o { val := .bool true } (q_conv (e := r9.2 == r11.2) (b := true) (by kernel_rfl) hc21) [10, 11, 12, 13, 62, 65] [0, 1] (S6_8 r13 r17) (H6_4 p1 p2) (TI.ra 4 [11, 13, 67, 68, 69] (S6_13 r13 r17) (TI.o { val := .bool true } (q_conv (e := r13.1 == r17.1) (b := true) (by kernel_rfl) hc22) [11, 13, 67, 70] [0, 1] (st 80 [(11, iv r13.2), (13, iv r17.2), (67, .bool true), (70, .bool true)]) (H6_4 p1 p2) (TI.ra 4 [72, 73, 74] (st 80 [(72, .bool true), (73, iv r13.2), (74, iv r17.2)]) (TI.o { val := .bool false } (q_conv (e := r13.2 == r17.2) (b := false) (by kernel_rfl) hc23) [72, 75] [0, 1] (st 80 [(72, .bool true), (75, .bool false)]) (H6_4 p1 p2) ?_))))))))
        exact TI.ra 5 [4] (st 80 [(4, .bool false)]) (TI.dn hK)
      replace hm27 := of_neg hm27 hc22
      have hm27 := sj hm27
      subst hm27
      refine TS.rg (TI.ra 2 [7, 9, 10, 11, 12, 13, 59, 60] (S6_2 r9 r11 r13 r17) (TI.cp 25 [accV 5 r9.1.length, accV 6 r11.1.length] (.bool true) [] (PureSim.ren (hc := (H6_10 r9 r11)) (fun i => List.getD [(5, 0), (6, 0)] i (0, 0)) (C25 _ _ _ h20) (.ac (.ac (.nil _))) (.cons (Rn.accA (i' := 5) (nl rfl) rfl) (.cons (Rn.accA (i' := 6) (nl rfl) rfl) .nil)) (.flat (by kernel_rfl)) newflat_nil) (TI.rn 3 [10, 11, 12, 13, 62, 63, 64] [0, 1] (S6_6 r13 r17 r9 r11) (H6_4 p1 p2) (TI.o { val := .bool true } (q_conv (e := r9.2 == r11.2) (b := true) (by kernel_rfl) hc21) [10, 11, 12, 13, 62, 65] [0, 1] (S6_8 r13 r17) (H6_4 p1 p2) (TI.ra 4 [11, 13, 67, 68, 69] (S6_13 r13 r17) (TI.o { val := .bool false } (q_conv (e := r13.1 == r17.1) (b := false) (by kernel_rfl) hc22) [11, 13, 67, 70] [0, 1] (st 80 [(11, iv r13.2), (13, iv r17.2), (67, .bool true), (70, .bool false)]) (H6_4 p1 p2) (TI.ra 10 [4] (st 80 [(4, .bool false)]) (TI.dn ?_))))))))
      exact hK
    replace hm27 := of_neg hm27 hc21
    have hm27 := sj hm27
    subst hm27
    exact TS.rg (TI.ra 2 [7, 9, 10, 11, 12, 13, 59, 60] (S6_2 r9 r11 r13 r17) (TI.cp 25 [accV 5 r9.1.length, accV 6 r11.1.length] (.bool true) [] (PureSim.ren (hc := (H6_10 r9 r11)) (fun i => List.getD [(5, 0), (6, 0)] i (0, 0)) (C25 _ _ _ h20) (.ac (.ac (.nil _))) (.cons (Rn.accA (i' := 5) (nl rfl) rfl) (.cons (Rn.accA (i' := 6) (nl rfl) rfl) .nil)) (.flat (by kernel_rfl)) newflat_nil) (TI.rn 3 [10, 11, 12, 13, 62, 63, 64] [0, 1] (S6_6 r13 r17 r9 r11) (H6_4 p1 p2) (TI.o { val := .bool false } (q_conv (e := r9.2 == r11.2) (b := false) (by kernel_rfl) hc21) [10, 11, 12, 13, 62, 65] [0, 1] (st 80 [(10, iv r13.1), (11, iv r13.2), (12, iv r17.1), (13, iv r17.2), (62, .bool true), (65, .bool false)]) (H6_4 p1 p2) (TI.ra 15 [4] (st 80 [(4, .bool false)]) (TI.dn hK))))))
   | false =>
    replace hm27 := of_neg hm27 rfl
    have hm27 := sj hm27
    subst hm27
    exact TS.rg (TI.ra 2 [7, 9, 10, 11, 12, 13, 59, 60] (S6_2 r9 r11 r13 r17) (TI.cp 25 [accV 5 r9.1.length, accV 6 r11.1.length] (.bool false) [] (PureSim.ren (hc := (H6_10 r9 r11)) (fun i => List.getD [(5, 0), (6, 0)] i (0, 0)) (C25 _ _ _ h20) (.ac (.ac (.nil _))) (.cons (Rn.accA (i' := 5) (nl rfl) rfl) (.cons (Rn.accA (i' := 6) (nl rfl) rfl) .nil)) (.flat (by kernel_rfl)) newflat_nil) (TI.rn 19 [4] [0, 1] (st 80 [(4, .bool false)]) (H6_4 p1 p2) (TI.dn hK))))
 rcases Bool.eq_false_or_eq_true (decide ((p1.length : Int) > 100)) with hc1 | hc1
 · replace hm28 := of_pos hm28 hc1
   have hm28 := sj hm28
   subst hm28
   exact TS.rg (TI.ra 3 [1, 2, 16] (S6_9 p2 p1) (TI.o { val := .bool true } (q_conv (e := decide ((p1.length : Int) > 100)) (b := true) (by kernel_rfl) hc1) [1, 2, 17] [0, 1, 2] (st 80 [(1, sv 1 p2.length ANY), (2, pt 2 0), (17, .bool true)]) (H6_3 p1 p2 p0) (TI.ra 15 [1, 2, 32] (st 80 [(1, sv 1 p2.length ANY), (2, pt 2 0), (32, .bool true)]) (TI.dn hK))))
 replace hm28 := of_neg hm28 hc1
 rcases Bool.eq_false_or_eq_true (decide ((p2.length : Int) > 100)) with hc2 | hc2
 · replace hm28 := of_pos hm28 hc2
   have hm28 := sj hm28
   subst hm28
   exact TS.rg (TI.ra 3 [1, 2, 16] (S6_9 p2 p1) (TI.o { val := .bool false } (q_conv (e := decide ((p1.length : Int) > 100)) (b := false) (by kernel_rfl) hc1) [1, 2, 17] [0, 1, 2] (S6_12 p2) (H6_3 p1 p2 p0) (TI.ra 3 [1, 2, 18, 20] (S6_5 p2) (TI.o { val := .bool true } (q_conv (e := decide ((p2.length : Int) > 100)) (b := true) (by kernel_rfl) hc2) [1, 2, 18, 21] [0, 1, 2] (st 80 [(1, sv 1 p2.length ANY), (2, pt 2 0), (18, .bool false), (21, .bool true)]) (H6_3 p1 p2 p0) (TI.ra 11 [1, 2, 32] (st 80 [(1, sv 1 p2.length ANY), (2, pt 2 0), (32, .bool true)]) (TI.dn hK))))))
 replace hm28 := of_neg hm28 hc2
 rcases Bool.eq_false_or_eq_true (decide (p0 > 8)) with hc3 | hc3
 · replace hm28 := of_pos hm28 hc3
   have hm28 := sj hm28
   subst hm28
   refine TS.rg (TI.ra 3 [1, 2, 16] (S6_9 p2 p1) (TI.o { val := .bool false } (q_conv (e := decide ((p1.length : Int) > 100)) (b := false) (by kernel_rfl) hc1) [1, 2, 17] [0, 1, 2] (S6_12 p2) (H6_3 p1 p2 p0) (TI.ra 3 [1, 2, 18, 20] (S6_5 p2) (TI.o { val := .bool false } (q_conv (e := decide ((p2.length : Int) > 100)) (b := false) (by kernel_rfl) hc2) [1, 2, 18, 21] [0, 1, 2] (S6_7 p2) (H6_3 p1 p2 p0) (TI.ra 4 [1, 2, 23, 25] (st 80 [(1, sv 1 p2.length ANY), (2, pt 2 0), (23, .bool false), (25, iv p0)]) (TI.o { val := .bool true } (q_conv (e := decide (p0 > 8)) (b := true) (by kernel_rfl) hc3) [1, 2, 23, 26] [0, 1, 2] (st 80 [(1, sv 1 p2.length ANY), (2, pt 2 0), (23, .bool false), (26, .bool true)]) (H6_3 p1 p2 p0) (TI.ra 6 [1, 2, 32] (st 80 [(1, sv 1 p2.length ANY), (2, pt 2 0), (32, .bool (decide (p0 ≤ 14)))]) (TI.dn ?_))))))))
   exact hK
 replace hm28 := of_neg hm28 hc3
 have hm28 := sj hm28
 subst hm28
 refine TS.rg (TI.ra 3 [1, 2, 16] (S6_9 p2 p1) (TI.o { val := .bool false } (q_conv (e := decide ((p1.length : Int) > 100)) (b := false) (by kernel_rfl) hc1) [1, 2, 17] [0, 1, 2] (S6_12 p2) (H6_3 p1 p2 p0) (TI.ra 3 [1, 2, 18, 20] (S6_5 p2) (TI.o { val := .bool false } (q_conv (e := decide ((p2.length : Int) > 100)) (b := false) (by kernel_rfl) hc2) [1, 2, 18, 21] [0, 1, 2] (S6_7 p2) (H6_3 p1 p2 p0) (TI.ra 4 [1, 2, 23, 25] (st 80 [(1, sv 1 p2.length ANY), (2, pt 2 0), (23, .bool false), (25, iv p0)]) (TI.o { val := .bool false } (q_conv (e := decide (p0 > 8)) (b := false) (by kernel_rfl) hc3) [1, 2, 23, 26] [0, 1, 2] (st 80 [(1, sv 1 p2.length ANY), (2, pt 2 0), (23, .bool false), (26, .bool false)]) (H6_3 p1 p2 p0) (TI.ra 6 [1, 2, 32] (st 80 [(1, sv 1 p2.length ANY), (2, pt 2 0), (32, .bool false)]) (TI.dn ?_))))))))
 exact hK
theorem C6 (p0 : Int) (p1 : List ((Int × Bool) × (Int × Bool))) (p2 : List (Int × Bool)) (r : Bool) (hF : F6 p0 p1 p2 = some r) : PureSim Try.prog 6 [ag [iv p0, sv 0 p1.length ANY], sv 1 p2.length ANY] (H6_11 p1 p2) (V6 2 r) (N6 2 r) :=
 PureSim.of_Fin Try.func6 (c := c6) (by kernel_rfl) (by kernel_rfl) 2 rfl [0, 1] [0, 1] (by kernel_rfl) (B6 p0 p1 p2 r hF)
end
end Go.Proofs.Ytiaippkjgmccoaa
