/- What functions of the program compute, and that they do. -/
import Derived.Test.YtdekbjfjbbdjgaaGY
set_option linter.unusedVariables false
set_option linter.unusedSimpArgs false
set_option maxRecDepth 100000
set_option maxHeartbeats 4000000
namespace Go.Proofs.Ytdekbjfjbbdjgaa
open Go Go.Cl
noncomputable section
noncomputable def c26 : Code := Try.f26.code
def S26_0 (v12 : (List Int)) (v11 : Int) (p2 : (List (Int × Int))) (p0 : Int) (p1 : Int) : CAct := (st 44 [(1, pt 1 0), (5, accV 2 v12.length), (6, iv v11), (7, pt 6 0), (17, .bool (decide (v11 < (p2.length : Int)))), (20, pt 1 0), (21, iv p0), (22, pt 1 1), (23, iv p1), (24, sv 3 0 0), (25, pt 1 2), (26, sv 0 p2.length ANY), (27, iv v11), (28, sv 0 (List.length (List.take (Int.toNat v11) p2)) ANY), (29, ownV 4 (List.length (List.take (Int.toNat v11) p2))), (30, pt 1 2), (31, sv 0 p2.length ANY), (32, iv v11), (33, iv (w64 (v11 + 1))), (34, .slice (some ⟨0, 0 + Int.toNat (w64 (v11 + 1)) * 2, none⟩) (List.length (List.drop (Int.toNat (w64 (v11 + 1))) p2)) ANY), (35, ownV 5 (List.length ((List.take (Int.toNat v11) p2) ++ (List.drop (Int.toNat (w64 (v11 + 1))) p2)))), (36, ag [iv p0, iv p1, ownV 5 (List.length ((List.take (Int.toNat v11) p2) ++ (List.drop (Int.toNat (w64 (v11 + 1))) p2)))])])
def S26_1 (v12 : (List Int)) (v11 : Int) (p2 : (List (Int × Int))) (p0 : Int) (p1 : Int) : CAct := (st 44 [(1, pt 1 0), (5, accV 2 v12.length), (6, iv v11), (17, .bool (decide (v11 < (p2.length : Int)))), (20, pt 1 0), (21, iv p0), (22, pt 1 1), (23, iv p1), (24, sv 3 0 0), (25, pt 1 2), (26, sv 0 p2.length ANY), (27, iv v11), (28, sv 0 (List.length (List.take (Int.toNat v11) p2)) ANY), (29, ownV 4 (List.length (List.take (Int.toNat v11) p2))), (30, pt 1 2), (31, sv 0 p2.length ANY), (32, iv v11), (33, iv (w64 (v11 + 1))), (34, .slice (some ⟨0, 0 + Int.toNat (w64 (v11 + 1)) * 2, none⟩) (List.length (List.drop (Int.toNat (w64 (v11 + 1))) p2)) ANY), (35, ownV 5 (List.length ((List.take (Int.toNat v11) p2) ++ (List.drop (Int.toNat (w64 (v11 + 1))) p2))))])
def S26_2 (v12 : (List Int)) (v11 : Int) (p2 : (List (Int × Int))) (p0 : Int) (p1 : Int) : CAct := (st 44 [(1, pt 1 0), (5, accV 2 v12.length), (6, iv v11), (17, .bool (decide (v11 < (p2.length : Int)))), (20, pt 1 0), (21, iv p0), (22, pt 1 1), (23, iv p1), (24, sv 3 0 0), (25, pt 1 2), (26, sv 0 p2.length ANY), (27, iv v11), (28, sv 0 (List.length (List.take (Int.toNat v11) p2)) ANY), (29, ownV 4 (List.length (List.take (Int.toNat v11) p2))), (30, pt 1 2), (31, sv 0 p2.length ANY), (32, iv v11), (33, iv (w64 (v11 + 1))), (34, .slice (some ⟨0, 0 + Int.toNat (w64 (v11 + 1)) * 2, none⟩) (List.length (List.drop (Int.toNat (w64 (v11 + 1))) p2)) ANY)])
def S26_3 (v12 : (List Int)) (v11 : Int) (p2 : (List (Int × Int))) (p0 : Int) (p1 : Int) : CAct := (st 44 [(1, pt 1 0), (5, accV 2 v12.length), (6, iv v11), (17, .bool (decide (v11 < (p2.length : Int)))), (20, pt 1 0), (21, iv p0), (22, pt 1 1), (23, iv p1), (24, sv 3 0 0), (25, pt 1 2), (26, sv 0 p2.length ANY), (27, iv v11), (28, sv 0 (List.length (List.take (Int.toNat v11) p2)) ANY), (29, ownV 4 (List.length (List.take (Int.toNat v11) p2))), (30, pt 1 2), (31, sv 0 p2.length ANY), (32, iv v11), (33, iv (w64 (v11 + 1)))])
def S26_4 (v12 : (List Int)) (v11 : Int) (p2 : (List (Int × Int))) (p0 : Int) (p1 : Int) : CAct := (st 44 [(1, pt 1 0), (5, accV 2 v12.length), (6, iv v11), (17, .bool (decide (v11 < (p2.length : Int)))), (20, pt 1 0), (21, iv p0), (22, pt 1 1), (23, iv p1), (24, sv 3 0 0), (25, pt 1 2), (26, sv 0 p2.length ANY), (27, iv v11), (28, sv 0 (List.length (List.take (Int.toNat v11) p2)) ANY), (29, ownV 4 (List.length (List.take (Int.toNat v11) p2)))])
def H26_5 (p2 : (List (Int × Int))) (p0 : Int) (p1 : Int) (v12 : (List Int)) (v11 : Int) : List Blk := [ab 72 e72 p2, cl 28 [iv p0, iv p1, sv 0 p2.length ANY], ab 3 e3 v12, .dead, .dead, .cells 72 (List.flatMap e72 ((List.take (Int.toNat v11) p2) ++ (List.drop (Int.toNat (w64 (v11 + 1))) p2))), cl 28 [iv p0, iv p1, ownV 5 (List.length ((List.take (Int.toNat v11) p2) ++ (List.drop (Int.toNat (w64 (v11 + 1))) p2)))]]
def S26_6 (v12 : (List Int)) (v11 : Int) (p2 : (List (Int × Int))) (p0 : Int) (p1 : Int) : CAct := (st 44 [(1, pt 1 0), (5, accV 2 v12.length), (6, iv v11), (17, .bool (decide (v11 < (p2.length : Int)))), (20, pt 1 0), (21, iv p0), (22, pt 1 1), (23, iv p1), (24, sv 3 0 0), (25, pt 1 2), (26, sv 0 p2.length ANY), (27, iv v11), (28, sv 0 (List.length (List.take (Int.toNat v11) p2)) ANY)])
def H26_7 (p2 : (List (Int × Int))) (p0 : Int) (p1 : Int) (v12 : (List Int)) (v11 : Int) : List Blk := [ab 72 e72 p2, cl 28 [iv p0, iv p1, sv 0 p2.length ANY], ab 3 e3 v12, .dead, .dead, .cells 72 (List.flatMap e72 ((List.take (Int.toNat v11) p2) ++ (List.drop (Int.toNat (w64 (v11 + 1))) p2))), cl 28 [iv 0, iv 0, .slice none 0 0]]
def S26_8 (v12 : (List Int)) (v11 : Int) (p2 : (List (Int × Int))) (p0 : Int) (p1 : Int) : CAct := (st 44 [(1, pt 1 0), (5, accV 2 v12.length), (6, iv v11), (17, .bool (decide (v11 < (p2.length : Int)))), (20, pt 1 0), (21, iv p0), (22, pt 1 1), (23, iv p1), (24, sv 3 0 0), (25, pt 1 2), (26, sv 0 p2.length ANY), (27, iv v11)])
def H26_9 (p2 : (List (Int × Int))) (p0 : Int) (p1 : Int) (v12 : (List Int)) (v11 : Int) : List Blk := [ab 72 e72 p2, cl 28 [iv p0, iv p1, sv 0 p2.length ANY], ab 3 e3 v12, .dead, .dead, .cells 72 (List.flatMap e72 ((List.take (Int.toNat v11) p2) ++ (List.drop (Int.toNat (w64 (v11 + 1))) p2)))]
def H26_10 (p2 : (List (Int × Int))) (p0 : Int) (p1 : Int) (v12 : (List Int)) (v11 : Int) : List Blk := [ab 72 e72 p2, cl 28 [iv p0, iv p1, sv 0 p2.length ANY], ab 3 e3 v12, .dead, .cells 72 (List.flatMap e72 (List.take (Int.toNat v11) p2))]
def H26_11 (p2 : (List (Int × Int))) (p0 : Int) (p1 : Int) (v12 : (List Int)) : List Blk := [ab 72 e72 p2, cl 28 [iv p0, iv p1, sv 0 p2.length ANY], ab 3 e3 v12, cl 72 []]
def F26l0 (p0 : Int) (p1 : Int) (p2 : (List (Int × Int))) (v12 : (List Int)) (v11 : Int) : Option (List Int) :=
    if decide (v11 < (p2.length : Int)) then
      if (0 : Int) ≤ v11 ∧ v11 ≤ (p2.length : Int) then
        if List.length (List.take (Int.toNat v11) p2) ≤ 1000000000 then
          if (0 : Int) ≤ w64 (v11 + 1) ∧ w64 (v11 + 1) ≤ (p2.length : Int) then
            if List.length (List.drop (Int.toNat (w64 (v11 + 1))) p2) ≤ 1000000000 then
              F50 p0 p1 ((List.take (Int.toNat v11) p2) ++ (List.drop (Int.toNat (w64 (v11 + 1))) p2)) >>= fun r27 =>
              (
                if r27 then
                  if List.length v12 ≤ 1000000000 then
                    some (v12 ++ [v11])
                  else none
                else
                  some v12
              : Option (List Int)) >>= fun m31 =>
              F26l0 p0 p1 p2 m31 (w64 (v11 + 1))
            else none
          else none
        else none
      else none
    else
      some v12
  partial_fixpoint
def F26 (p0 : Int) (p1 : Int) (p2 : (List (Int × Int))) : Option ((List Int) × Int) :=
  F24 p0 p1 p2 >>= fun r1 =>
  if r1 != 0 then
    some ([], r1)
  else
    F26l0 p0 p1 p2 ([]) 0 >>= fun r34 =>
    some (r34, 0)
def V26 (b : Nat) (r : ((List Int) × Int)) : Value := .tuple ⟨[accV (b + 0) r.1.length, iv r.2]⟩
def N26 (b : Nat) (r : ((List Int) × Int)) : List Blk := [ab 3 e3 r.1]
def P26l0 (p0 : Int) (p1 : Int) (p2 : (List (Int × Int))) (r : (List Int)) : Post := fun e a h => e = .exit 0 ∧ Wk Try.prog 1 1 a h (st 44 [(5, accV 1 r.length)]) [ab 72 e72 p2, ab 3 e3 r]
theorem L26l0 (p0 : Int) (p1 : Int) (p2 : (List (Int × Int))) (v12 : (List Int)) (v11 : Int) (r : (List Int)) (hF : F26l0 p0 p1 p2 v12 v11 = some r) : TL Try.prog 1 1 c26.s2.s2.s2.s2.s1.s2.bd.bd (st 44 [(1, pt 1 0), (5, accV 2 v12.length), (6, iv v11)]) [ab 72 e72 p2, cl 28 [iv p0, iv p1, sv 0 p2.length ANY], ab 3 e3 v12] (P26l0 p0 p1 p2 r) := by
  refine F26l0.partial_correctness p0 p1 p2 (motive := fun v12 v11 r => TL Try.prog 1 1 c26.s2.s2.s2.s2.s1.s2.bd.bd (st 44 [(1, pt 1 0), (5, accV 2 v12.length), (6, iv v11)]) [ab 72 e72 p2, cl 28 [iv p0, iv p1, sv 0 p2.length ANY], ab 3 e3 v12] (P26l0 p0 p1 p2 r)) ?_ v12 v11 r hF
  clear hF r v12 v11
  intro again ih v12 v11 r hF
  refine TL.round (TS.sq (TS.sq (TS.rg (TI.ra 5 [1, 5, 6, 17] (st 44 [(1, pt 1 0), (5, accV 2 v12.length), (6, iv v11), (17, .bool (decide (v11 < (p2.length : Int))))]) (TI.dn (NX.sq ?_))))))
  refine TS.cd (.tmp 17) (decide (v11 < (p2.length : Int))) (fun hc22 => ?_) (fun hc22 => ?_)
  · replace hF := of_pos hF hc22
    refine TS.sk (NX.sq (TS.sq (TS.bk 1 (TS.sq ?_))))
    have hX := of_guard hF
    clear hF
    obtain ⟨hg23, hF⟩ := hX
    have hX := of_guard hF
    clear hF
    obtain ⟨hg24, hF⟩ := hX
    have hX := of_guard hF
    clear hF
    obtain ⟨hg25, hF⟩ := hX
    have hX := of_guard hF
    clear hF
    obtain ⟨hg26, hF⟩ := hX
    refine TS.draw' (id := 8) (b := true) (ops := c26.s2.s2.s2.s2.s1.s2.bd.bd.s2.s1.bd.s1.rops) (fin := (qs (S26_0 v12 v11 p2 p0 p1) (H26_7 p2 p0 p1 v12 v11) [(17, 6, 7), (15, 5, 6), (9, 4, 5), (4, 3, 4)] [(15, 4), (9, 3)])) (fin2 := (qs (S26_0 v12 v11 p2 p0 p1) (H26_7 p2 p0 p1 v12 v11) [(17, 6, 7), (15, 5, 6), (9, 4, 5), (4, 3, 4)] [(15, 4), (9, 3)])) (a1 := (S26_0 v12 v11 p2 p0 p1)) (h1 := (H26_5 p2 p0 p1 v12 v11)) (a2 := (st 44 [(1, pt 1 0), (5, accV 2 v12.length), (6, iv v11), (7, pt 6 0)])) (h2 := (H26_5 p2 p0 p1 v12 v11)) [] (fun e he => by cases he) mixed (by kernel_rfl) rfl 18 (by kernel_rfl) [(15, 4), (9, 3)] ?_ rfl (.inr ⟨?_, (by kernel_rfl)⟩) ?_ [1, 5, 6, 7] [0, 1, 2, 5, 6] (by kernel_rfl) ?_
    · refine QI.run (s1 := (qs (S26_8 v12 v11 p2 p0 p1) (H26_11 p2 p0 p1 v12) [(4, 3, 4)] [])) 8 (by kernel_rfl) (by kernel_rfl) (QI.op (q := { val := sv 0 (List.length (List.take (Int.toNat v11) p2)) ANY }) (s1 := (qs (S26_6 v12 v11 p2 p0 p1) (H26_11 p2 p0 p1 v12) [(4, 3, 4)] [])) (by decide) (q_slAhi (P := Try.prog) (t := 26) (e := 72) (s := 2) (b := 0) (off := 0) (ys := p2) (k := .i64) (y := v11) (by kernel_rfl) (by kernel_rfl) (by kernel_rfl) hg23) (by kernel_rfl) ?_)
      refine QI.op (q := { val := ownV 4 (List.length (List.take (Int.toNat v11) p2)), new := [.cells 72 (List.flatMap e72 (List.take (Int.toNat v11) p2))], upd := some (3, .dead) }) (s1 := (qs (S26_4 v12 v11 p2 p0 p1) (H26_10 p2 p0 p1 v12 v11) [(9, 4, 5), (4, 3, 4)] [(9, 3)])) (by decide) (q_appL (P := Try.prog) (base := 1) (hp := (H26_11 p2 p0 p1 v12)) (n := 4) (s := 2) (enc := e72) (ts := #[26, 26]) (e := 72) (bytes := 16) (z := ag [iv 0, iv 0]) (y := sv 0 (List.length (List.take (Int.toNat v11) p2)) ANY) (ys := List.take (Int.toNat v11) p2) (b := 3) (t := 72) (by kernel_rfl) (by kernel_rfl) (by decide) (by kernel_rfl) (by kernel_rfl) (by kernel_rfl) (by kernel_rfl) (by kernel_rfl) (by kernel_rfl) (arg_win (e := 72) (off := 0) (L := p2) (ys := List.take (Int.toNat v11) p2) (win_take win_all _) (holds_acc (hp := (H26_11 p2 p0 p1 v12)) (b := 0) (T := 72) (enc := e72) (L := p2) (by kernel_rfl)) (fun _ => rfl) (by kernel_rfl)) (by first | omega | (simp only [List.length_append, List.length_cons, List.length_nil]; omega))) (by kernel_rfl) (QI.run (s1 := (qs (S26_3 v12 v11 p2 p0 p1) (H26_10 p2 p0 p1 v12 v11) [(9, 4, 5), (4, 3, 4)] [(9, 3)])) 4 (by kernel_rfl) (by kernel_rfl) (QI.op (q := { val := .slice (some ⟨0, 0 + Int.toNat (w64 (v11 + 1)) * 2, none⟩) (List.length (List.drop (Int.toNat (w64 (v11 + 1))) p2)) ANY }) (s1 := (qs (S26_2 v12 v11 p2 p0 p1) (H26_10 p2 p0 p1 v12 v11) [(9, 4, 5), (4, 3, 4)] [(9, 3)])) (by decide) (q_slAlo (P := Try.prog) (t := 26) (e := 72) (s := 2) (b := 0) (off := 0) (ys := p2) (k := .i64) (y := w64 (v11 + 1)) (by kernel_rfl) (by kernel_rfl) (by kernel_rfl) hg25) (by kernel_rfl) ?_))
      exact QI.op (q := { val := ownV 5 (List.length ((List.take (Int.toNat v11) p2) ++ (List.drop (Int.toNat (w64 (v11 + 1))) p2))), new := [.cells 72 (List.flatMap e72 ((List.take (Int.toNat v11) p2) ++ (List.drop (Int.toNat (w64 (v11 + 1))) p2)))], upd := some (4, .dead) }) (s1 := (qs (S26_1 v12 v11 p2 p0 p1) (H26_9 p2 p0 p1 v12 v11) [(15, 5, 6), (9, 4, 5), (4, 3, 4)] [(15, 4), (9, 3)])) (by decide) (q_appO (P := Try.prog) (base := 1) (hp := (H26_10 p2 p0 p1 v12 v11)) (n := 5) (s := 2) (enc := e72) (ts := #[26, 26]) (e := 72) (bytes := 16) (z := ag [iv 0, iv 0]) (y := .slice (some ⟨0, 0 + Int.toNat (w64 (v11 + 1)) * 2, none⟩) (List.length (List.drop (Int.toNat (w64 (v11 + 1))) p2)) ANY) (ys := List.drop (Int.toNat (w64 (v11 + 1))) p2) (b := 4) (l := List.take (Int.toNat v11) p2) (by kernel_rfl) (by kernel_rfl) (by decide) (by kernel_rfl) (by kernel_rfl) (by kernel_rfl) (by kernel_rfl) (by kernel_rfl) (arg_win (e := 72) (off := 0 + Int.toNat (w64 (v11 + 1)) * 2) (L := p2) (ys := List.drop (Int.toNat (w64 (v11 + 1))) p2) (win_drop win_all _) (holds_acc (hp := (H26_10 p2 p0 p1 v12 v11)) (b := 0) (T := 72) (enc := e72) (L := p2) (by kernel_rfl)) (fun _ => rfl) (by kernel_rfl)) (cells_ok (fun _ => rfl)) (fun _ => rfl) (by first | omega | (simp only [List.length_append, List.length_cons, List.length_nil]; omega))) (by kernel_rfl) (QI.run (s1 := (qs (S26_0 v12 v11 p2 p0 p1) (H26_7 p2 p0 p1 v12 v11) [(17, 6, 7), (15, 5, 6), (9, 4, 5), (4, 3, 4)] [(15, 4), (9, 3)])) 2 (by kernel_rfl) (by kernel_rfl) (QI.done (by kernel_rfl)))
    · refine QI.run (s1 := (qs (S26_8 v12 v11 p2 p0 p1) (H26_11 p2 p0 p1 v12) [(4, 3, 4)] [])) 8 (by kernel_rfl) (by kernel_rfl) (QI.op (q := { val := sv 0 (List.length (List.take (Int.toNat v11) p2)) ANY }) (s1 := (qs (S26_6 v12 v11 p2 p0 p1) (H26_11 p2 p0 p1 v12) [(4, 3, 4)] [])) (by decide) (q_slAhi (P := Try.prog) (t := 26) (e := 72) (s := 2) (b := 0) (off := 0) (ys := p2) (k := .i64) (y := v11) (by kernel_rfl) (by kernel_rfl) (by kernel_rfl) hg23) (by kernel_rfl) ?_)
      refine QI.op (q := { val := ownV 4 (List.length (List.take (Int.toNat v11) p2)), new := [.cells 72 (List.flatMap e72 (List.take (Int.toNat v11) p2))], upd := some (3, .dead) }) (s1 := (qs (S26_4 v12 v11 p2 p0 p1) (H26_10 p2 p0 p1 v12 v11) [(9, 4, 5), (4, 3, 4)] [(9, 3)])) (by decide) (q_appL (P := Try.prog) (base := 1) (hp := (H26_11 p2 p0 p1 v12)) (n := 4) (s := 2) (enc := e72) (ts := #[26, 26]) (e := 72) (bytes := 16) (z := ag [iv 0, iv 0]) (y := sv 0 (List.length (List.take (Int.toNat v11) p2)) ANY) (ys := List.take (Int.toNat v11) p2) (b := 3) (t := 72) (by kernel_rfl) (by kernel_rfl) (by decide) (by kernel_rfl) (by kernel_rfl) (by kernel_rfl) (by kernel_rfl) (by kernel_rfl) (by kernel_rfl) (arg_win (e := 72) (off := 0) (L := p2) (ys := List.take (Int.toNat v11) p2) (win_take win_all _) (holds_acc (hp := (H26_11 p2 p0 p1 v12)) (b := 0) (T := 72) (enc := e72) (L := p2) (by kernel_rfl)) (fun _ => rfl) (by kernel_rfl)) (by first | omega | (simp only [List.length_append, List.length_cons, List.length_nil]; omega))) (by kernel_rfl) (QI.run (s1 := (qs (S26_3 v12 v11 p2 p0 p1) (H26_10 p2 p0 p1 v12 v11) [(9, 4, 5), (4, 3, 4)] [(9, 3)])) 4 (by kernel_rfl) (by kernel_rfl) (QI.op (q := { val := .slice (some ⟨0, 0 + Int.toNat (w64 (v11 + 1)) * 2, none⟩) (List.length (List.drop (Int.toNat (w64 (v11 + 1))) p2)) ANY }) (s1 := (qs (S26_2 v12 v11 p2 p0 p1) (H26_10 p2 p0 p1 v12 v11) [(9, 4, 5), (4, 3, 4)] [(9, 3)])) (by decide) (q_slAlo (P := Try.prog) (t := 26) (e := 72) (s := 2) (b := 0) (off := 0) (ys := p2) (k := .i64) (y := w64 (v11 + 1)) (by kernel_rfl) (by kernel_rfl) (by kernel_rfl) hg25) (by kernel_rfl) ?_))
      exact QI.op (q := { val := ownV 5 (List.length ((List.take (Int.toNat v11) p2) ++ (List.drop (Int.toNat (w64 (v11 + 1))) p2))), new := [.cells 72 (List.flatMap e72 ((List.take (Int.toNat v11) p2) ++ (List.drop (Int.toNat (w64 (v11 + 1))) p2)))], upd := some (4, .dead) }) (s1 := (qs (S26_1 v12 v11 p2 p0 p1) (H26_9 p2 p0 p1 v12 v11) [(15, 5, 6), (9, 4, 5), (4, 3, 4)] [(15, 4), (9, 3)])) (by decide) (q_appO (P := Try.prog) (base := 1) (hp := (H26_10 p2 p0 p1 v12 v11)) (n := 5) (s := 2) (enc := e72) (ts := #[26, 26]) (e := 72) (bytes := 16) (z := ag [iv 0, iv 0]) (y := .slice (some ⟨0, 0 + Int.toNat (w64 (v11 + 1)) * 2, none⟩) (List.length (List.drop (Int.toNat (w64 (v11 + 1))) p2)) ANY) (ys := List.drop (Int.toNat (w64 (v11 + 1))) p2) (b := 4) (l := List.take (Int.toNat v11) p2) (by kernel_rfl) (by kernel_rfl) (by decide) (by kernel_rfl) (by kernel_rfl) (by kernel_rfl) (by kernel_rfl) (by kernel_rfl) (arg_win (e := 72) (off := 0 + Int.toNat (w64 (v11 + 1)) * 2) (L := p2) (ys := List.drop (Int.toNat (w64 (v11 + 1))) p2) (win_drop win_all _) (holds_acc (hp := (H26_10 p2 p0 p1 v12 v11)) (b := 0) (T := 72) (enc := e72) (L := p2) (by kernel_rfl)) (fun _ => rfl) (by kernel_rfl)) (cells_ok (fun _ => rfl)) (fun _ => rfl) (by first | omega | (simp only [List.length_append, List.length_cons, List.length_nil]; omega))) (by kernel_rfl) (QI.run (s1 := (qs (S26_0 v12 v11 p2 p0 p1) (H26_7 p2 p0 p1 v12 v11) [(17, 6, 7), (15, 5, 6), (9, 4, 5), (4, 3, 4)] [(15, 4), (9, 3)])) 2 (by kernel_rfl) (by kernel_rfl) (QI.done (by kernel_rfl)))
    · exact SI.run (a2 := (S26_0 v12 v11 p2 p0 p1)) (h2 := (H26_5 p2 p0 p1 v12 v11)) 1 (by kernel_rfl) (SI.done (by kernel_rfl))
    refine TS.sq ?_
    have hX := of_do hF
    clear hF
    obtain ⟨r27, h28, hF⟩ := hX
    refine TS.rg (TI.rn 1 [1, 5, 6, 37] [0, 1, 2, 5] (st 44 [(1, pt 1 0), (5, accV 2 v12.length), (6, iv v11), (37, ag [iv p0, iv p1, ownV 5 (List.length ((List.take (Int.toNat v11) p2) ++ (List.drop (Int.toNat (w64 (v11 + 1))) p2)))])]) [ab 72 e72 p2, cl 28 [iv p0, iv p1, sv 0 p2.length ANY], ab 3 e3 v12, .dead, .dead, .cells 72 (List.flatMap e72 ((List.take (Int.toNat v11) p2) ++ (List.drop (Int.toNat (w64 (v11 + 1))) p2))), .dead] (TI.callM (g := 50) (args := [ag [iv p0, iv p1, ownV 5 (List.length ((List.take (Int.toNat v11) p2) ++ (List.drop (Int.toNat (w64 (v11 + 1))) p2)))]]) (v := .bool r27) (new := []) (by kernel_rfl) (PureSim.ren (hc := [accB 72 (List.length ((List.take (Int.toNat v11) p2) ++ (List.drop (Int.toNat (w64 (v11 + 1))) p2))) (List.flatMap e72 ((List.take (Int.toNat v11) p2) ++ (List.drop (Int.toNat (w64 (v11 + 1))) p2)))]) (fun i => List.getD [(5, 0)] i (0, 0)) (C50 _ _ _ _ h28) (.cons (At.accU (by kernel_rfl) rfl (fun _ => rfl)) (.nil _)) (.cons (Rn.agg' (.fl (.fl (.cons (Rn.ownA (i' := 5) (Nat.le_of_ble_eq_true rfl) rfl (by simp only [List.length_set])) .nil)))) .nil) (.flat (by kernel_rfl)) newflat_nil) [1, 5, 6, 38] [0, 1, 2] (a2 := (st 44 [(1, pt 1 0), (5, accV 2 v12.length), (6, iv v11), (38, .bool r27)])) (h2 := [ab 72 e72 p2, cl 28 [iv p0, iv p1, sv 0 p2.length ANY], ab 3 e3 v12, .dead, .dead, .dead, .dead]) (by kernel_rfl) (TI.dn (NX.sq ?_))))
    have hX := of_do hF
    clear hF
    obtain ⟨m31, hm32, hF⟩ := hX
    have hK : NX Try.prog 1 1 [.bk 1, .sq c26.s2.s2.s2.s2.s1.s2.bd.bd.s2.s2] (Rd Try.prog 1 1 c26.s2.s2.s2.s2.s1.s2.bd.bd (P26l0 p0 p1 p2 r)) .normal (st 44 [(1, pt 1 0), (5, accV 2 m31.length), (6, iv v11)]) [ab 72 e72 p2, cl 28 [iv p0, iv p1, sv 0 p2.length ANY], ab 3 e3 m31] := by
      refine NX.bk (NX.sq (TS.rg (TI.ra 3 [1, 5, 6] (st 44 [(1, pt 1 0), (5, accV 2 m31.length), (6, iv (w64 (v11 + 1)))]) (TI.dn ?_))))
      exact Rd.again (a2 := (st 44 [(1, pt 1 0), (5, accV 2 m31.length), (6, iv (w64 (v11 + 1)))])) (h2 := [ab 72 e72 p2, cl 28 [iv p0, iv p1, sv 0 p2.length ANY], ab 3 e3 m31]) (Wk.an [1, 2] (.ac (.lt (.fl (.fl (.sl .nil))) (.ac (.nil _)))) [pt 1 0, accV 2 m31.length, iv (w64 (v11 + 1))] (.pp (.cons (Rn.acc (Nat.le_of_ble_eq_true rfl) rfl) (.fl .nil)))) (ih m31 (w64 (v11 + 1)) _ hF)
    clear hF
    have hF := hm32
    clear hm32
    refine TS.start ?_
    cases r27 with
    | true =>
      replace hF := of_pos hF rfl
      refine TS.cdT (.tmp 38) ?_
      have hX := of_guard hF
      clear hF
      obtain ⟨hg33, hF⟩ := hX
      refine TS.rg (TI.rn 3 [1, 6, 39, 41] [0, 1, 2, 7] (st 44 [(1, pt 1 0), (6, iv v11), (39, accV 2 v12.length), (41, sv 7 1 1)]) [ab 72 e72 p2, cl 28 [iv p0, iv p1, sv 0 p2.length ANY], ab 3 e3 v12, .dead, .dead, .dead, .dead, cl 3 [iv v11]] (TI.acc (l := v12) (b := 2) (ts := #[30, 30]) (e := 3) (bytes := 8) (z := iv 0) (y := sv 7 1 1) (ys := [v11]) (xs := List.flatMap e3 ([v11])) (m := 1) (s := 1) (enc := e3) (by kernel_rfl) (by kernel_rfl) (by decide) (by kernel_rfl) (by kernel_rfl) (by kernel_rfl) (by kernel_rfl) (by kernel_rfl) (by kernel_rfl) (by kernel_rfl) (by kernel_rfl) (fun _ => rfl) rfl rfl (by omega) [1, 6, 42] [0, 1, 8] (a2 := (st 44 [(1, pt 1 0), (6, iv v11), (42, sv 8 (List.length (v12 ++ [v11])) UNK)])) (h2 := [ab 72 e72 p2, cl 28 [iv p0, iv p1, sv 0 p2.length ANY], .dead, .dead, .dead, .dead, .dead, .dead, .cells 3 (List.flatMap e3 (v12 ++ [v11]))]) (by kernel_rfl) (TI.ra 1 [1, 5, 6] (st 44 [(1, pt 1 0), (5, sv 8 (List.length (v12 ++ [v11])) UNK), (6, iv v11)]) (TI.dn ?_))))
      have hF := Option.some.inj hF
      subst hF
      exact TS.weak (by exact (Wk.an [1, 8] (.ac (.lt (.fl (.fl (.sl .nil))) (.cons (At.accU (by kernel_rfl) rfl (fun _ => rfl)) (.nil _)))) [pt 1 0, sv 8 (List.length (v12 ++ [v11])) UNK, iv v11] (.pp (.cons (Rn.accU (Nat.le_of_ble_eq_true rfl) rfl (by simp)) (.fl .nil))))) hK
    | false =>
      replace hF := of_neg hF rfl
      refine TS.cdF (.tmp 38) (TS.sk ?_)
      have hF := Option.some.inj hF
      subst hF
      exact TS.weak (by exact (Wk.an [1, 2] (.ac (.lt (.fl (.fl (.sl .nil))) (.ac (.nil _)))) [pt 1 0, accV 2 v12.length, iv v11] (.pp (.cons (Rn.acc (Nat.le_of_ble_eq_true rfl) rfl) (.fl .nil))))) hK
  · replace hF := of_neg hF hc22
    refine TS.ex 0 (NX.sqX ?_)
    have hF := Option.some.inj hF
    subst hF
    exact Rd.out (e := .exit 0) (by intro h; cases h) (And.intro rfl (Wk.an [2] (.ac (.ac (.nil _))) [accV 2 v12.length] (.cons (Rn.acc (Nat.le_of_ble_eq_true rfl) rfl) .nil)))
theorem B26 (p0 : Int) (p1 : Int) (p2 : (List (Int × Int))) (r : ((List Int) × Int)) (hF : F26 p0 p1 p2 = some r) : TS Try.prog 1 1 c26 (st 44 [(0, ag [iv p0, iv p1, sv 0 p2.length ANY])]) [ab 72 e72 p2] (NX Try.prog 1 1 [] (FinP Try.prog Try.f26 1 (V26 1 r) (N26 1 r))) := by
  unfold F26 at hF
  refine TS.sq (TS.rg (TI.rn 3 [1] [0, 1] (st 44 [(1, pt 1 0)]) [ab 72 e72 p2, cl 28 [iv p0, iv p1, sv 0 p2.length ANY]] (TI.dn (NX.sq (TS.sq ?_)))))
  have hX := of_do hF
  clear hF
  obtain ⟨r1, h2, hF⟩ := hX
  refine TS.rg (TI.ra 1 [1, 8] (st 44 [(1, pt 1 0), (8, ag [iv p0, iv p1, sv 0 p2.length ANY])]) (TI.cp 24 [ag [iv p0, iv p1, sv 0 p2.length ANY]] (iv r1) [] (PureSim.ren (hc := [ab 72 e72 p2]) (fun i => List.getD [(0, 0)] i (0, 0)) (C24 _ _ _ _ h2) (.ac (.nil _)) (.cons (Rn.agg' (.fl (.fl (.cons (Rn.any _ _ _ _ _ _ (Nat.le_of_ble_eq_true rfl) rfl rfl (by decide)) .nil)))) .nil) (.flat (by kernel_rfl)) newflat_nil) (TI.ra 1 [1, 4] (st 44 [(1, pt 1 0), (4, iv r1)]) (TI.dn (NX.sq (TS.sq (TS.sq (TS.rg ?_))))))))
  refine TI.ra 2 [1, 4, 11] (st 44 [(1, pt 1 0), (4, iv r1), (11, .bool (r1 != 0))]) (TI.dn (NX.sq ?_))
  refine TS.cd (.tmp 11) (r1 != 0) (fun hc3 => ?_) (fun hc3 => ?_)
  · replace hF := of_pos hF hc3
    refine TS.sq (TS.rg (TI.rn 3 [2, 3] [0] (st 44 [(2, .slice none 0 0), (3, iv r1)]) [ab 72 e72 p2, .dead] (TI.dn (NX.sq (TS.rt (NX.sqR ?_))))))
    have hF := Option.some.inj hF
    subst hF
    exact ⟨.inr rfl, rfl, .tuple ⟨[.slice none 0 0, iv r1]⟩, by kernel_rfl, WkV.made (L := 1) (f := [2]) (by decide) (by decide) rfl (.cons At.accN (.nil _)) (Rn.tuple' (.cons Rn.accN (.fl .nil)))⟩
  · replace hF := of_neg hF hc3
    refine TS.sk (NX.sq (TS.sq (TS.rg (TI.ra 1 [1, 5] (st 44 [(1, pt 1 0), (5, .slice none 0 0)]) (TI.dn (NX.sq (TS.sq (TS.sq ?_))))))))
    refine TS.rg (TI.ra 1 [1, 5, 6] (st 44 [(1, pt 1 0), (5, .slice none 0 0), (6, iv 0)]) (TI.dn (NX.sq (TS.bk 0 ?_))))
    have hX := of_do hF
    clear hF
    obtain ⟨r34, h35, hF⟩ := hX
    refine TS.lp (TL.weak (a2 := (st 44 [(1, pt 1 0), (5, accV 2 (List.length ([]))), (6, iv 0)])) (h2 := [ab 72 e72 p2, cl 28 [iv p0, iv p1, sv 0 p2.length ANY], accB 3 (List.length ([])) (List.flatMap e3 ([]))]) (Wk.an [1, 2] (.ac (.lt (.fl (.fl (.sl .nil))) (.cons At.accN (.nil _)))) [pt 1 0, .slice none 0 0, iv 0] (.pp (.cons (Rn.accN) (.fl .nil)))) (TL.post (L26l0 p0 p1 p2 ([]) 0 r34 h35) ?_))
    rintro e a1 h1 hp
    obtain ⟨rfl, hw⟩ := hp
    refine ⟨(st 44 [(5, accV 1 r34.length)]), [ab 72 e72 p2, ab 3 e3 r34], (NX.bkX (NX.sq (TS.sq (TS.rg (TI.ra 3 [2, 3] (st 44 [(2, accV 1 r34.length), (3, iv 0)]) (TI.dn (NX.sq (TS.rt ?_)))))))), hw⟩
    have hF := Option.some.inj hF
    subst hF
    exact ⟨.inr rfl, rfl, .tuple ⟨[accV 1 r34.length, iv 0]⟩, by kernel_rfl, WkV.made (L := 1) (f := [1]) (by decide) (by decide) rfl (.ac (.nil _)) (Rn.tuple' (.cons (Rn.acc (Nat.le_of_ble_eq_true rfl) rfl) (.fl .nil)))⟩
theorem C26 (p0 : Int) (p1 : Int) (p2 : (List (Int × Int))) (r : ((List Int) × Int)) (hF : F26 p0 p1 p2 = some r) : PureSim Try.prog 26 [ag [iv p0, iv p1, sv 0 p2.length ANY]] [ab 72 e72 p2] (V26 1 r) (N26 1 r) :=
  PureSim.of_Fin Try.func26 (c := c26) (by kernel_rfl) (by kernel_rfl) 1 rfl [0] [0] (by kernel_rfl) (B26 p0 p1 p2 r hF)
noncomputable def c28 : Code := Try.f28.code
def S28_0 (p3 : (List Int)) (v27 : Int) (v28 : Int) (o64 : Int) (p2 : (List (Int × Int))) : CAct := (st 129 [(1, sv 1 p3.length ANY), (2, pt 2 0), (6, iv v27), (7, iv v28), (27, .bool (decide (v28 < (p3.length : Int)))), (30, sv 1 p3.length ANY), (31, iv v28), (32, .pointer (some ⟨1, 0 + (Int.toNat v28) * 1, none⟩)), (33, iv o64), (34, pt 2 2), (35, sv 0 p2.length ANY), (36, iv (p2.length : Int)), (37, iv (w64 ((p2.length : Int) - 1)))])
def S28_1 (p3 : (List Int)) (v27 : Int) (v28 : Int) : CAct := (st 129 [(1, sv 1 p3.length ANY), (2, pt 2 0), (6, iv v27), (7, iv v28), (27, .bool (decide (v28 < (p3.length : Int)))), (30, sv 1 p3.length ANY), (31, iv v28)])
def H28_2 (p2 : (List (Int × Int))) (p3 : (List Int)) (p0 : Int) (p1 : Int) (o70 : (Int × Int)) : List Blk := [ab 72 e72 p2, ab 3 e3 p3, cl 28 [iv p0, iv p1, sv 0 p2.length ANY], cl 72 [iv o70.1, iv o70.2]]
def H28_3 (p2 : (List (Int × Int))) (p3 : (List Int)) (p0 : Int) (p1 : Int) : List Blk := [ab 72 e72 p2, ab 3 e3 p3, cl 28 [iv p0, iv p1, sv 0 p2.length ANY], .dead]
def H28_4 (p2 : (List (Int × Int))) (p3 : (List Int)) (p0 : Int) (p1 : Int) : List Blk := [ab 72 e72 p2, ab 3 e3 p3, cl 28 [iv p0, iv p1, sv 0 p2.length ANY]]
def S28_5 (p3 : (List Int)) : CAct := (st 129 [(1, sv 1 p3.length ANY), (2, pt 2 0), (15, iv (p3.length : Int))])
def H28_6 (p2 : (List (Int × Int))) (p3 : (List Int)) : List Blk := [ab 72 e72 p2, ab 3 e3 p3, .dead]
def H28_7 (p2 : (List (Int × Int))) (p3 : (List Int)) : List Blk := [ab 72 e72 p2, ab 3 e3 p3]
def F28l0 (p0 : Int) (p1 : Int) (p2 : (List (Int × Int))) (p3 : (List Int)) (v27 : Int) (v28 : Int) : Option (Int ⊕ Int) :=
    if decide (v28 < (p3.length : Int)) then
      if (0 : Int) ≤ v28 ∧ v28 < (p3.length : Int) then
        some (List.getD p3 (Int.toNat v28) 0) >>= fun o64 =>
        F52 o64 0 (w64 ((p2.length : Int) - 1)) >>= fun r66 =>
        (
          if r66 then
            some (false)
          else
            some (true)
        : Option Bool) >>= fun m68 =>
        if m68 then
          some (.inl 6)
        else
          if (0 : Int) ≤ o64 ∧ o64 < (p2.length : Int) then
            some (List.getD p2 (Int.toNat o64) (0, 0)) >>= fun o70 =>
            if (Int.tmod v28 2) == 1 then
              if p0 = 0 then none else
              if (0 : Int) ≤ w64 (v28 - 1) ∧ w64 (v28 - 1) < (p3.length : Int) then
                some (List.getD p3 (Int.toNat (w64 (v28 - 1))) 0) >>= fun o75 =>
                if (0 : Int) ≤ o75 ∧ o75 < (p2.length : Int) then
                  some (List.getD p2 (Int.toNat o75) (0, 0)) >>= fun o78 =>
                  if (Int.tmod o70.1 p0) != (Int.tmod o78.1 p0) then
                    some (.inl 5)
                  else
                    F28l0 p0 p1 p2 p3 (w64 (v27 - o70.2)) (w64 (v28 + 1))
                else none
              else none
            else
              (
                if decide (v28 > 0) then
                  if p1 = 0 then none else
                  if (0 : Int) ≤ w64 (v28 - 1) ∧ w64 (v28 - 1) < (p3.length : Int) then
                    some (List.getD p3 (Int.toNat (w64 (v28 - 1))) 0) >>= fun o84 =>
                    if (0 : Int) ≤ o84 ∧ o84 < (p2.length : Int) then
                      some (List.getD p2 (Int.toNat o84) (0, 0)) >>= fun o87 =>
                      some ((Int.tmod o70.1 p1) != (Int.tmod o87.1 p1))
                    else none
                  else none
                else
                  some (false)
              : Option Bool) >>= fun m89 =>
              if m89 then
                some (.inl 5)
              else
                F28l0 p0 p1 p2 p3 (w64 (v27 + o70.2)) (w64 (v28 + 1))
          else none
      else none
    else
      some (.inr v27)
  partial_fixpoint
def F28 (p0 : Int) (p1 : Int) (p2 : (List (Int × Int))) (p3 : (List Int)) : Option Int :=
  F24 p0 p1 p2 >>= fun r1 =>
  if r1 != 0 then
    some r1
  else
    F52 (p3.length : Int) 2 60 >>= fun r4 =>
    (
      if r4 then
        some ((Int.tmod (p3.length : Int) 2) == 1)
      else
        some (true)
    : Option Bool) >>= fun m6 =>
    if m6 then
      some 4
    else
      F28l0 p0 p1 p2 p3 0 0 >>= fun r92 =>
      match r92 with
      | .inl o94 =>
        some o94
      | .inr o95 =>
        if (0 : Int) ≤ 0 ∧ 0 < (p3.length : Int) then
          some (List.getD p3 (Int.toNat 0) 0) >>= fun o97 =>
          if (0 : Int) ≤ o97 ∧ o97 < (p2.length : Int) then
            some (List.getD p2 (Int.toNat o97) (0, 0)) >>= fun o100 =>
            if p1 = 0 then none else
            if (0 : Int) ≤ w64 ((p3.length : Int) - 1) ∧ w64 ((p3.length : Int) - 1) < (p3.length : Int) then
              some (List.getD p3 (Int.toNat (w64 ((p3.length : Int) - 1))) 0) >>= fun o104 =>
              if (0 : Int) ≤ o104 ∧ o104 < (p2.length : Int) then
                some (List.getD p2 (Int.toNat o104) (0, 0)) >>= fun o107 =>
                if (Int.tmod o100.1 p1) != (Int.tmod o107.1 p1) then
                  some 5
                else
                  if o95 == 0 then
                    some 12
                  else
                    some 0
              else none
            else none
          else none
        else none
def V28 (b : Nat) (r : Int) : Value := iv r
def N28 (b : Nat) (r : Int) : List Blk := []
def P28l0 (p0 : Int) (p1 : Int) (p2 : (List (Int × Int))) (p3 : (List Int)) (r : (Int ⊕ Int)) : Post := fun e a h => (match r with | .inl q0 => e = .ret ∧ Wk Try.prog 2 2 a h (st 129 [(4, iv q0)]) (H28_7 p2 p3) | .inr q0 => e = .exit 0 ∧ Wk Try.prog 2 2 a h (st 129 [(1, sv 1 p3.length ANY), (2, pt 2 0), (6, iv q0)]) (H28_4 p2 p3 p0 p1))
theorem L28l0 (p0 : Int) (p1 : Int) (p2 : (List (Int × Int))) (p3 : (List Int)) (v27 : Int) (v28 : Int) (r : (Int ⊕ Int)) (hF : F28l0 p0 p1 p2 p3 v27 v28 = some r) : TL Try.prog 2 2 c28.s2.s2.s2.s2.s2.s1.s2.bd.bd (st 129 [(1, sv 1 p3.length ANY), (2, pt 2 0), (6, iv v27), (7, iv v28)]) (H28_4 p2 p3 p0 p1) (P28l0 p0 p1 p2 p3 r) := by
  refine F28l0.partial_correctness p0 p1 p2 p3 (motive := fun v27 v28 r => TL Try.prog 2 2 c28.s2.s2.s2.s2.s2.s1.s2.bd.bd (st 129 [(1, sv 1 p3.length ANY), (2, pt 2 0), (6, iv v27), (7, iv v28)]) (H28_4 p2 p3 p0 p1) (P28l0 p0 p1 p2 p3 r)) ?_ v27 v28 r hF
  clear hF r v27 v28
  intro again ih v27 v28 r hF
  refine TL.round (TS.sq (TS.sq (TS.rg (TI.ra 4 [1, 2, 6, 7, 27] (st 129 [(1, sv 1 p3.length ANY), (2, pt 2 0), (6, iv v27), (7, iv v28), (27, .bool (decide (v28 < (p3.length : Int))))]) (TI.dn (NX.sq ?_))))))
  refine TS.cd (.tmp 27) (decide (v28 < (p3.length : Int))) (fun hc62 => ?_) (fun hc62 => ?_)
  · replace hF := of_pos hF hc62
    refine TS.sk (NX.sq (TS.sq (TS.bk 1 (TS.sq (TS.sq ?_)))))
    have hX := of_guard hF
    clear hF
    obtain ⟨hg63, hF⟩ := hX
    have hX := of_do hF
    clear hF
    obtain ⟨o64, h65, hF⟩ := hX
    replace h65 := Option.some.inj h65
    have hX := of_do hF
    clear hF
    obtain ⟨r66, h67, hF⟩ := hX
    have hX := of_do hF
    clear hF
    obtain ⟨m68, hm91, hF⟩ := hX
    have hK : NX Try.prog 2 2 [.sq c28.s2.s2.s2.s2.s2.s1.s2.bd.bd.s2.s1.bd.s1.s2, .sq c28.s2.s2.s2.s2.s2.s1.s2.bd.bd.s2.s1.bd.s2, .bk 1, .sq c28.s2.s2.s2.s2.s2.s1.s2.bd.bd.s2.s2] (Rd Try.prog 2 2 c28.s2.s2.s2.s2.s2.s1.s2.bd.bd (P28l0 p0 p1 p2 p3 r)) .normal (st 129 [(1, sv 1 p3.length ANY), (2, pt 2 0), (6, iv v27), (7, iv v28), (39, .bool m68)]) (H28_4 p2 p3 p0 p1) := by
      refine NX.sq ?_
      cases m68 with
      | true =>
        replace hF := of_pos hF rfl
        refine TS.cdT (.tmp 39) (TS.sq (TS.rg (TI.rn 1 [4] [0, 1] (st 129 [(4, iv 6)]) (H28_6 p2 p3) (TI.dn (NX.sq (TS.rt (NX.sqR (NX.bkR ?_))))))))
        refine NX.sqR ?_
        have hF := Option.some.inj hF
        subst hF
        exact Rd.out (e := .ret) (by intro h; cases h) (And.intro rfl (Wk.an [] (.ac (.ac (.nil _))) [iv 6] (.fl .nil)))
      | false =>
        replace hF := of_neg hF rfl
        refine TS.cdF (.tmp 39) (TS.sk (NX.sq (TS.sq ?_)))
        have hX := of_guard hF
        clear hF
        obtain ⟨hg69, hF⟩ := hX
        have hX := of_do hF
        clear hF
        obtain ⟨o70, h71, hF⟩ := hX
        replace h71 := Option.some.inj h71
        refine TS.dp [] (fun e he => by cases he) mixed 9 [1, 2, 6, 7, 8] [0, 1, 2, 3] (st 129 [(1, sv 1 p3.length ANY), (2, pt 2 0), (6, iv v27), (7, iv v28), (8, pt 3 0)]) (H28_2 p2 p3 p0 p1 o70) ?_ ?_
        · exact QJ.rn (qs (st 129 [(1, sv 1 p3.length ANY), (2, pt 2 0), (6, iv v27), (7, iv v28), (39, .bool false), (40, pt 2 2), (41, sv 0 p2.length ANY), (42, sv 1 p3.length ANY), (43, iv v28)]) (H28_4 p2 p3 p0 p1) [] []) 4 (QJ.o { val := .pointer (some ⟨1, 0 + (Int.toNat v28) * 1, none⟩) } (q_ixS 1 0 ((Int.toNat v28) * 1) (by kernel_rfl) hg63) (QJ.o { val := iv o64 } (q_n1a Try.prog (H28_4 p2 p3 p0 p1) 3 1 (0 + (Int.toNat v28) * 1) p3 e3 1 3 (Int.toNat v28) 0 0 h65) (QJ.o { val := .pointer (some ⟨0, 0 + (Int.toNat o64) * 2, none⟩) } (q_ixS 0 0 ((Int.toNat o64) * 2) (by kernel_rfl) hg69) (QJ.o { val := ag [iv o70.1, iv o70.2] } (q_nAa Try.prog (H28_4 p2 p3 p0 p1) 72 0 (0 + (Int.toNat o64) * 2) p2 e72 2 72 (Int.toNat o64) (0, 0) h71) (QJ.rn (qs (st 129 [(1, sv 1 p3.length ANY), (2, pt 2 0), (6, iv v27), (7, iv v28), (8, pt 3 0), (39, .bool false), (40, pt 2 2), (41, sv 0 p2.length ANY), (42, sv 1 p3.length ANY), (43, iv v28), (44, .pointer (some ⟨1, 0 + (Int.toNat v28) * 1, none⟩)), (45, iv o64), (46, .pointer (some ⟨0, 0 + (Int.toNat o64) * 2, none⟩)), (47, ag [iv o70.1, iv o70.2])]) [ab 72 e72 p2, ab 3 e3 p3, cl 28 [iv p0, iv p1, sv 0 p2.length ANY], cl 72 [iv 0, iv 0]] [(8, 3, 4)] []) 1 (QJ.dn ⟨rfl, SJ.la⟩))))))
        refine TS.sq (TS.rg (TI.ra 3 [1, 2, 6, 7, 8, 50] (st 129 [(1, sv 1 p3.length ANY), (2, pt 2 0), (6, iv v27), (7, iv v28), (8, pt 3 0), (50, .bool ((Int.tmod v28 2) == 1))]) (TI.dn (NX.sq ?_))))
        refine TS.cd (.tmp 50) ((Int.tmod v28 2) == 1) (fun hc72 => ?_) (fun hc72 => ?_)
        · replace hF := of_pos hF hc72
          refine TS.sq (TS.rg (TI.ra 5 [1, 2, 6, 7, 8] (st 129 [(1, sv 1 p3.length ANY), (2, pt 2 0), (6, iv (w64 (v27 - o70.2))), (7, iv v28), (8, pt 3 0)]) (TI.dn (NX.sq (TS.sq ?_)))))
          have hX := of_guardn hF
          clear hF
          obtain ⟨hg73, hF⟩ := hX
          have hX := of_guard hF
          clear hF
          obtain ⟨hg74, hF⟩ := hX
          have hX := of_do hF
          clear hF
          obtain ⟨o75, h76, hF⟩ := hX
          replace h76 := Option.some.inj h76
          have hX := of_guard hF
          clear hF
          obtain ⟨hg77, hF⟩ := hX
          have hX := of_do hF
          clear hF
          obtain ⟨o78, h79, hF⟩ := hX
          replace h79 := Option.some.inj h79
          refine TS.dp [] (fun e he => by cases he) mixed 18 [1, 2, 6, 7, 73] [0, 1, 2] (st 129 [(1, sv 1 p3.length ANY), (2, pt 2 0), (6, iv (w64 (v27 - o70.2))), (7, iv v28), (73, .bool ((Int.tmod o70.1 p0) != (Int.tmod o78.1 p0)))]) (H28_3 p2 p3 p0 p1) ?_ ?_
          · refine QJ.rn (qs (st 129 [(1, sv 1 p3.length ANY), (2, pt 2 0), (6, iv (w64 (v27 - o70.2))), (7, iv v28), (8, pt 3 0), (55, pt 3 0), (56, iv o70.1), (57, pt 2 0), (58, iv p0)]) (H28_2 p2 p3 p0 p1 o70) [] []) 4 (QJ.o { val := iv (Int.tmod o70.1 p0) } (q_int (P := Try.prog) (op := .rem) (ty := 3) (ox := (.tmp 56)) (oy := (.tmp 58)) (k := .i64) (k' := .i64) (y := o70.1) (z := p0) (by kernel_rfl) (rem_ok hg73)) (QJ.rn (qs (st 129 [(1, sv 1 p3.length ANY), (2, pt 2 0), (6, iv (w64 (v27 - o70.2))), (7, iv v28), (8, pt 3 0), (55, pt 3 0), (56, iv o70.1), (57, pt 2 0), (58, iv p0), (59, iv (Int.tmod o70.1 p0)), (60, pt 2 2), (61, sv 0 p2.length ANY), (62, sv 1 p3.length ANY), (63, iv v28), (64, iv (w64 (v28 - 1)))]) (H28_2 p2 p3 p0 p1 o70) [] []) 5 (QJ.o { val := .pointer (some ⟨1, 0 + (Int.toNat (w64 (v28 - 1))) * 1, none⟩) } (q_ixS 1 0 ((Int.toNat (w64 (v28 - 1))) * 1) (by kernel_rfl) hg74) (QJ.o { val := iv o75 } (q_n1a Try.prog (H28_2 p2 p3 p0 p1 o70) 3 1 (0 + (Int.toNat (w64 (v28 - 1))) * 1) p3 e3 1 3 (Int.toNat (w64 (v28 - 1))) 0 0 h76) (QJ.o { val := .pointer (some ⟨0, 0 + (Int.toNat o75) * 2, none⟩) } (q_ixS 0 0 ((Int.toNat o75) * 2) (by kernel_rfl) hg77) (QJ.rn (qs (st 129 [(1, sv 1 p3.length ANY), (2, pt 2 0), (6, iv (w64 (v27 - o70.2))), (7, iv v28), (8, pt 3 0), (55, pt 3 0), (56, iv o70.1), (57, pt 2 0), (58, iv p0), (59, iv (Int.tmod o70.1 p0)), (60, pt 2 2), (61, sv 0 p2.length ANY), (62, sv 1 p3.length ANY), (63, iv v28), (64, iv (w64 (v28 - 1))), (65, .pointer (some ⟨1, 0 + (Int.toNat (w64 (v28 - 1))) * 1, none⟩)), (66, iv o75), (67, .pointer (some ⟨0, 0 + (Int.toNat o75) * 2, none⟩)), (68, .pointer (some ⟨0, 0 + (Int.toNat o75) * 2, none⟩))]) (H28_2 p2 p3 p0 p1 o70) [] []) 1 (QJ.o { val := iv o78.1 } (q_n1a Try.prog (H28_2 p2 p3 p0 p1 o70) 3 0 (0 + (Int.toNat o75) * 2) p2 e72 2 72 (Int.toNat o75) 0 (0, 0) h79) (QJ.rn (qs (st 129 [(1, sv 1 p3.length ANY), (2, pt 2 0), (6, iv (w64 (v27 - o70.2))), (7, iv v28), (8, pt 3 0), (55, pt 3 0), (56, iv o70.1), (57, pt 2 0), (58, iv p0), (59, iv (Int.tmod o70.1 p0)), (60, pt 2 2), (61, sv 0 p2.length ANY), (62, sv 1 p3.length ANY), (63, iv v28), (64, iv (w64 (v28 - 1))), (65, .pointer (some ⟨1, 0 + (Int.toNat (w64 (v28 - 1))) * 1, none⟩)), (66, iv o75), (67, .pointer (some ⟨0, 0 + (Int.toNat o75) * 2, none⟩)), (68, .pointer (some ⟨0, 0 + (Int.toNat o75) * 2, none⟩)), (69, iv o78.1), (70, pt 2 0), (71, iv p0)]) (H28_2 p2 p3 p0 p1 o70) [] []) 2 ?_))))))))
            exact QJ.o { val := iv (Int.tmod o78.1 p0) } (q_int (P := Try.prog) (op := .rem) (ty := 3) (ox := (.tmp 69)) (oy := (.tmp 71)) (k := .i64) (k' := .i64) (y := o78.1) (z := p0) (by kernel_rfl) (rem_ok hg73)) (QJ.dn ⟨rfl, SJ.la⟩)
          refine TS.cd (.tmp 73) ((Int.tmod o70.1 p0) != (Int.tmod o78.1 p0)) (fun hc80 => ?_) (fun hc80 => ?_)
          · replace hF := of_pos hF hc80
            refine TS.sq (TS.rg (TI.rn 1 [4] [0, 1] (st 129 [(4, iv 5)]) [ab 72 e72 p2, ab 3 e3 p3, .dead, .dead] (TI.dn (NX.sq (TS.rt (NX.bkR (NX.sqR ?_)))))))
            have hF := Option.some.inj hF
            subst hF
            exact Rd.out (e := .ret) (by intro h; cases h) (And.intro rfl (Wk.an [] (.ac (.ac (.nil _))) [iv 5] (.fl .nil)))
          · replace hF := of_neg hF hc80
            refine TS.sk (NX.bk (NX.sq (TS.rg (TI.ra 3 [1, 2, 6, 7] (st 129 [(1, sv 1 p3.length ANY), (2, pt 2 0), (6, iv (w64 (v27 - o70.2))), (7, iv (w64 (v28 + 1)))]) (TI.dn ?_)))))
            exact Rd.again (a2 := (st 129 [(1, sv 1 p3.length ANY), (2, pt 2 0), (6, iv (w64 (v27 - o70.2))), (7, iv (w64 (v28 + 1)))])) (h2 := (H28_4 p2 p3 p0 p1)) (Wk.an [2] (.ac (.ac (.lt (.fl (.fl (.sl .nil))) (.nil _)))) [sv 1 p3.length ANY, pt 2 0, iv (w64 (v27 - o70.2)), iv (w64 (v28 + 1))] (.sl (.pp (.fl (.fl .nil))))) (ih (w64 (v27 - o70.2)) (w64 (v28 + 1)) _ hF)
        · replace hF := of_neg hF hc72
          refine TS.sq (TS.rg (TI.ra 5 [1, 2, 6, 7, 8] (st 129 [(1, sv 1 p3.length ANY), (2, pt 2 0), (6, iv (w64 (v27 + o70.2))), (7, iv v28), (8, pt 3 0)]) (TI.dn (NX.sq (TS.sq ?_)))))
          have hX := of_do hF
          clear hF
          obtain ⟨m89, hm90, hF⟩ := hX
          have hK : NX Try.prog 2 2 [.sq c28.s2.s2.s2.s2.s2.s1.s2.bd.bd.s2.s1.bd.s2.s2.s2.el.s2.s2, .bk 1, .sq c28.s2.s2.s2.s2.s2.s1.s2.bd.bd.s2.s2] (Rd Try.prog 2 2 c28.s2.s2.s2.s2.s2.s1.s2.bd.bd (P28l0 p0 p1 p2 p3 r)) .normal (st 129 [(1, sv 1 p3.length ANY), (2, pt 2 0), (6, iv (w64 (v27 + o70.2))), (7, iv v28), (100, .bool m89)]) (H28_3 p2 p3 p0 p1) := by
            refine NX.sq ?_
            cases m89 with
            | true =>
              replace hF := of_pos hF rfl
              refine TS.cdT (.tmp 100) (TS.sq (TS.rg (TI.rn 1 [4] [0, 1] (st 129 [(4, iv 5)]) [ab 72 e72 p2, ab 3 e3 p3, .dead, .dead] (TI.dn (NX.sq (TS.rt (NX.bkR (NX.sqR ?_))))))))
              have hF := Option.some.inj hF
              subst hF
              exact Rd.out (e := .ret) (by intro h; cases h) (And.intro rfl (Wk.an [] (.ac (.ac (.nil _))) [iv 5] (.fl .nil)))
            | false =>
              replace hF := of_neg hF rfl
              refine TS.cdF (.tmp 100) (TS.sk (NX.bk (NX.sq (TS.rg (TI.ra 3 [1, 2, 6, 7] (st 129 [(1, sv 1 p3.length ANY), (2, pt 2 0), (6, iv (w64 (v27 + o70.2))), (7, iv (w64 (v28 + 1)))]) (TI.dn ?_))))))
              exact Rd.again (a2 := (st 129 [(1, sv 1 p3.length ANY), (2, pt 2 0), (6, iv (w64 (v27 + o70.2))), (7, iv (w64 (v28 + 1)))])) (h2 := (H28_4 p2 p3 p0 p1)) (Wk.an [2] (.ac (.ac (.lt (.fl (.fl (.sl .nil))) (.nil _)))) [sv 1 p3.length ANY, pt 2 0, iv (w64 (v27 + o70.2)), iv (w64 (v28 + 1))] (.sl (.pp (.fl (.fl .nil))))) (ih (w64 (v27 + o70.2)) (w64 (v28 + 1)) _ hF)
          rcases Bool.eq_false_or_eq_true (decide (v28 > 0)) with hc81 | hc81
          · replace hm90 := of_pos hm90 hc81
            have hX := of_guardn hm90
            clear hm90
            obtain ⟨hg82, hm90⟩ := hX
            have hX := of_guard hm90
            clear hm90
            obtain ⟨hg83, hm90⟩ := hX
            have hX := of_do hm90
            clear hm90
            obtain ⟨o84, h85, hm90⟩ := hX
            replace h85 := Option.some.inj h85
            have hX := of_guard hm90
            clear hm90
            obtain ⟨hg86, hm90⟩ := hX
            have hX := of_do hm90
            clear hm90
            obtain ⟨o87, h88, hm90⟩ := hX
            replace h88 := Option.some.inj h88
            have hm90 := Option.some.inj hm90
            subst hm90
            refine TS.dp [] (fun e he => by cases he) mixed 21 [1, 2, 6, 7, 100] [0, 1, 2] (st 129 [(1, sv 1 p3.length ANY), (2, pt 2 0), (6, iv (w64 (v27 + o70.2))), (7, iv v28), (100, .bool ((Int.tmod o70.1 p1) != (Int.tmod o87.1 p1)))]) (H28_3 p2 p3 p0 p1) ?_ ?_
            · refine QJ.rn (qs (st 129 [(1, sv 1 p3.length ANY), (2, pt 2 0), (6, iv (w64 (v27 + o70.2))), (7, iv v28), (8, pt 3 0), (78, iv v28)]) (H28_2 p2 p3 p0 p1 o70) [] []) 1 (QJ.o { val := .bool true } (q_conv (e := decide (v28 > 0)) (b := true) (by kernel_rfl) hc81) (QJ.rn (qs (st 129 [(1, sv 1 p3.length ANY), (2, pt 2 0), (6, iv (w64 (v27 + o70.2))), (7, iv v28), (8, pt 3 0), (78, iv v28), (79, .bool true), (80, .bool true), (81, pt 3 0), (82, iv o70.1), (83, pt 2 1), (84, iv p1)]) (H28_2 p2 p3 p0 p1 o70) [] []) 5 (QJ.o { val := iv (Int.tmod o70.1 p1) } (q_int (P := Try.prog) (op := .rem) (ty := 3) (ox := (.tmp 82)) (oy := (.tmp 84)) (k := .i64) (k' := .i64) (y := o70.1) (z := p1) (by kernel_rfl) (rem_ok hg82)) (QJ.rn (qs (st 129 [(1, sv 1 p3.length ANY), (2, pt 2 0), (6, iv (w64 (v27 + o70.2))), (7, iv v28), (8, pt 3 0), (78, iv v28), (79, .bool true), (80, .bool true), (81, pt 3 0), (82, iv o70.1), (83, pt 2 1), (84, iv p1), (85, iv (Int.tmod o70.1 p1)), (86, pt 2 2), (87, sv 0 p2.length ANY), (88, sv 1 p3.length ANY), (89, iv v28), (90, iv (w64 (v28 - 1)))]) (H28_2 p2 p3 p0 p1 o70) [] []) 5 (QJ.o { val := .pointer (some ⟨1, 0 + (Int.toNat (w64 (v28 - 1))) * 1, none⟩) } (q_ixS 1 0 ((Int.toNat (w64 (v28 - 1))) * 1) (by kernel_rfl) hg83) (QJ.o { val := iv o84 } (q_n1a Try.prog (H28_2 p2 p3 p0 p1 o70) 3 1 (0 + (Int.toNat (w64 (v28 - 1))) * 1) p3 e3 1 3 (Int.toNat (w64 (v28 - 1))) 0 0 h85) (QJ.o { val := .pointer (some ⟨0, 0 + (Int.toNat o84) * 2, none⟩) } (q_ixS 0 0 ((Int.toNat o84) * 2) (by kernel_rfl) hg86) (QJ.rn (qs (st 129 [(1, sv 1 p3.length ANY), (2, pt 2 0), (6, iv (w64 (v27 + o70.2))), (7, iv v28), (8, pt 3 0), (78, iv v28), (79, .bool true), (80, .bool true), (81, pt 3 0), (82, iv o70.1), (83, pt 2 1), (84, iv p1), (85, iv (Int.tmod o70.1 p1)), (86, pt 2 2), (87, sv 0 p2.length ANY), (88, sv 1 p3.length ANY), (89, iv v28), (90, iv (w64 (v28 - 1))), (91, .pointer (some ⟨1, 0 + (Int.toNat (w64 (v28 - 1))) * 1, none⟩)), (92, iv o84), (93, .pointer (some ⟨0, 0 + (Int.toNat o84) * 2, none⟩)), (94, .pointer (some ⟨0, 0 + (Int.toNat o84) * 2, none⟩))]) (H28_2 p2 p3 p0 p1 o70) [] []) 1 ?_))))))))
              exact QJ.o { val := iv o87.1 } (q_n1a Try.prog (H28_2 p2 p3 p0 p1 o70) 3 0 (0 + (Int.toNat o84) * 2) p2 e72 2 72 (Int.toNat o84) 0 (0, 0) h88) (QJ.rn (qs (st 129 [(1, sv 1 p3.length ANY), (2, pt 2 0), (6, iv (w64 (v27 + o70.2))), (7, iv v28), (8, pt 3 0), (78, iv v28), (79, .bool true), (80, .bool true), (81, pt 3 0), (82, iv o70.1), (83, pt 2 1), (84, iv p1), (85, iv (Int.tmod o70.1 p1)), (86, pt 2 2), (87, sv 0 p2.length ANY), (88, sv 1 p3.length ANY), (89, iv v28), (90, iv (w64 (v28 - 1))), (91, .pointer (some ⟨1, 0 + (Int.toNat (w64 (v28 - 1))) * 1, none⟩)), (92, iv o84), (93, .pointer (some ⟨0, 0 + (Int.toNat o84) * 2, none⟩)), (94, .pointer (some ⟨0, 0 + (Int.toNat o84) * 2, none⟩)), (95, iv o87.1), (96, pt 2 1), (97, iv p1)]) (H28_2 p2 p3 p0 p1 o70) [] []) 2 (QJ.o { val := iv (Int.tmod o87.1 p1) } (q_int (P := Try.prog) (op := .rem) (ty := 3) (ox := (.tmp 95)) (oy := (.tmp 97)) (k := .i64) (k' := .i64) (y := o87.1) (z := p1) (by kernel_rfl) (rem_ok hg82)) (QJ.dn ⟨rfl, SJ.la⟩)))
            exact hK
          · replace hm90 := of_neg hm90 hc81
            have hm90 := Option.some.inj hm90
            subst hm90
            refine TS.dp [] (fun e he => by cases he) mixed 21 [1, 2, 6, 7, 100] [0, 1, 2] (st 129 [(1, sv 1 p3.length ANY), (2, pt 2 0), (6, iv (w64 (v27 + o70.2))), (7, iv v28), (100, .bool false)]) (H28_3 p2 p3 p0 p1) ?_ ?_
            · exact QJ.rn (qs (st 129 [(1, sv 1 p3.length ANY), (2, pt 2 0), (6, iv (w64 (v27 + o70.2))), (7, iv v28), (8, pt 3 0), (78, iv v28)]) (H28_2 p2 p3 p0 p1 o70) [] []) 1 (QJ.o { val := .bool false } (q_conv (e := decide (v28 > 0)) (b := false) (by kernel_rfl) hc81) (QJ.rn (qs (st 129 [(1, sv 1 p3.length ANY), (2, pt 2 0), (6, iv (w64 (v27 + o70.2))), (7, iv v28), (8, pt 3 0), (78, iv v28), (79, .bool false), (80, .bool false), (81, undef), (82, undef), (83, undef), (84, undef), (85, undef), (86, undef), (87, undef), (88, undef), (89, undef), (90, undef), (91, undef), (92, undef), (93, undef), (94, undef), (95, undef), (96, undef), (97, undef), (98, undef)]) (H28_2 p2 p3 p0 p1 o70) [] []) 19 (QJ.dn ⟨rfl, SJ.la⟩)))
            exact hK
    cases r66 with
    | true =>
      replace hm91 := of_pos hm91 rfl
      have hm91 := Option.some.inj hm91
      subst hm91
      have hT : ∀ e ∈ ([⟨52, [iv o64, iv 0, iv (w64 ((p2.length : Int) - 1))], (H28_4 p2 p3 p0 p1), .bool true, []⟩] : List Entry), PureSim Try.prog e.g e.args e.h e.v e.new := by
        intro e he
        simp only [List.mem_cons, List.not_mem_nil, or_false] at he
        rcases he with rfl
        · exact PureSim.ak (C52 _ _ _ _ h67)
      refine TS.dp [⟨52, [iv o64, iv 0, iv (w64 ((p2.length : Int) - 1))], (H28_4 p2 p3 p0 p1), .bool true, []⟩] hT mixed 8 [1, 2, 6, 7, 39] [0, 1, 2] (st 129 [(1, sv 1 p3.length ANY), (2, pt 2 0), (6, iv v27), (7, iv v28), (39, .bool false)]) (H28_4 p2 p3 p0 p1) ?_ ?_
      · exact QJ.rn (qs (S28_1 p3 v27 v28) (H28_4 p2 p3 p0 p1) [] []) 2 (QJ.o { val := .pointer (some ⟨1, 0 + (Int.toNat v28) * 1, none⟩) } (q_ixS 1 0 ((Int.toNat v28) * 1) (by kernel_rfl) hg63) (QJ.o { val := iv o64 } (q_n1a Try.prog (H28_4 p2 p3 p0 p1) 3 1 (0 + (Int.toNat v28) * 1) p3 e3 1 3 (Int.toNat v28) 0 0 h65) (QJ.rn (qs (S28_0 p3 v27 v28 o64 p2) (H28_4 p2 p3 p0 p1) [] []) 4 (QJ.dn ⟨rfl, (SJ.o { val := .bool true, new := [] } (qOf_call (g := 52) (args := [iv o64, iv 0, iv (w64 ((p2.length : Int) - 1))]) (by kernel_rfl) lookC_hit) SJ.la)⟩))))
      exact hK
    | false =>
      replace hm91 := of_neg hm91 rfl
      have hm91 := Option.some.inj hm91
      subst hm91
      have hT : ∀ e ∈ ([⟨52, [iv o64, iv 0, iv (w64 ((p2.length : Int) - 1))], (H28_4 p2 p3 p0 p1), .bool false, []⟩] : List Entry), PureSim Try.prog e.g e.args e.h e.v e.new := by
        intro e he
        simp only [List.mem_cons, List.not_mem_nil, or_false] at he
        rcases he with rfl
        · exact PureSim.ak (C52 _ _ _ _ h67)
      refine TS.dp [⟨52, [iv o64, iv 0, iv (w64 ((p2.length : Int) - 1))], (H28_4 p2 p3 p0 p1), .bool false, []⟩] hT mixed 8 [1, 2, 6, 7, 39] [0, 1, 2] (st 129 [(1, sv 1 p3.length ANY), (2, pt 2 0), (6, iv v27), (7, iv v28), (39, .bool true)]) (H28_4 p2 p3 p0 p1) ?_ ?_
      · exact QJ.rn (qs (S28_1 p3 v27 v28) (H28_4 p2 p3 p0 p1) [] []) 2 (QJ.o { val := .pointer (some ⟨1, 0 + (Int.toNat v28) * 1, none⟩) } (q_ixS 1 0 ((Int.toNat v28) * 1) (by kernel_rfl) hg63) (QJ.o { val := iv o64 } (q_n1a Try.prog (H28_4 p2 p3 p0 p1) 3 1 (0 + (Int.toNat v28) * 1) p3 e3 1 3 (Int.toNat v28) 0 0 h65) (QJ.rn (qs (S28_0 p3 v27 v28 o64 p2) (H28_4 p2 p3 p0 p1) [] []) 4 (QJ.dn ⟨rfl, (SJ.o { val := .bool false, new := [] } (qOf_call (g := 52) (args := [iv o64, iv 0, iv (w64 ((p2.length : Int) - 1))]) (by kernel_rfl) lookC_hit) SJ.la)⟩))))
      exact hK
  · replace hF := of_neg hF hc62
    refine TS.ex 0 (NX.sqX ?_)
    have hF := Option.some.inj hF
    subst hF
    exact Rd.out (e := .exit 0) (by intro h; cases h) (And.intro rfl (Wk.an [2] (.ac (.ac (.lt (.fl (.fl (.sl .nil))) (.nil _)))) [sv 1 p3.length ANY, pt 2 0, iv v27] (.sl (.pp (.fl .nil)))))
theorem B28 (p0 : Int) (p1 : Int) (p2 : (List (Int × Int))) (p3 : (List Int)) (r : Int) (hF : F28 p0 p1 p2 p3 = some r) : TS Try.prog 2 2 c28 (st 129 [(0, ag [iv p0, iv p1, sv 0 p2.length ANY]), (1, sv 1 p3.length ANY)]) (H28_7 p2 p3) (NX Try.prog 2 2 [] (FinP Try.prog Try.f28 2 (V28 2 r) (N28 2 r))) := by
  unfold F28 at hF
  refine TS.sq (TS.rg (TI.rn 2 [1, 2] [0, 1, 2] (st 129 [(1, sv 1 p3.length ANY), (2, pt 2 0)]) (H28_4 p2 p3 p0 p1) (TI.dn (NX.sq (TS.sq ?_)))))
  have hX := of_do hF
  clear hF
  obtain ⟨r1, h2, hF⟩ := hX
  refine TS.rg (TI.ra 1 [1, 2, 9] (st 129 [(1, sv 1 p3.length ANY), (2, pt 2 0), (9, ag [iv p0, iv p1, sv 0 p2.length ANY])]) (TI.cp 24 [ag [iv p0, iv p1, sv 0 p2.length ANY]] (iv r1) [] (PureSim.ren (hc := [ab 72 e72 p2]) (fun i => List.getD [(0, 0)] i (0, 0)) (C24 _ _ _ _ h2) (.ac (.nil _)) (.cons (Rn.agg' (.fl (.fl (.cons (Rn.any _ _ _ _ _ _ (Nat.le_of_ble_eq_true rfl) rfl rfl (by decide)) .nil)))) .nil) (.flat (by kernel_rfl)) newflat_nil) (TI.ra 1 [1, 2, 5] (st 129 [(1, sv 1 p3.length ANY), (2, pt 2 0), (5, iv r1)]) (TI.dn (NX.sq (TS.sq (TS.sq (TS.rg ?_))))))))
  refine TI.ra 2 [1, 2, 5, 12] (st 129 [(1, sv 1 p3.length ANY), (2, pt 2 0), (5, iv r1), (12, .bool (r1 != 0))]) (TI.dn (NX.sq ?_))
  refine TS.cd (.tmp 12) (r1 != 0) (fun hc3 => ?_) (fun hc3 => ?_)
  · replace hF := of_pos hF hc3
    refine TS.sq (TS.rg (TI.rn 2 [4] [0, 1] (st 129 [(4, iv r1)]) (H28_6 p2 p3) (TI.dn (NX.sq (TS.rt (NX.sqR ?_))))))
    have hF := Option.some.inj hF
    subst hF
    exact ⟨.inr rfl, rfl, iv r1, by kernel_rfl, WkV.flat0 (by kernel_rfl) (Nat.le_of_ble_eq_true rfl)⟩
  · replace hF := of_neg hF hc3
    refine TS.sk (NX.sq (TS.sq (TS.sq ?_)))
    have hX := of_do hF
    clear hF
    obtain ⟨r4, h5, hF⟩ := hX
    have hX := of_do hF
    clear hF
    obtain ⟨m6, hm111, hF⟩ := hX
    have hK : NX Try.prog 2 2 [.sq c28.s2.s2.s2.s1.s2, .sq c28.s2.s2.s2.s2] (FinP Try.prog Try.f28 2 (V28 2 r) (N28 2 r)) .normal (st 129 [(1, sv 1 p3.length ANY), (2, pt 2 0), (23, .bool m6)]) (H28_4 p2 p3 p0 p1) := by
      refine NX.sq ?_
      cases m6 with
      | true =>
        replace hF := of_pos hF rfl
        refine TS.cdT (.tmp 23) (TS.sq (TS.rg (TI.rn 1 [4] [0, 1] (st 129 [(4, iv 4)]) (H28_6 p2 p3) (TI.dn (NX.sq (TS.rt (NX.sqR ?_)))))))
        have hF := Option.some.inj hF
        subst hF
        exact ⟨.inr rfl, rfl, iv 4, by kernel_rfl, WkV.flat0 (by kernel_rfl) (Nat.le_of_ble_eq_true rfl)⟩
      | false =>
        replace hF := of_neg hF rfl
        refine TS.cdF (.tmp 23) (TS.sk (NX.sq (TS.sq (TS.rg (TI.ra 1 [1, 2, 6] (st 129 [(1, sv 1 p3.length ANY), (2, pt 2 0), (6, iv 0)]) (TI.dn (NX.sq (TS.sq ?_))))))))
        refine TS.sq (TS.rg (TI.ra 1 [1, 2, 6, 7] (st 129 [(1, sv 1 p3.length ANY), (2, pt 2 0), (6, iv 0), (7, iv 0)]) (TI.dn (NX.sq (TS.bk 0 ?_)))))
        have hX := of_do hF
        clear hF
        obtain ⟨r92, h93, hF⟩ := hX
        refine TS.lp (TL.weak (a2 := (st 129 [(1, sv 1 p3.length ANY), (2, pt 2 0), (6, iv 0), (7, iv 0)])) (h2 := (H28_4 p2 p3 p0 p1)) (Wk.an [2] (.ac (.ac (.lt (.fl (.fl (.sl .nil))) (.nil _)))) [sv 1 p3.length ANY, pt 2 0, iv 0, iv 0] (.sl (.pp (.fl (.fl .nil))))) (TL.post (L28l0 p0 p1 p2 p3 0 0 r92 h93) ?_))
        rintro e a1 h1 hp
        rcases r92 with o94 | o95
        · skip
          obtain ⟨rfl, hw⟩ := hp
          refine ⟨(st 129 [(4, iv o94)]), (H28_7 p2 p3), (NX.bkR (NX.sqR ?_)), hw⟩
          have hF := Option.some.inj hF
          subst hF
          exact ⟨.inr rfl, rfl, iv o94, by kernel_rfl, WkV.flat0 (by kernel_rfl) (Nat.le_of_ble_eq_true rfl)⟩
        · skip
          obtain ⟨rfl, hw⟩ := hp
          refine ⟨(st 129 [(1, sv 1 p3.length ANY), (2, pt 2 0), (6, iv o95)]), (H28_4 p2 p3 p0 p1), (NX.bkX (NX.sq (TS.sq (TS.sq ?_)))), hw⟩
          have hX := of_guard hF
          clear hF
          obtain ⟨hg96, hF⟩ := hX
          have hX := of_do hF
          clear hF
          obtain ⟨o97, h98, hF⟩ := hX
          replace h98 := Option.some.inj h98
          have hX := of_guard hF
          clear hF
          obtain ⟨hg99, hF⟩ := hX
          have hX := of_do hF
          clear hF
          obtain ⟨o100, h101, hF⟩ := hX
          replace h101 := Option.some.inj h101
          have hX := of_guardn hF
          clear hF
          obtain ⟨hg102, hF⟩ := hX
          have hX := of_guard hF
          clear hF
          obtain ⟨hg103, hF⟩ := hX
          have hX := of_do hF
          clear hF
          obtain ⟨o104, h105, hF⟩ := hX
          replace h105 := Option.some.inj h105
          have hX := of_guard hF
          clear hF
          obtain ⟨hg106, hF⟩ := hX
          have hX := of_do hF
          clear hF
          obtain ⟨o107, h108, hF⟩ := hX
          replace h108 := Option.some.inj h108
          refine TS.dp [] (fun e he => by cases he) mixed 25 [6, 126] [0, 1] (st 129 [(6, iv o95), (126, .bool ((Int.tmod o100.1 p1) != (Int.tmod o107.1 p1)))]) (H28_6 p2 p3) ?_ ?_
          · refine QJ.rn (qs (st 129 [(1, sv 1 p3.length ANY), (2, pt 2 0), (6, iv o95), (101, pt 2 2), (102, sv 0 p2.length ANY), (103, sv 1 p3.length ANY)]) (H28_4 p2 p3 p0 p1) [] []) 3 (QJ.o { val := .pointer (some ⟨1, 0 + (Int.toNat 0) * 1, none⟩) } (q_ixS 1 0 ((Int.toNat 0) * 1) (by kernel_rfl) hg96) (QJ.o { val := iv o97 } (q_n1a Try.prog (H28_4 p2 p3 p0 p1) 3 1 (0 + (Int.toNat 0) * 1) p3 e3 1 3 (Int.toNat 0) 0 0 h98) (QJ.o { val := .pointer (some ⟨0, 0 + (Int.toNat o97) * 2, none⟩) } (q_ixS 0 0 ((Int.toNat o97) * 2) (by kernel_rfl) hg99) (QJ.rn (qs (st 129 [(1, sv 1 p3.length ANY), (2, pt 2 0), (6, iv o95), (101, pt 2 2), (102, sv 0 p2.length ANY), (103, sv 1 p3.length ANY), (104, .pointer (some ⟨1, 0 + (Int.toNat 0) * 1, none⟩)), (105, iv o97), (106, .pointer (some ⟨0, 0 + (Int.toNat o97) * 2, none⟩)), (107, .pointer (some ⟨0, 0 + (Int.toNat o97) * 2, none⟩))]) (H28_4 p2 p3 p0 p1) [] []) 1 (QJ.o { val := iv o100.1 } (q_n1a Try.prog (H28_4 p2 p3 p0 p1) 3 0 (0 + (Int.toNat o97) * 2) p2 e72 2 72 (Int.toNat o97) 0 (0, 0) h101) (QJ.rn (qs (st 129 [(1, sv 1 p3.length ANY), (2, pt 2 0), (6, iv o95), (101, pt 2 2), (102, sv 0 p2.length ANY), (103, sv 1 p3.length ANY), (104, .pointer (some ⟨1, 0 + (Int.toNat 0) * 1, none⟩)), (105, iv o97), (106, .pointer (some ⟨0, 0 + (Int.toNat o97) * 2, none⟩)), (107, .pointer (some ⟨0, 0 + (Int.toNat o97) * 2, none⟩)), (108, iv o100.1), (109, pt 2 1), (110, iv p1)]) (H28_4 p2 p3 p0 p1) [] []) 2 (QJ.o { val := iv (Int.tmod o100.1 p1) } (q_int (P := Try.prog) (op := .rem) (ty := 3) (ox := (.tmp 108)) (oy := (.tmp 110)) (k := .i64) (k' := .i64) (y := o100.1) (z := p1) (by kernel_rfl) (rem_ok hg102)) (QJ.rn (qs (st 129 [(1, sv 1 p3.length ANY), (2, pt 2 0), (6, iv o95), (101, pt 2 2), (102, sv 0 p2.length ANY), (103, sv 1 p3.length ANY), (104, .pointer (some ⟨1, 0 + (Int.toNat 0) * 1, none⟩)), (105, iv o97), (106, .pointer (some ⟨0, 0 + (Int.toNat o97) * 2, none⟩)), (107, .pointer (some ⟨0, 0 + (Int.toNat o97) * 2, none⟩)), (108, iv o100.1), (109, pt 2 1), (110, iv p1), (111, iv (Int.tmod o100.1 p1)), (112, pt 2 2), (113, sv 0 p2.length ANY), (114, sv 1 p3.length ANY), (115, sv 1 p3.length ANY), (116, iv (p3.length : Int)), (117, iv (w64 ((p3.length : Int) - 1)))]) (H28_4 p2 p3 p0 p1) [] []) 6 ?_))))))))
            exact QJ.o { val := .pointer (some ⟨1, 0 + (Int.toNat (w64 ((p3.length : Int) - 1))) * 1, none⟩) } (q_ixS 1 0 ((Int.toNat (w64 ((p3.length : Int) - 1))) * 1) (by kernel_rfl) hg103) (QJ.o { val := iv o104 } (q_n1a Try.prog (H28_4 p2 p3 p0 p1) 3 1 (0 + (Int.toNat (w64 ((p3.length : Int) - 1))) * 1) p3 e3 1 3 (Int.toNat (w64 ((p3.length : Int) - 1))) 0 0 h105) (QJ.o { val := .pointer (some ⟨0, 0 + (Int.toNat o104) * 2, none⟩) } (q_ixS 0 0 ((Int.toNat o104) * 2) (by kernel_rfl) hg106) (QJ.rn (qs (st 129 [(1, sv 1 p3.length ANY), (2, pt 2 0), (6, iv o95), (101, pt 2 2), (102, sv 0 p2.length ANY), (103, sv 1 p3.length ANY), (104, .pointer (some ⟨1, 0 + (Int.toNat 0) * 1, none⟩)), (105, iv o97), (106, .pointer (some ⟨0, 0 + (Int.toNat o97) * 2, none⟩)), (107, .pointer (some ⟨0, 0 + (Int.toNat o97) * 2, none⟩)), (108, iv o100.1), (109, pt 2 1), (110, iv p1), (111, iv (Int.tmod o100.1 p1)), (112, pt 2 2), (113, sv 0 p2.length ANY), (114, sv 1 p3.length ANY), (115, sv 1 p3.length ANY), (116, iv (p3.length : Int)), (117, iv (w64 ((p3.length : Int) - 1))), (118, .pointer (some ⟨1, 0 + (Int.toNat (w64 ((p3.length : Int) - 1))) * 1, none⟩)), (119, iv o104), (120, .pointer (some ⟨0, 0 + (Int.toNat o104) * 2, none⟩)), (121, .pointer (some ⟨0, 0 + (Int.toNat o104) * 2, none⟩))]) (H28_4 p2 p3 p0 p1) [] []) 1 (QJ.o { val := iv o107.1 } (q_n1a Try.prog (H28_4 p2 p3 p0 p1) 3 0 (0 + (Int.toNat o104) * 2) p2 e72 2 72 (Int.toNat o104) 0 (0, 0) h108) (QJ.rn (qs (st 129 [(1, sv 1 p3.length ANY), (2, pt 2 0), (6, iv o95), (101, pt 2 2), (102, sv 0 p2.length ANY), (103, sv 1 p3.length ANY), (104, .pointer (some ⟨1, 0 + (Int.toNat 0) * 1, none⟩)), (105, iv o97), (106, .pointer (some ⟨0, 0 + (Int.toNat o97) * 2, none⟩)), (107, .pointer (some ⟨0, 0 + (Int.toNat o97) * 2, none⟩)), (108, iv o100.1), (109, pt 2 1), (110, iv p1), (111, iv (Int.tmod o100.1 p1)), (112, pt 2 2), (113, sv 0 p2.length ANY), (114, sv 1 p3.length ANY), (115, sv 1 p3.length ANY), (116, iv (p3.length : Int)), (117, iv (w64 ((p3.length : Int) - 1))), (118, .pointer (some ⟨1, 0 + (Int.toNat (w64 ((p3.length : Int) - 1))) * 1, none⟩)), (119, iv o104), (120, .pointer (some ⟨0, 0 + (Int.toNat o104) * 2, none⟩)), (121, .pointer (some ⟨0, 0 + (Int.toNat o104) * 2, none⟩)), (122, iv o107.1), (123, pt 2 1), (124, iv p1)]) (H28_4 p2 p3 p0 p1) [] []) 2 (QJ.o { val := iv (Int.tmod o107.1 p1) } (q_int (P := Try.prog) (op := .rem) (ty := 3) (ox := (.tmp 122)) (oy := (.tmp 124)) (k := .i64) (k' := .i64) (y := o107.1) (z := p1) (by kernel_rfl) (rem_ok hg102)) (QJ.dn ⟨rfl, SJ.la⟩)))))))
          refine TS.cd (.tmp 126) ((Int.tmod o100.1 p1) != (Int.tmod o107.1 p1)) (fun hc109 => ?_) (fun hc109 => ?_)
          · replace hF := of_pos hF hc109
            refine TS.sq (TS.rg (TI.ra 1 [4] (st 129 [(4, iv 5)]) (TI.dn (NX.sq (TS.rt (NX.sqR ?_))))))
            have hF := Option.some.inj hF
            subst hF
            exact ⟨.inr rfl, rfl, iv 5, by kernel_rfl, WkV.flat0 (by kernel_rfl) (Nat.le_of_ble_eq_true rfl)⟩
          · replace hF := of_neg hF hc109
            refine TS.sk (NX.sq (TS.sq (TS.sq (TS.rg (TI.ra 2 [128] (st 129 [(128, .bool (o95 == 0))]) (TI.dn (NX.sq ?_)))))))
            refine TS.cd (.tmp 128) (o95 == 0) (fun hc110 => ?_) (fun hc110 => ?_)
            · replace hF := of_pos hF hc110
              refine TS.sq (TS.rg (TI.ra 1 [4] (st 129 [(4, iv 12)]) (TI.dn (NX.sq (TS.rt (NX.sqR ?_))))))
              have hF := Option.some.inj hF
              subst hF
              exact ⟨.inr rfl, rfl, iv 12, by kernel_rfl, WkV.flat0 (by kernel_rfl) (Nat.le_of_ble_eq_true rfl)⟩
            · replace hF := of_neg hF hc110
              refine TS.sk (NX.sq (TS.sq (TS.rg (TI.ra 1 [4] (st 129 [(4, iv 0)]) (TI.dn (NX.sq (TS.rt ?_)))))))
              have hF := Option.some.inj hF
              subst hF
              exact ⟨.inr rfl, rfl, iv 0, by kernel_rfl, WkV.flat0 (by kernel_rfl) (Nat.le_of_ble_eq_true rfl)⟩
    cases r4 with
    | true =>
      replace hm111 := of_pos hm111 rfl
      have hm111 := Option.some.inj hm111
      subst hm111
      exact TS.rg (TI.ra 2 [1, 2, 15] (S28_5 p3) (TI.cf (C52 _ _ _ _ h5) (TI.ra 7 [1, 2, 23] (st 129 [(1, sv 1 p3.length ANY), (2, pt 2 0), (23, .bool ((Int.tmod (p3.length : Int) 2) == 1))]) (TI.dn hK))))
    | false =>
      replace hm111 := of_neg hm111 rfl
      have hm111 := Option.some.inj hm111
      subst hm111
      exact TS.rg (TI.ra 2 [1, 2, 15] (S28_5 p3) (TI.cf (C52 _ _ _ _ h5) (TI.ra 7 [1, 2, 23] (st 129 [(1, sv 1 p3.length ANY), (2, pt 2 0), (23, .bool true)]) (TI.dn hK))))
theorem C28 (p0 : Int) (p1 : Int) (p2 : (List (Int × Int))) (p3 : (List Int)) (r : Int) (hF : F28 p0 p1 p2 p3 = some r) : PureSim Try.prog 28 [ag [iv p0, iv p1, sv 0 p2.length ANY], sv 1 p3.length ANY] (H28_7 p2 p3) (V28 2 r) (N28 2 r) :=
  PureSim.of_Fin Try.func28 (c := c28) (by kernel_rfl) (by kernel_rfl) 2 rfl [0, 1] [0, 1] (by kernel_rfl) (B28 p0 p1 p2 p3 r hF)
noncomputable def c4 : Code := Try.f4.code
def H4_0 (p2 : (List (Int × Int))) (p3 : (List Int)) (p0 : Int) (p1 : Int) (r5 : (Int × Int × (List (Int × Int)))) (r7 : ((List Int) × Int)) (r9 : ((List Int) × Int)) : List Blk := [ab 57 e57 p2, ab 3 e3 p3, cl 24 [iv p0, iv p1, sv 0 p2.length ANY], ab 72 e72 r5.2.2, cl 28 [iv r5.1, iv r5.2.1, accV 3 r5.2.2.length], ab 3 e3 r7.1, ab 3 e3 r9.1]
def S4_1 (p3 : (List Int)) (r7 : ((List Int) × Int)) (r9 : ((List Int) × Int)) : CAct := (st 97 [(1, sv 1 p3.length ANY), (2, pt 2 0), (5, pt 4 0), (6, accV 5 r7.1.length), (7, iv r7.2), (8, accV 6 r9.1.length), (9, iv r9.2), (35, accV 5 r7.1.length), (36, accV 6 r9.1.length), (37, .bool true), (38, .bool false), (39, .bool false), (40, iv r7.2), (41, iv r9.2)])
def H4_2 (p2 : (List (Int × Int))) (p3 : (List Int)) (p0 : Int) (p1 : Int) (r5 : (Int × Int × (List (Int × Int)))) : List Blk := [ab 57 e57 p2, ab 3 e3 p3, cl 24 [iv p0, iv p1, sv 0 p2.length ANY], ab 72 e72 r5.2.2, cl 28 [iv r5.1, iv r5.2.1, accV 3 r5.2.2.length], .dead, .dead]
def H4_3 (p2 : (List (Int × Int))) (p3 : (List Int)) (r5 : (Int × Int × (List (Int × Int)))) (r19 : ((List Int) × Int)) : List Blk := [ab 57 e57 p2, ab 3 e3 p3, .dead, ab 72 e72 r5.2.2, cl 28 [iv r5.1, iv r5.2.1, accV 3 r5.2.2.length], .dead, .dead, ab 3 e3 r19.1]
def S4_4 (p3 : (List Int)) (r7 : ((List Int) × Int)) (r9 : ((List Int) × Int)) : CAct := (st 97 [(1, sv 1 p3.length ANY), (2, pt 2 0), (5, pt 4 0), (6, accV 5 r7.1.length), (7, iv r7.2), (8, accV 6 r9.1.length), (9, iv r9.2), (35, accV 5 r7.1.length), (36, accV 6 r9.1.length)])
def H4_5 (p2 : (List (Int × Int))) (p3 : (List Int)) (r5 : (Int × Int × (List (Int × Int)))) (r19 : ((List Int) × Int)) : List Blk := [ab 57 e57 p2, ab 3 e3 p3, .dead, ab 72 e72 r5.2.2, .dead, .dead, .dead, ab 3 e3 r19.1]
def H4_6 (p2 : (List (Int × Int))) (p3 : (List Int)) (r19 : ((List Int) × Int)) : List Blk := [ab 57 e57 p2, ab 3 e3 p3, .dead, .dead, .dead, .dead, .dead, ab 3 e3 r19.1]
def H4_7 (p2 : (List (Int × Int))) (p3 : (List Int)) (p0 : Int) (p1 : Int) : List Blk := [ab 57 e57 p2, ab 3 e3 p3, cl 24 [iv p0, iv p1, sv 0 p2.length ANY]]
def H4_8 (p2 : (List (Int × Int))) (p3 : (List Int)) : List Blk := [ab 57 e57 p2, ab 3 e3 p3, .dead, .dead, .dead, .dead, .dead, .dead]
def H4_9 (r7 : ((List Int) × Int)) (r9 : ((List Int) × Int)) : List Blk := [ab 3 e3 r7.1, ab 3 e3 r9.1]
def S4_10 (r19 : ((List Int) × Int)) (r21 : Int) : CAct := (st 97 [(10, sv 7 r19.1.length ANY), (86, iv r19.2), (87, iv r21)])
def S4_11 (r19 : ((List Int) × Int)) : CAct := (st 97 [(5, pt 4 0), (10, sv 7 r19.1.length ANY), (75, iv r19.2)])
def H4_12 (p2 : (List (Int × Int))) (p3 : (List Int)) : List Blk := [ab 57 e57 p2, ab 3 e3 p3]
def S4_13 (r19 : ((List Int) × Int)) : CAct := (st 97 [(10, sv 7 r19.1.length ANY), (63, iv r19.2)])
def F4 (p0 : Int) (p1 : Int) (p2 : (List (Int × Int))) (p3 : (List Int)) : Option Bool :=
  (
    if decide ((p2.length : Int) > 80) then
      some (true)
    else
      some (decide ((p3.length : Int) > 80))
  : Option Bool) >>= fun m2 =>
  if m2 then
    F14 >>= fun r3 =>
    some r3
  else
    F15 p0 p1 p2 >>= fun r5 =>
    F25 p0 p1 p2 >>= fun r7 =>
    F26 r5.1 r5.2.1 r5.2.2 >>= fun r9 =>
    F20 r7.1 r9.1 >>= fun r11 =>
    (
      if r11 then
        if r7.2 != r9.2 then
          some (true)
        else
          F27 p0 p1 p2 p3 >>= fun r14 =>
          F28 r5.1 r5.2.1 r5.2.2 p3 >>= fun r16 =>
          some (r14 != r16)
      else
        some (true)
    : Option Bool) >>= fun m18 =>
    if m18 then
      some false
    else
      F29 p0 p1 p2 >>= fun r19 =>
      F22 r5.1 r5.2.1 r5.2.2 >>= fun r21 =>
      if r21 == 0 then
        (
          if r19.2 == 6 then
            if (r19.1.length : Int) == 0 then
              F14 >>= fun r26 =>
              some (r26)
            else
              some (false)
          else
            some (false)
        : Option Bool) >>= fun m28 =>
        some m28
      else
        if r21 == 13 then
          (
            if r19.2 == 0 then
              F28 r5.1 r5.2.1 r5.2.2 r19.1 >>= fun r32 =>
              if r32 == 0 then
                F14 >>= fun r35 =>
                some (r35)
              else
                some (false)
            else
              some (false)
          : Option Bool) >>= fun m37 =>
          some m37
        else
          (
            if r19.2 == r21 then
              if (r19.1.length : Int) == 0 then
                F14 >>= fun r41 =>
                some (r41)
              else
                some (false)
            else
              some (false)
          : Option Bool) >>= fun m43 =>
          some m43
def V4 (b : Nat) (r : Bool) : Value := .bool r
def N4 (b : Nat) (r : Bool) : List Blk := []
theorem B4 (p0 : Int) (p1 : Int) (p2 : (List (Int × Int))) (p3 : (List Int)) (r : Bool) (hF : F4 p0 p1 p2 p3 = some r) : TS Try.prog 2 2 c4 (st 97 [(0, ag [iv p0, iv p1, sv 0 p2.length ANY]), (1, sv 1 p3.length ANY)]) (H4_12 p2 p3) (NX Try.prog 2 2 [] (FinP Try.prog Try.f4 2 (V4 2 r) (N4 2 r))) := by
  unfold F4 at hF
  refine TS.sq (TS.rg (TI.rn 2 [1, 2] [0, 1, 2] (st 97 [(1, sv 1 p3.length ANY), (2, pt 2 0)]) (H4_7 p2 p3 p0 p1) (TI.dn (NX.sq (TS.sq (TS.sq ?_))))))
  have hX := of_do hF
  clear hF
  obtain ⟨m2, hm46, hF⟩ := hX
  have hK : NX Try.prog 2 2 [.sq c4.s2.s1.s2, .sq c4.s2.s2] (FinP Try.prog Try.f4 2 (V4 2 r) (N4 2 r)) .normal (st 97 [(1, sv 1 p3.length ANY), (2, pt 2 0), (21, .bool m2)]) (H4_7 p2 p3 p0 p1) := by
    refine NX.sq ?_
    cases m2 with
    | true =>
      replace hF := of_pos hF rfl
      refine TS.cdT (.tmp 21) (TS.sq ?_)
      have hX := of_do hF
      clear hF
      obtain ⟨r3, h4, hF⟩ := hX
      refine TS.rg (TI.cf (C14 _ h4) (TI.rn 1 [4] [0, 1] (st 97 [(4, .bool r3)]) [ab 57 e57 p2, ab 3 e3 p3, .dead] (TI.dn (NX.sq (TS.rt (NX.sqR ?_))))))
      have hF := Option.some.inj hF
      subst hF
      exact ⟨.inr rfl, rfl, .bool r3, by kernel_rfl, WkV.flat0 (by kernel_rfl) (Nat.le_of_ble_eq_true rfl)⟩
    | false =>
      replace hF := of_neg hF rfl
      refine TS.cdF (.tmp 21) (TS.sk (NX.sq (TS.sq ?_)))
      have hX := of_do hF
      clear hF
      obtain ⟨r5, h6, hF⟩ := hX
      refine TS.rg (TI.ra 1 [1, 2, 23] (st 97 [(1, sv 1 p3.length ANY), (2, pt 2 0), (23, ag [iv p0, iv p1, sv 0 p2.length ANY])]) (TI.cp 15 [ag [iv p0, iv p1, sv 0 p2.length ANY]] (ag [iv r5.1, iv r5.2.1, accV 3 r5.2.2.length]) [ab 72 e72 r5.2.2] (PureSim.ren (hc := [ab 57 e57 p2]) (fun i => List.getD [(0, 0)] i (0, 0)) (C15 _ _ _ _ h6) (.ac (.nil _)) (.cons (Rn.agg' (.fl (.fl (.cons (Rn.any _ _ _ _ _ _ (Nat.le_of_ble_eq_true rfl) rfl rfl (by decide)) .nil)))) .nil) (Rn.agg' (.fl (.fl (.cons (Rn.acc (i' := 3) (Nat.le_of_ble_eq_true rfl) rfl) .nil)))) (newflat_cons (accB_flat (fun _ => rfl)) newflat_nil)) (TI.rn 2 [1, 2, 5] [0, 1, 2, 3, 4] (st 97 [(1, sv 1 p3.length ANY), (2, pt 2 0), (5, pt 4 0)]) [ab 57 e57 p2, ab 3 e3 p3, cl 24 [iv p0, iv p1, sv 0 p2.length ANY], ab 72 e72 r5.2.2, cl 28 [iv r5.1, iv r5.2.1, accV 3 r5.2.2.length]] (TI.dn (NX.sq (TS.sq ?_))))))
      have hX := of_do hF
      clear hF
      obtain ⟨r7, h8, hF⟩ := hX
      refine TS.rg (TI.ra 1 [1, 2, 5, 26] (st 97 [(1, sv 1 p3.length ANY), (2, pt 2 0), (5, pt 4 0), (26, ag [iv p0, iv p1, sv 0 p2.length ANY])]) (TI.cp 25 [ag [iv p0, iv p1, sv 0 p2.length ANY]] (.tuple ⟨[accV 5 r7.1.length, iv r7.2]⟩) [ab 3 e3 r7.1] (PureSim.ren (hc := [ab 57 e57 p2]) (fun i => List.getD [(0, 0)] i (0, 0)) (C25 _ _ _ _ h8) (.ac (.nil _)) (.cons (Rn.agg' (.fl (.fl (.cons (Rn.any _ _ _ _ _ _ (Nat.le_of_ble_eq_true rfl) rfl rfl (by decide)) .nil)))) .nil) (Rn.tuple' (.cons (Rn.acc (i' := 5) (Nat.le_of_ble_eq_true rfl) rfl) (.fl .nil))) (newflat_cons (accB_flat (fun _ => rfl)) newflat_nil)) (TI.rn 5 [1, 2, 5, 6, 7] [0, 1, 2, 3, 4, 5] (st 97 [(1, sv 1 p3.length ANY), (2, pt 2 0), (5, pt 4 0), (6, accV 5 r7.1.length), (7, iv r7.2)]) [ab 57 e57 p2, ab 3 e3 p3, cl 24 [iv p0, iv p1, sv 0 p2.length ANY], ab 72 e72 r5.2.2, cl 28 [iv r5.1, iv r5.2.1, accV 3 r5.2.2.length], ab 3 e3 r7.1] (TI.dn (NX.sq (TS.sq ?_))))))
      have hX := of_do hF
      clear hF
      obtain ⟨r9, h10, hF⟩ := hX
      refine TS.rg (TI.ra 1 [1, 2, 5, 6, 7, 31] (st 97 [(1, sv 1 p3.length ANY), (2, pt 2 0), (5, pt 4 0), (6, accV 5 r7.1.length), (7, iv r7.2), (31, ag [iv r5.1, iv r5.2.1, accV 3 r5.2.2.length])]) (TI.cp 26 [ag [iv r5.1, iv r5.2.1, accV 3 r5.2.2.length]] (.tuple ⟨[accV 6 r9.1.length, iv r9.2]⟩) [ab 3 e3 r9.1] (PureSim.ren (hc := [ab 72 e72 r5.2.2]) (fun i => List.getD [(3, 0)] i (0, 0)) (C26 _ _ _ _ h10) (.ac (.nil _)) (.cons (Rn.agg' (.fl (.fl (.cons (Rn.accA (i' := 3) (Nat.le_of_ble_eq_true rfl) rfl) .nil)))) .nil) (Rn.tuple' (.cons (Rn.acc (i' := 6) (Nat.le_of_ble_eq_true rfl) rfl) (.fl .nil))) (newflat_cons (accB_flat (fun _ => rfl)) newflat_nil)) (TI.rn 5 [1, 2, 5, 6, 7, 8, 9] [0, 1, 2, 3, 4, 5, 6] (st 97 [(1, sv 1 p3.length ANY), (2, pt 2 0), (5, pt 4 0), (6, accV 5 r7.1.length), (7, iv r7.2), (8, accV 6 r9.1.length), (9, iv r9.2)]) (H4_0 p2 p3 p0 p1 r5 r7 r9) (TI.dn (NX.sq (TS.sq (TS.sq ?_)))))))
      have hX := of_do hF
      clear hF
      obtain ⟨r11, h12, hF⟩ := hX
      have hX := of_do hF
      clear hF
      obtain ⟨m18, hm45, hF⟩ := hX
      have hK : NX Try.prog 2 2 [.sq c4.s2.s2.s2.s2.s2.s1.s2, .sq c4.s2.s2.s2.s2.s2.s2] (FinP Try.prog Try.f4 2 (V4 2 r) (N4 2 r)) .normal (st 97 [(2, pt 2 0), (5, pt 4 0), (52, .bool m18)]) (H4_2 p2 p3 p0 p1 r5) := by
        refine NX.sq ?_
        cases m18 with
        | true =>
          replace hF := of_pos hF rfl
          refine TS.cdT (.tmp 52) (TS.sq (TS.rg (TI.rn 1 [4] [0, 1] (st 97 [(4, .bool false)]) [ab 57 e57 p2, ab 3 e3 p3, .dead, .dead, .dead, .dead, .dead] (TI.dn (NX.sq (TS.rt (NX.sqR ?_)))))))
          have hF := Option.some.inj hF
          subst hF
          exact ⟨.inr rfl, rfl, .bool false, by kernel_rfl, WkV.flat0 (by kernel_rfl) (Nat.le_of_ble_eq_true rfl)⟩
        | false =>
          replace hF := of_neg hF rfl
          refine TS.cdF (.tmp 52) (TS.sk (NX.sq (TS.sq ?_)))
          have hX := of_do hF
          clear hF
          obtain ⟨r19, h20, hF⟩ := hX
          refine TS.rg (TI.rn 1 [5, 54] [0, 1, 3, 4] (st 97 [(5, pt 4 0), (54, ag [iv p0, iv p1, sv 0 p2.length ANY])]) [ab 57 e57 p2, ab 3 e3 p3, .dead, ab 72 e72 r5.2.2, cl 28 [iv r5.1, iv r5.2.1, accV 3 r5.2.2.length], .dead, .dead] (TI.cp 29 [ag [iv p0, iv p1, sv 0 p2.length ANY]] (.tuple ⟨[sv 7 r19.1.length ANY, iv r19.2]⟩) [ab 3 e3 r19.1] (PureSim.ren (hc := [ab 57 e57 p2]) (fun i => List.getD [(0, 0)] i (0, 0)) (C29 _ _ _ _ h20) (.ac (.nil _)) (.cons (Rn.agg' (.fl (.fl (.cons (Rn.any _ _ _ _ _ _ (Nat.le_of_ble_eq_true rfl) rfl rfl (by decide)) .nil)))) .nil) (Rn.tuple' (.cons (Rn.anyS (i' := 7) (Nat.le_of_ble_eq_true rfl) rfl rfl) (.fl .nil))) (newflat_cons (accB_flat (fun _ => rfl)) newflat_nil)) (TI.rn 5 [5, 10, 11] [0, 1, 3, 4, 7] (st 97 [(5, pt 4 0), (10, sv 7 r19.1.length ANY), (11, iv r19.2)]) (H4_3 p2 p3 r5 r19) (TI.dn (NX.sq (TS.sq ?_))))))
          have hX := of_do hF
          clear hF
          obtain ⟨r21, h22, hF⟩ := hX
          refine TS.rg (TI.ra 1 [5, 10, 11, 58] (st 97 [(5, pt 4 0), (10, sv 7 r19.1.length ANY), (11, iv r19.2), (58, ag [iv r5.1, iv r5.2.1, accV 3 r5.2.2.length])]) (TI.cp 22 [ag [iv r5.1, iv r5.2.1, accV 3 r5.2.2.length]] (iv r21) [] (PureSim.ren (hc := [ab 72 e72 r5.2.2]) (fun i => List.getD [(3, 0)] i (0, 0)) (C22 _ _ _ _ h22) (.ac (.nil _)) (.cons (Rn.agg' (.fl (.fl (.cons (Rn.accA (i' := 3) (Nat.le_of_ble_eq_true rfl) rfl) .nil)))) .nil) (.flat (by kernel_rfl)) newflat_nil) (TI.ra 1 [5, 10, 11, 12] (st 97 [(5, pt 4 0), (10, sv 7 r19.1.length ANY), (11, iv r19.2), (12, iv r21)]) (TI.dn (NX.sq (TS.sq (TS.sq (TS.rg ?_))))))))
          refine TI.ra 1 [5, 10, 11, 12, 60] (st 97 [(5, pt 4 0), (10, sv 7 r19.1.length ANY), (11, iv r19.2), (12, iv r21), (60, iv r21)]) (TI.dn (NX.sq (TS.bk 0 (TS.sq (TS.rg (TI.ra 2 [5, 10, 11, 12, 60, 61] (st 97 [(5, pt 4 0), (10, sv 7 r19.1.length ANY), (11, iv r19.2), (12, iv r21), (60, iv r21), (61, .bool (r21 == 0))]) (TI.dn (NX.sq ?_))))))))
          refine TS.cd (.tmp 61) (r21 == 0) (fun hc23 => ?_) (fun hc23 => ?_)
          · replace hF := of_pos hF hc23
            refine TS.sq ?_
            have hX := of_do hF
            clear hF
            obtain ⟨m28, hm29, hF⟩ := hX
            have hK : NX Try.prog 2 2 [.sq c4.s2.s2.s2.s2.s2.s2.s2.s2.s1.s2.bd.s2.th.s2, .bk 0, .sq c4.s2.s2.s2.s2.s2.s2.s2.s2.s2] (FinP Try.prog Try.f4 2 (V4 2 r) (N4 2 r)) .normal (st 97 [(4, .bool m28)]) (H4_8 p2 p3) := by
              refine NX.sq (TS.rt (NX.bkR (NX.sqR ?_)))
              have hF := Option.some.inj hF
              subst hF
              exact ⟨.inr rfl, rfl, .bool m28, by kernel_rfl, WkV.flat0 (by kernel_rfl) (Nat.le_of_ble_eq_true rfl)⟩
            rcases Bool.eq_false_or_eq_true (r19.2 == 6) with hc24 | hc24
            · replace hm29 := of_pos hm29 hc24
              rcases Bool.eq_false_or_eq_true ((r19.1.length : Int) == 0) with hc25 | hc25
              · replace hm29 := of_pos hm29 hc25
                have hX := of_do hm29
                clear hm29
                obtain ⟨r26, h27, hm29⟩ := hX
                have hm29 := Option.some.inj hm29
                subst hm29
                refine TS.rg (TI.rn 1 [10, 63] [0, 1, 7] (S4_13 r19) (H4_6 p2 p3 r19) (TI.o { val := .bool true } (q_conv (e := r19.2 == 6) (b := true) (by kernel_rfl) hc24) [10, 64] [0, 1, 7] (st 97 [(10, sv 7 r19.1.length ANY), (64, .bool true)]) (H4_6 p2 p3 r19) (TI.rn 3 [65, 67] [0, 1] (st 97 [(65, .bool true), (67, iv (r19.1.length : Int))]) (H4_8 p2 p3) (TI.o { val := .bool true } (q_conv (e := (r19.1.length : Int) == 0) (b := true) (by kernel_rfl) hc25) [65, 68] [0, 1] (st 97 [(65, .bool true), (68, .bool true)]) (H4_8 p2 p3) (TI.ra 2 [70] (st 97 [(70, .bool true)]) (TI.cf (C14 _ h27) (TI.ra 2 [4] (st 97 [(4, .bool r26)]) (TI.dn ?_))))))))
                exact hK
              · replace hm29 := of_neg hm29 hc25
                have hm29 := Option.some.inj hm29
                subst hm29
                exact TS.rg (TI.rn 1 [10, 63] [0, 1, 7] (S4_13 r19) (H4_6 p2 p3 r19) (TI.o { val := .bool true } (q_conv (e := r19.2 == 6) (b := true) (by kernel_rfl) hc24) [10, 64] [0, 1, 7] (st 97 [(10, sv 7 r19.1.length ANY), (64, .bool true)]) (H4_6 p2 p3 r19) (TI.rn 3 [65, 67] [0, 1] (st 97 [(65, .bool true), (67, iv (r19.1.length : Int))]) (H4_8 p2 p3) (TI.o { val := .bool false } (q_conv (e := (r19.1.length : Int) == 0) (b := false) (by kernel_rfl) hc25) [65, 68] [0, 1] (st 97 [(65, .bool true), (68, .bool false)]) (H4_8 p2 p3) (TI.ra 5 [4] (st 97 [(4, .bool false)]) (TI.dn hK))))))
            · replace hm29 := of_neg hm29 hc24
              have hm29 := Option.some.inj hm29
              subst hm29
              exact TS.rg (TI.rn 1 [10, 63] [0, 1, 7] (S4_13 r19) (H4_6 p2 p3 r19) (TI.o { val := .bool false } (q_conv (e := r19.2 == 6) (b := false) (by kernel_rfl) hc24) [10, 64] [0, 1, 7] (st 97 [(10, sv 7 r19.1.length ANY), (64, .bool false)]) (H4_6 p2 p3 r19) (TI.rn 9 [4] [0, 1] (st 97 [(4, .bool false)]) (H4_8 p2 p3) (TI.dn hK))))
          · replace hF := of_neg hF hc23
            refine TS.sq (TS.rg (TI.ra 2 [5, 10, 11, 12, 73] (st 97 [(5, pt 4 0), (10, sv 7 r19.1.length ANY), (11, iv r19.2), (12, iv r21), (73, .bool (r21 == 13))]) (TI.dn (NX.sq ?_))))
            refine TS.cd (.tmp 73) (r21 == 13) (fun hc30 => ?_) (fun hc30 => ?_)
            · replace hF := of_pos hF hc30
              refine TS.sq ?_
              have hX := of_do hF
              clear hF
              obtain ⟨m37, hm38, hF⟩ := hX
              have hK : NX Try.prog 2 2 [.sq c4.s2.s2.s2.s2.s2.s2.s2.s2.s1.s2.bd.s2.el.s2.th.s2, .bk 0, .sq c4.s2.s2.s2.s2.s2.s2.s2.s2.s2] (FinP Try.prog Try.f4 2 (V4 2 r) (N4 2 r)) .normal (st 97 [(4, .bool m37)]) (H4_8 p2 p3) := by
                refine NX.sq (TS.rt (NX.bkR (NX.sqR ?_)))
                have hF := Option.some.inj hF
                subst hF
                exact ⟨.inr rfl, rfl, .bool m37, by kernel_rfl, WkV.flat0 (by kernel_rfl) (Nat.le_of_ble_eq_true rfl)⟩
              rcases Bool.eq_false_or_eq_true (r19.2 == 0) with hc31 | hc31
              · replace hm38 := of_pos hm38 hc31
                have hX := of_do hm38
                clear hm38
                obtain ⟨r32, h33, hm38⟩ := hX
                rcases Bool.eq_false_or_eq_true (r32 == 0) with hc34 | hc34
                · replace hm38 := of_pos hm38 hc34
                  have hX := of_do hm38
                  clear hm38
                  obtain ⟨r35, h36, hm38⟩ := hX
                  have hm38 := Option.some.inj hm38
                  subst hm38
                  refine TS.rg (TI.ra 1 [5, 10, 75] (S4_11 r19) (TI.o { val := .bool true } (q_conv (e := r19.2 == 0) (b := true) (by kernel_rfl) hc31) [5, 10, 76] [0, 1, 3, 4, 7] (st 97 [(5, pt 4 0), (10, sv 7 r19.1.length ANY), (76, .bool true)]) (H4_3 p2 p3 r5 r19) (TI.rn 3 [77, 78, 79] [0, 1, 3, 7] (st 97 [(77, .bool true), (78, ag [iv r5.1, iv r5.2.1, accV 3 r5.2.2.length]), (79, sv 7 r19.1.length ANY)]) (H4_5 p2 p3 r5 r19) (TI.callM (g := 28) (args := [ag [iv r5.1, iv r5.2.1, accV 3 r5.2.2.length], sv 7 r19.1.length ANY]) (v := iv r32) (new := []) (by kernel_rfl) (PureSim.ren (hc := [ab 72 e72 r5.2.2, ab 3 e3 r19.1]) (fun i => List.getD [(3, 0), (7, 0)] i (0, 0)) (C28 _ _ _ _ _ h33) (.ac (.ac (.nil _))) (.cons (Rn.agg' (.fl (.fl (.cons (Rn.accA (i' := 3) (Nat.le_of_ble_eq_true rfl) rfl) .nil)))) (.cons (Rn.any _ _ _ _ _ _ (Nat.le_of_ble_eq_true rfl) rfl rfl (by decide)) .nil)) (.flat (by kernel_rfl)) newflat_nil) [77, 80] [0, 1] (a2 := (st 97 [(77, .bool true), (80, iv r32)])) (h2 := (H4_8 p2 p3)) (by kernel_rfl) (TI.o { val := .bool true } (q_conv (e := r32 == 0) (b := true) (by kernel_rfl) hc34) [77, 81] [0, 1] (st 97 [(77, .bool true), (81, .bool true)]) (H4_8 p2 p3) (TI.ra 2 [83] (st 97 [(83, .bool true)]) (TI.cf (C14 _ h36) (TI.ra 2 [4] (st 97 [(4, .bool r35)]) ?_))))))))
                  exact TI.dn hK
                · replace hm38 := of_neg hm38 hc34
                  have hm38 := Option.some.inj hm38
                  subst hm38
                  exact TS.rg (TI.ra 1 [5, 10, 75] (S4_11 r19) (TI.o { val := .bool true } (q_conv (e := r19.2 == 0) (b := true) (by kernel_rfl) hc31) [5, 10, 76] [0, 1, 3, 4, 7] (st 97 [(5, pt 4 0), (10, sv 7 r19.1.length ANY), (76, .bool true)]) (H4_3 p2 p3 r5 r19) (TI.rn 3 [77, 78, 79] [0, 1, 3, 7] (st 97 [(77, .bool true), (78, ag [iv r5.1, iv r5.2.1, accV 3 r5.2.2.length]), (79, sv 7 r19.1.length ANY)]) (H4_5 p2 p3 r5 r19) (TI.callM (g := 28) (args := [ag [iv r5.1, iv r5.2.1, accV 3 r5.2.2.length], sv 7 r19.1.length ANY]) (v := iv r32) (new := []) (by kernel_rfl) (PureSim.ren (hc := [ab 72 e72 r5.2.2, ab 3 e3 r19.1]) (fun i => List.getD [(3, 0), (7, 0)] i (0, 0)) (C28 _ _ _ _ _ h33) (.ac (.ac (.nil _))) (.cons (Rn.agg' (.fl (.fl (.cons (Rn.accA (i' := 3) (Nat.le_of_ble_eq_true rfl) rfl) .nil)))) (.cons (Rn.any _ _ _ _ _ _ (Nat.le_of_ble_eq_true rfl) rfl rfl (by decide)) .nil)) (.flat (by kernel_rfl)) newflat_nil) [77, 80] [0, 1] (a2 := (st 97 [(77, .bool true), (80, iv r32)])) (h2 := (H4_8 p2 p3)) (by kernel_rfl) (TI.o { val := .bool false } (q_conv (e := r32 == 0) (b := false) (by kernel_rfl) hc34) [77, 81] [0, 1] (st 97 [(77, .bool true), (81, .bool false)]) (H4_8 p2 p3) (TI.ra 5 [4] (st 97 [(4, .bool false)]) (TI.dn hK)))))))
              · replace hm38 := of_neg hm38 hc31
                have hm38 := Option.some.inj hm38
                subst hm38
                exact TS.rg (TI.ra 1 [5, 10, 75] (S4_11 r19) (TI.o { val := .bool false } (q_conv (e := r19.2 == 0) (b := false) (by kernel_rfl) hc31) [5, 10, 76] [0, 1, 3, 4, 7] (st 97 [(5, pt 4 0), (10, sv 7 r19.1.length ANY), (76, .bool false)]) (H4_3 p2 p3 r5 r19) (TI.rn 10 [4] [0, 1] (st 97 [(4, .bool false)]) (H4_8 p2 p3) (TI.dn hK))))
            · replace hF := of_neg hF hc30
              refine TS.sk (NX.bk (NX.sq (TS.sq ?_)))
              have hX := of_do hF
              clear hF
              obtain ⟨m43, hm44, hF⟩ := hX
              have hK : NX Try.prog 2 2 [.sq c4.s2.s2.s2.s2.s2.s2.s2.s2.s2.s2] (FinP Try.prog Try.f4 2 (V4 2 r) (N4 2 r)) .normal (st 97 [(4, .bool m43)]) (H4_8 p2 p3) := by
                refine NX.sq (TS.rt ?_)
                have hF := Option.some.inj hF
                subst hF
                exact ⟨.inr rfl, rfl, .bool m43, by kernel_rfl, WkV.flat0 (by kernel_rfl) (Nat.le_of_ble_eq_true rfl)⟩
              rcases Bool.eq_false_or_eq_true (r19.2 == r21) with hc39 | hc39
              · replace hm44 := of_pos hm44 hc39
                rcases Bool.eq_false_or_eq_true ((r19.1.length : Int) == 0) with hc40 | hc40
                · replace hm44 := of_pos hm44 hc40
                  have hX := of_do hm44
                  clear hm44
                  obtain ⟨r41, h42, hm44⟩ := hX
                  have hm44 := Option.some.inj hm44
                  subst hm44
                  refine TS.rg (TI.rn 2 [10, 86, 87] [0, 1, 7] (S4_10 r19 r21) (H4_6 p2 p3 r19) (TI.o { val := .bool true } (q_conv (e := r19.2 == r21) (b := true) (by kernel_rfl) hc39) [10, 88] [0, 1, 7] (st 97 [(10, sv 7 r19.1.length ANY), (88, .bool true)]) (H4_6 p2 p3 r19) (TI.rn 3 [89, 91] [0, 1] (st 97 [(89, .bool true), (91, iv (r19.1.length : Int))]) (H4_8 p2 p3) (TI.o { val := .bool true } (q_conv (e := (r19.1.length : Int) == 0) (b := true) (by kernel_rfl) hc40) [89, 92] [0, 1] (st 97 [(89, .bool true), (92, .bool true)]) (H4_8 p2 p3) (TI.ra 2 [94] (st 97 [(94, .bool true)]) (TI.cf (C14 _ h42) (TI.ra 2 [4] (st 97 [(4, .bool r41)]) (TI.dn ?_))))))))
                  exact hK
                · replace hm44 := of_neg hm44 hc40
                  have hm44 := Option.some.inj hm44
                  subst hm44
                  exact TS.rg (TI.rn 2 [10, 86, 87] [0, 1, 7] (S4_10 r19 r21) (H4_6 p2 p3 r19) (TI.o { val := .bool true } (q_conv (e := r19.2 == r21) (b := true) (by kernel_rfl) hc39) [10, 88] [0, 1, 7] (st 97 [(10, sv 7 r19.1.length ANY), (88, .bool true)]) (H4_6 p2 p3 r19) (TI.rn 3 [89, 91] [0, 1] (st 97 [(89, .bool true), (91, iv (r19.1.length : Int))]) (H4_8 p2 p3) (TI.o { val := .bool false } (q_conv (e := (r19.1.length : Int) == 0) (b := false) (by kernel_rfl) hc40) [89, 92] [0, 1] (st 97 [(89, .bool true), (92, .bool false)]) (H4_8 p2 p3) (TI.ra 5 [4] (st 97 [(4, .bool false)]) (TI.dn hK))))))
              · replace hm44 := of_neg hm44 hc39
                have hm44 := Option.some.inj hm44
                subst hm44
                exact TS.rg (TI.rn 2 [10, 86, 87] [0, 1, 7] (S4_10 r19 r21) (H4_6 p2 p3 r19) (TI.o { val := .bool false } (q_conv (e := r19.2 == r21) (b := false) (by kernel_rfl) hc39) [10, 88] [0, 1, 7] (st 97 [(10, sv 7 r19.1.length ANY), (88, .bool false)]) (H4_6 p2 p3 r19) (TI.rn 9 [4] [0, 1] (st 97 [(4, .bool false)]) (H4_8 p2 p3) (TI.dn hK))))
      cases r11 with
      | true =>
        replace hm45 := of_pos hm45 rfl
        rcases Bool.eq_false_or_eq_true (r7.2 != r9.2) with hc13 | hc13
        · replace hm45 := of_pos hm45 hc13
          have hm45 := Option.some.inj hm45
          subst hm45
          have hT : ∀ e ∈ ([⟨20, [accV 5 r7.1.length, accV 6 r9.1.length], (H4_0 p2 p3 p0 p1 r5 r7 r9), .bool true, []⟩] : List Entry), PureSim Try.prog e.g e.args e.h e.v e.new := by
            intro e he
            simp only [List.mem_cons, List.not_mem_nil, or_false] at he
            rcases he with rfl
            · exact (PureSim.ren (hc := (H4_9 r7 r9)) (fun i => List.getD [(5, 0), (6, 0)] i (0, 0)) (C20 _ _ _ h12) (.ac (.ac (.nil _))) (.cons (Rn.accA (i' := 5) (Nat.le_of_ble_eq_true rfl) rfl) (.cons (Rn.accA (i' := 6) (Nat.le_of_ble_eq_true rfl) rfl) .nil)) (.flat (by kernel_rfl)) newflat_nil)
          refine TS.dp [⟨20, [accV 5 r7.1.length, accV 6 r9.1.length], (H4_0 p2 p3 p0 p1 r5 r7 r9), .bool true, []⟩] hT mixed 15 [2, 5, 52] [0, 1, 2, 3, 4] (st 97 [(2, pt 2 0), (5, pt 4 0), (52, .bool true)]) (H4_2 p2 p3 p0 p1 r5) ?_ ?_
          · exact QJ.rn (qs (S4_4 p3 r7 r9) (H4_0 p2 p3 p0 p1 r5 r7 r9) [] []) 2 (QJ.o { val := .bool true, new := [] } (qOf_call (g := 20) (args := [accV 5 r7.1.length, accV 6 r9.1.length]) (by kernel_rfl) lookC_hit) (QJ.rn (qs (S4_1 p3 r7 r9) (H4_0 p2 p3 p0 p1 r5 r7 r9) [] []) 4 (QJ.o { val := .bool true } (q_conv (e := r7.2 != r9.2) (b := true) (by kernel_rfl) hc13) (QJ.rn (qs (st 97 [(1, sv 1 p3.length ANY), (2, pt 2 0), (5, pt 4 0), (6, accV 5 r7.1.length), (7, iv r7.2), (8, accV 6 r9.1.length), (9, iv r9.2), (35, accV 5 r7.1.length), (36, accV 6 r9.1.length), (37, .bool true), (38, .bool false), (39, .bool false), (40, iv r7.2), (41, iv r9.2), (42, .bool true), (43, .bool true), (44, .bool true), (45, undef), (46, undef), (47, undef), (48, undef), (49, undef)]) (H4_0 p2 p3 p0 p1 r5 r7 r9) [] []) 7 (QJ.dn ⟨rfl, SJ.la⟩)))))
          exact hK
        · replace hm45 := of_neg hm45 hc13
          have hX := of_do hm45
          clear hm45
          obtain ⟨r14, h15, hm45⟩ := hX
          have hX := of_do hm45
          clear hm45
          obtain ⟨r16, h17, hm45⟩ := hX
          have hm45 := Option.some.inj hm45
          subst hm45
          have hT : ∀ e ∈ ([⟨20, [accV 5 r7.1.length, accV 6 r9.1.length], (H4_0 p2 p3 p0 p1 r5 r7 r9), .bool true, []⟩, ⟨27, [ag [iv p0, iv p1, sv 0 p2.length ANY], sv 1 p3.length ANY], (H4_0 p2 p3 p0 p1 r5 r7 r9), iv r14, []⟩, ⟨28, [ag [iv r5.1, iv r5.2.1, accV 3 r5.2.2.length], sv 1 p3.length ANY], (H4_0 p2 p3 p0 p1 r5 r7 r9), iv r16, []⟩] : List Entry), PureSim Try.prog e.g e.args e.h e.v e.new := by
            intro e he
            simp only [List.mem_cons, List.not_mem_nil, or_false] at he
            rcases he with rfl | rfl | rfl
            · exact (PureSim.ren (hc := (H4_9 r7 r9)) (fun i => List.getD [(5, 0), (6, 0)] i (0, 0)) (C20 _ _ _ h12) (.ac (.ac (.nil _))) (.cons (Rn.accA (i' := 5) (Nat.le_of_ble_eq_true rfl) rfl) (.cons (Rn.accA (i' := 6) (Nat.le_of_ble_eq_true rfl) rfl) .nil)) (.flat (by kernel_rfl)) newflat_nil)
            · exact (PureSim.ren (hc := (H4_12 p2 p3)) (fun i => List.getD [(0, 0), (1, 0)] i (0, 0)) (C27 _ _ _ _ _ h15) (.ac (.ac (.nil _))) (.cons (Rn.agg' (.fl (.fl (.cons (Rn.any _ _ _ _ _ _ (Nat.le_of_ble_eq_true rfl) rfl rfl (by decide)) .nil)))) (.cons (Rn.any _ _ _ _ _ _ (Nat.le_of_ble_eq_true rfl) rfl rfl (by decide)) .nil)) (.flat (by kernel_rfl)) newflat_nil)
            · exact (PureSim.ren (hc := [ab 72 e72 r5.2.2, ab 3 e3 p3]) (fun i => List.getD [(3, 0), (1, 0)] i (0, 0)) (C28 _ _ _ _ _ h17) (.ac (.ac (.nil _))) (.cons (Rn.agg' (.fl (.fl (.cons (Rn.accA (i' := 3) (Nat.le_of_ble_eq_true rfl) rfl) .nil)))) (.cons (Rn.any _ _ _ _ _ _ (Nat.le_of_ble_eq_true rfl) rfl rfl (by decide)) .nil)) (.flat (by kernel_rfl)) newflat_nil)
          refine TS.dp [⟨20, [accV 5 r7.1.length, accV 6 r9.1.length], (H4_0 p2 p3 p0 p1 r5 r7 r9), .bool true, []⟩, ⟨27, [ag [iv p0, iv p1, sv 0 p2.length ANY], sv 1 p3.length ANY], (H4_0 p2 p3 p0 p1 r5 r7 r9), iv r14, []⟩, ⟨28, [ag [iv r5.1, iv r5.2.1, accV 3 r5.2.2.length], sv 1 p3.length ANY], (H4_0 p2 p3 p0 p1 r5 r7 r9), iv r16, []⟩] hT mixed 15 [2, 5, 52] [0, 1, 2, 3, 4] (st 97 [(2, pt 2 0), (5, pt 4 0), (52, .bool (r14 != r16))]) (H4_2 p2 p3 p0 p1 r5) ?_ ?_
          · refine QJ.rn (qs (S4_4 p3 r7 r9) (H4_0 p2 p3 p0 p1 r5 r7 r9) [] []) 2 (QJ.o { val := .bool true, new := [] } (qOf_call (g := 20) (args := [accV 5 r7.1.length, accV 6 r9.1.length]) (by kernel_rfl) lookC_hit) (QJ.rn (qs (S4_1 p3 r7 r9) (H4_0 p2 p3 p0 p1 r5 r7 r9) [] []) 4 (QJ.o { val := .bool false } (q_conv (e := r7.2 != r9.2) (b := false) (by kernel_rfl) hc13) (QJ.rn (qs (st 97 [(1, sv 1 p3.length ANY), (2, pt 2 0), (5, pt 4 0), (6, accV 5 r7.1.length), (7, iv r7.2), (8, accV 6 r9.1.length), (9, iv r9.2), (35, accV 5 r7.1.length), (36, accV 6 r9.1.length), (37, .bool true), (38, .bool false), (39, .bool false), (40, iv r7.2), (41, iv r9.2), (42, .bool false), (43, .bool false), (44, .bool false), (45, ag [iv p0, iv p1, sv 0 p2.length ANY]), (46, sv 1 p3.length ANY)]) (H4_0 p2 p3 p0 p1 r5 r7 r9) [] []) 4 (QJ.o { val := iv r14, new := [] } (qOf_call (g := 27) (args := [ag [iv p0, iv p1, sv 0 p2.length ANY], sv 1 p3.length ANY]) (by kernel_rfl) (lookC_skip (fun hg => absurd (show (20 : Nat) = 27 from hg) (by decide)) lookC_hit)) (QJ.rn (qs (st 97 [(1, sv 1 p3.length ANY), (2, pt 2 0), (5, pt 4 0), (6, accV 5 r7.1.length), (7, iv r7.2), (8, accV 6 r9.1.length), (9, iv r9.2), (35, accV 5 r7.1.length), (36, accV 6 r9.1.length), (37, .bool true), (38, .bool false), (39, .bool false), (40, iv r7.2), (41, iv r9.2), (42, .bool false), (43, .bool false), (44, .bool false), (45, ag [iv p0, iv p1, sv 0 p2.length ANY]), (46, sv 1 p3.length ANY), (47, iv r14), (48, ag [iv r5.1, iv r5.2.1, accV 3 r5.2.2.length]), (49, sv 1 p3.length ANY)]) (H4_0 p2 p3 p0 p1 r5 r7 r9) [] []) 2 (QJ.dn ⟨rfl, (SJ.o { val := iv r16, new := [] } (qOf_call (g := 28) (args := [ag [iv r5.1, iv r5.2.1, accV 3 r5.2.2.length], sv 1 p3.length ANY]) (by kernel_rfl) (lookC_skip (fun hg => absurd (show (20 : Nat) = 28 from hg) (by decide)) (lookC_skip (fun hg => absurd (show (27 : Nat) = 28 from hg) (by decide)) lookC_hit))) ?_)⟩)))))))
            exact SJ.la
          exact hK
      | false =>
        replace hm45 := of_neg hm45 rfl
        have hm45 := Option.some.inj hm45
        subst hm45
        have hT : ∀ e ∈ ([⟨20, [accV 5 r7.1.length, accV 6 r9.1.length], (H4_0 p2 p3 p0 p1 r5 r7 r9), .bool false, []⟩] : List Entry), PureSim Try.prog e.g e.args e.h e.v e.new := by
          intro e he
          simp only [List.mem_cons, List.not_mem_nil, or_false] at he
          rcases he with rfl
          · exact (PureSim.ren (hc := (H4_9 r7 r9)) (fun i => List.getD [(5, 0), (6, 0)] i (0, 0)) (C20 _ _ _ h12) (.ac (.ac (.nil _))) (.cons (Rn.accA (i' := 5) (Nat.le_of_ble_eq_true rfl) rfl) (.cons (Rn.accA (i' := 6) (Nat.le_of_ble_eq_true rfl) rfl) .nil)) (.flat (by kernel_rfl)) newflat_nil)
        refine TS.dp [⟨20, [accV 5 r7.1.length, accV 6 r9.1.length], (H4_0 p2 p3 p0 p1 r5 r7 r9), .bool false, []⟩] hT mixed 15 [2, 5, 52] [0, 1, 2, 3, 4] (st 97 [(2, pt 2 0), (5, pt 4 0), (52, .bool true)]) (H4_2 p2 p3 p0 p1 r5) ?_ ?_
        · exact QJ.rn (qs (S4_4 p3 r7 r9) (H4_0 p2 p3 p0 p1 r5 r7 r9) [] []) 2 (QJ.o { val := .bool false, new := [] } (qOf_call (g := 20) (args := [accV 5 r7.1.length, accV 6 r9.1.length]) (by kernel_rfl) lookC_hit) (QJ.rn (qs (st 97 [(1, sv 1 p3.length ANY), (2, pt 2 0), (5, pt 4 0), (6, accV 5 r7.1.length), (7, iv r7.2), (8, accV 6 r9.1.length), (9, iv r9.2), (35, accV 5 r7.1.length), (36, accV 6 r9.1.length), (37, .bool false), (38, .bool true), (39, .bool true), (40, undef), (41, undef), (42, undef), (43, .bool true), (44, .bool true), (45, undef), (46, undef), (47, undef), (48, undef), (49, undef)]) (H4_0 p2 p3 p0 p1 r5 r7 r9) [] []) 12 (QJ.dn ⟨rfl, SJ.la⟩)))
        exact hK
  rcases Bool.eq_false_or_eq_true (decide ((p2.length : Int) > 80)) with hc1 | hc1
  · replace hm46 := of_pos hm46 hc1
    have hm46 := Option.some.inj hm46
    subst hm46
    exact TS.rg (TI.ra 3 [1, 2, 15] (st 97 [(1, sv 1 p3.length ANY), (2, pt 2 0), (15, iv (p2.length : Int))]) (TI.o { val := .bool true } (q_conv (e := decide ((p2.length : Int) > 80)) (b := true) (by kernel_rfl) hc1) [1, 2, 16] [0, 1, 2] (st 97 [(1, sv 1 p3.length ANY), (2, pt 2 0), (16, .bool true)]) (H4_7 p2 p3 p0 p1) (TI.ra 5 [1, 2, 21] (st 97 [(1, sv 1 p3.length ANY), (2, pt 2 0), (21, .bool true)]) (TI.dn hK))))
  · replace hm46 := of_neg hm46 hc1
    have hm46 := Option.some.inj hm46
    subst hm46
    exact TS.rg (TI.ra 3 [1, 2, 15] (st 97 [(1, sv 1 p3.length ANY), (2, pt 2 0), (15, iv (p2.length : Int))]) (TI.o { val := .bool false } (q_conv (e := decide ((p2.length : Int) > 80)) (b := false) (by kernel_rfl) hc1) [1, 2, 16] [0, 1, 2] (st 97 [(1, sv 1 p3.length ANY), (2, pt 2 0), (16, .bool false)]) (H4_7 p2 p3 p0 p1) (TI.ra 5 [1, 2, 21] (st 97 [(1, sv 1 p3.length ANY), (2, pt 2 0), (21, .bool (decide ((p3.length : Int) > 80)))]) (TI.dn hK))))
theorem C4 (p0 : Int) (p1 : Int) (p2 : (List (Int × Int))) (p3 : (List Int)) (r : Bool) (hF : F4 p0 p1 p2 p3 = some r) : PureSim Try.prog 4 [ag [iv p0, iv p1, sv 0 p2.length ANY], sv 1 p3.length ANY] (H4_12 p2 p3) (V4 2 r) (N4 2 r) :=
  PureSim.of_Fin Try.func4 (c := c4) (by kernel_rfl) (by kernel_rfl) 2 rfl [0, 1] [0, 1] (by kernel_rfl) (B4 p0 p1 p2 p3 r hF)
end
end Go.Proofs.Ytdekbjfjbbdjgaa
