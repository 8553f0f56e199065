/- What functions of the program compute, and that they do. -/
import Derived.Test.YtiaippkjgmccoaaKS
import Derived.Test.YtiaippkjgmccoaaGiven
set_option linter.unusedVariables false
set_option linter.unusedSimpArgs false
set_option maxRecDepth 100000
set_option maxHeartbeats 4000000
namespace Go.Proofs.Ytiaippkjgmccoaa
open Go Go.Cl
noncomputable section
noncomputable def c12 : Code := Try.f12.code
def S12_0 (r3 : (List Int) × Int) (v22 v23 : Int) (r1 : Int × (List ((Int × Bool) × (Int × Bool)))) : CAct := (st 72 [(3, pt 1 0), (4, accV 3 r3.1.length), (6, iv v22), (7, iv v23), (8, pt 7 0), (21, iv (r1.2.length : Int)), (22, iv v23), (25, pt 1 0), (26, iv r1.1), (27, sv 4 0 0), (28, pt 1 1), (29, sv 2 r1.2.length ANY), (30, iv v23), (31, sv 2 (List.length (List.take (Int.toNat v23) r1.2)) ANY), (32, ownV 5 (List.length (List.take (Int.toNat v23) r1.2))), (33, pt 1 1), (34, sv 2 r1.2.length ANY), (35, iv v23), (36, iv (w64 (v23 + 1))), (37, .slice (some ⟨2, 0 + Int.toNat (w64 (v23 + 1)) * 4, none⟩) (List.length (List.drop (Int.toNat (w64 (v23 + 1))) r1.2)) ANY), (38, ownV 6 (List.length ((List.take (Int.toNat v23) r1.2) ++ (List.drop (Int.toNat (w64 (v23 + 1))) r1.2)))), (39, ag [iv r1.1, ownV 6 (List.length ((List.take (Int.toNat v23) r1.2) ++ (List.drop (Int.toNat (w64 (v23 + 1))) r1.2)))])])
def S12_1 (r3 : (List Int) × Int) (v22 v23 : Int) (r1 : Int × (List ((Int × Bool) × (Int × Bool)))) : CAct := (st 72 [(3, pt 1 0), (4, accV 3 r3.1.length), (6, iv v22), (7, iv v23), (21, iv (r1.2.length : Int)), (22, iv v23), (25, pt 1 0), (26, iv r1.1), (27, sv 4 0 0), (28, pt 1 1), (29, sv 2 r1.2.length ANY), (30, iv v23), (31, sv 2 (List.length (List.take (Int.toNat v23) r1.2)) ANY), (32, ownV 5 (List.length (List.take (Int.toNat v23) r1.2))), (33, pt 1 1), (34, sv 2 r1.2.length ANY), (35, iv v23), (36, iv (w64 (v23 + 1))), (37, .slice (some ⟨2, 0 + Int.toNat (w64 (v23 + 1)) * 4, none⟩) (List.length (List.drop (Int.toNat (w64 (v23 + 1))) r1.2)) ANY), (38, ownV 6 (List.length ((List.take (Int.toNat v23) r1.2) ++ (List.drop (Int.toNat (w64 (v23 + 1))) r1.2))))])
def S12_2 (r3 : (List Int) × Int) (v22 v23 : Int) (r1 : Int × (List ((Int × Bool) × (Int × Bool)))) : CAct := (st 72 [(3, pt 1 0), (4, accV 3 r3.1.length), (6, iv v22), (7, iv v23), (21, iv (r1.2.length : Int)), (22, iv v23), (25, pt 1 0), (26, iv r1.1), (27, sv 4 0 0), (28, pt 1 1), (29, sv 2 r1.2.length ANY), (30, iv v23), (31, sv 2 (List.length (List.take (Int.toNat v23) r1.2)) ANY), (32, ownV 5 (List.length (List.take (Int.toNat v23) r1.2))), (33, pt 1 1), (34, sv 2 r1.2.length ANY), (35, iv v23), (36, iv (w64 (v23 + 1))), (37, .slice (some ⟨2, 0 + Int.toNat (w64 (v23 + 1)) * 4, none⟩) (List.length (List.drop (Int.toNat (w64 (v23 + 1))) r1.2)) ANY)])
def S12_3 (r3 : (List Int) × Int) (v22 v23 : Int) (r1 : Int × (List ((Int × Bool) × (Int × Bool)))) : CAct := (st 72 [(3, pt 1 0), (4, accV 3 r3.1.length), (6, iv v22), (7, iv v23), (21, iv (r1.2.length : Int)), (22, iv v23), (25, pt 1 0), (26, iv r1.1), (27, sv 4 0 0), (28, pt 1 1), (29, sv 2 r1.2.length ANY), (30, iv v23), (31, sv 2 (List.length (List.take (Int.toNat v23) r1.2)) ANY), (32, ownV 5 (List.length (List.take (Int.toNat v23) r1.2))), (33, pt 1 1), (34, sv 2 r1.2.length ANY), (35, iv v23), (36, iv (w64 (v23 + 1)))])
def H12_4 (p1 : List I2) (r1 : Int × (List ((Int × Bool) × (Int × Bool)))) (r3 : (List Int) × Int) (v23 : Int) (r47 : List Int) : List Blk := [ab 84 e84 p1, cl 24 [iv r1.1, sv 2 r1.2.length ANY], ab 86 e86 r1.2, ab 3 e3 r3.1, .dead, .dead, .cells 86 (List.flatMap e86 ((List.take (Int.toNat v23) r1.2) ++ (List.drop (Int.toNat (w64 (v23 + 1))) r1.2))), cl 24 [iv r1.1, ownV 6 (List.length ((List.take (Int.toNat v23) r1.2) ++ (List.drop (Int.toNat (w64 (v23 + 1))) r1.2)))], ab 3 e3 r47]
def H12_5 (p1 : List I2) (r1 : Int × (List ((Int × Bool) × (Int × Bool)))) (r3 : (List Int) × Int) (v23 : Int) : List Blk := [ab 84 e84 p1, cl 24 [iv r1.1, sv 2 r1.2.length ANY], ab 86 e86 r1.2, ab 3 e3 r3.1, .dead, .dead, .cells 86 (List.flatMap e86 ((List.take (Int.toNat v23) r1.2) ++ (List.drop (Int.toNat (w64 (v23 + 1))) r1.2))), cl 24 [iv r1.1, ownV 6 (List.length ((List.take (Int.toNat v23) r1.2) ++ (List.drop (Int.toNat (w64 (v23 + 1))) r1.2)))]]
def S12_6 (r3 : (List Int) × Int) (v22 v23 : Int) (r1 : Int × (List ((Int × Bool) × (Int × Bool)))) : CAct := (st 72 [(3, pt 1 0), (4, accV 3 r3.1.length), (6, iv v22), (7, iv v23), (21, iv (r1.2.length : Int)), (22, iv v23), (25, pt 1 0), (26, iv r1.1), (27, sv 4 0 0), (28, pt 1 1), (29, sv 2 r1.2.length ANY), (30, iv v23), (31, sv 2 (List.length (List.take (Int.toNat v23) r1.2)) ANY), (32, ownV 5 (List.length (List.take (Int.toNat v23) r1.2)))])
def H12_7 (p1 : List I2) (r1 : Int × (List ((Int × Bool) × (Int × Bool)))) (r3 : (List Int) × Int) (v23 : Int) : List Blk := [ab 84 e84 p1, cl 24 [iv r1.1, sv 2 r1.2.length ANY], ab 86 e86 r1.2, ab 3 e3 r3.1, .dead, .dead, .cells 86 (List.flatMap e86 ((List.take (Int.toNat v23) r1.2) ++ (List.drop (Int.toNat (w64 (v23 + 1))) r1.2))), cl 24 [iv 0, .slice none 0 0]]
def S12_8 (r3 : (List Int) × Int) (v22 v23 : Int) (r1 : Int × (List ((Int × Bool) × (Int × Bool)))) : CAct := (st 72 [(3, pt 1 0), (4, accV 3 r3.1.length), (6, iv v22), (7, iv v23), (21, iv (r1.2.length : Int)), (22, iv v23), (25, pt 1 0), (26, iv r1.1), (27, sv 4 0 0), (28, pt 1 1), (29, sv 2 r1.2.length ANY), (30, iv v23), (31, sv 2 (List.length (List.take (Int.toNat v23) r1.2)) ANY)])
def H12_9 (p1 : List I2) (r1 : Int × (List ((Int × Bool) × (Int × Bool)))) (r3 : (List Int) × Int) (v23 : Int) : List Blk := [ab 84 e84 p1, cl 24 [iv r1.1, sv 2 r1.2.length ANY], ab 86 e86 r1.2, ab 3 e3 r3.1, .dead, .dead, .cells 86 (List.flatMap e86 ((List.take (Int.toNat v23) r1.2) ++ (List.drop (Int.toNat (w64 (v23 + 1))) r1.2)))]
def S12_10 (r3 : (List Int) × Int) (v22 v23 : Int) (r47 r49 : List Int) (r1 : Int × (List ((Int × Bool) × (Int × Bool)))) : CAct := (st 72 [(3, pt 1 0), (4, accV 3 r3.1.length), (6, iv v22), (7, iv v23), (9, .bool ((r47.length : Int) == (r49.length : Int))), (21, iv (r1.2.length : Int)), (22, iv v23), (47, .bool ((r47.length : Int) == (r49.length : Int))), (48, iv v22), (50, iv (r3.1.length : Int))])
def H12_11 (p1 : List I2) (r1 : Int × (List ((Int × Bool) × (Int × Bool)))) (r3 : (List Int) × Int) (v23 : Int) : List Blk := [ab 84 e84 p1, cl 24 [iv r1.1, sv 2 r1.2.length ANY], ab 86 e86 r1.2, ab 3 e3 r3.1, .dead, .cells 86 (List.flatMap e86 (List.take (Int.toNat v23) r1.2))]
def S12_12 (r3 : (List Int) × Int) (v22 v23 : Int) (r1 : Int × (List ((Int × Bool) × (Int × Bool)))) : CAct := (st 72 [(3, pt 1 0), (4, accV 3 r3.1.length), (6, iv v22), (7, iv v23), (21, iv (r1.2.length : Int)), (22, iv v23), (25, pt 1 0), (26, iv r1.1), (27, sv 4 0 0), (28, pt 1 1), (29, sv 2 r1.2.length ANY), (30, iv v23)])
def H12_13 (p1 : List I2) (r1 : Int × (List ((Int × Bool) × (Int × Bool)))) (r3 : (List Int) × Int) : List Blk := [ab 84 e84 p1, cl 24 [iv r1.1, sv 2 r1.2.length ANY], ab 86 e86 r1.2, ab 3 e3 r3.1, .dead, .dead, .dead, .dead, .dead, .dead]
def H12_14 (p1 : List I2) (r1 : Int × (List ((Int × Bool) × (Int × Bool)))) (r3 : (List Int) × Int) : List Blk := [ab 84 e84 p1, cl 24 [iv r1.1, sv 2 r1.2.length ANY], ab 86 e86 r1.2, ab 3 e3 r3.1, cl 86 []]
def H12_15 (p1 : List I2) (r1 : Int × (List ((Int × Bool) × (Int × Bool)))) (r3 : (List Int) × Int) : List Blk := [ab 84 e84 p1, cl 24 [iv r1.1, sv 2 r1.2.length ANY], ab 86 e86 r1.2, ab 3 e3 r3.1]
def F12l0 (p1 : List I2) (r1 : Int × (List ((Int × Bool) × (Int × Bool)))) (r3 : (List Int) × Int) (v22 v23 : Int) : Option (Unit ⊕ Int) :=
 if decide (v23 < (r1.2.length : Int)) then
  if (0 : Int) ≤ v23 ∧ v23 ≤ (r1.2.length : Int) then
   if List.length (List.take (Int.toNat v23) r1.2) ≤ 1000000000 then
    if (0 : Int) ≤ w64 (v23 + 1) ∧ w64 (v23 + 1) ≤ (r1.2.length : Int) then
     if List.length (List.drop (Int.toNat (w64 (v23 + 1))) r1.2) ≤ 1000000000 then
      F41 r1.1 ((List.take (Int.toNat v23) r1.2) ++ (List.drop (Int.toNat (w64 (v23 + 1))) r1.2)) ([] : List (Int × Bool)) >>= fun r47 =>
      F41 r1.1 r1.2 ([] : List (Int × Bool)) >>= fun r49 =>
      (
       if decide (v22 < (r3.1.length : Int)) then
        if (0 : Int) ≤ v22 ∧ v22 < (r3.1.length : Int) then
         some (List.getD r3.1 (Int.toNat v22) 0) >>= fun o53 =>
         some (!(((r47.length : Int) == (r49.length : Int)) == (o53 == v23)))
        else none
       else
        some (!(((r47.length : Int) == (r49.length : Int)) == false))
      : Option Bool) >>= fun m55 =>
      if m55 then
       some (.inl ())
      else
       (
        if (r47.length : Int) == (r49.length : Int) then
         some (w64 (v22 + 1))
        else
         some v22
       : Option Int) >>= fun m59 =>
       F12l0 p1 r1 r3 m59 (w64 (v23 + 1))
     else none
    else none
   else none
  else none
 else
  some (.inr v22)
 partial_fixpoint
def F12 (p0 : Int) (p1 : List I2) : Option Bool :=
 F40 p0 p1 >>= fun r1 =>
 F36 r1.1 r1.2 >>= fun r3 =>
 if r3.2 != 0 then
  some false
 else
  F12l0 p1 r1 r3 0 0 >>= fun r63 =>
  match r63 with
  | .inl o65 =>
   some false
  | .inr o66 =>
   (
    if o66 == (r3.1.length : Int) then
     F15 >>= fun r68 =>
     some (r68)
    else
     some (false)
   : Option Bool) >>= fun m70 =>
   some m70
def V12 (b : Nat) (r : Bool) : Value := .bool r
def N12 (b : Nat) (r : Bool) : List Blk := []
def P12l0 (p1 : List I2) (r1 : Int × (List ((Int × Bool) × (Int × Bool)))) (r3 : (List Int) × Int) (r : Unit ⊕ Int) : Post := fun e a h => (match r with | .inl q0 => e = .ret ∧ Wk Try.prog 1 1 a h (st 72 [(2, .bool false)]) [ab 84 e84 p1] | .inr q0 => e = .exit 0 ∧ Wk Try.prog 1 1 a h (st 72 [(4, accV 1 r3.1.length), (6, iv q0)]) [ab 84 e84 p1, ab 3 e3 r3.1])
theorem L12l0 (p1 : List I2) (r1 : Int × (List ((Int × Bool) × (Int × Bool)))) (r3 : (List Int) × Int) (v22 v23 : Int) (r : Unit ⊕ Int) (hF : F12l0 p1 r1 r3 v22 v23 = some r) : TL Try.prog 1 1 c12.s2.s2.s2.s2.s2.s1.s2.bd.bd (st 72 [(3, pt 1 0), (4, accV 3 r3.1.length), (6, iv v22), (21, iv (r1.2.length : Int)), (22, iv v23)]) (H12_15 p1 r1 r3) (P12l0 p1 r1 r3 r) := by
 refine F12l0.partial_correctness p1 r1 r3 (motive := fun v22 v23 r => TL Try.prog 1 1 c12.s2.s2.s2.s2.s2.s1.s2.bd.bd (st 72 [(3, pt 1 0), (4, accV 3 r3.1.length), (6, iv v22), (21, iv (r1.2.length : Int)), (22, iv v23)]) (H12_15 p1 r1 r3) (P12l0 p1 r1 r3 r)) ?_ v22 v23 r hF
 clear hF r v22 v23
 intro again ih v22 v23 r hF
 refine TL.round (TS.sq (TS.rg (TI.ra 1 [3, 4, 6, 21, 22, 23] (st 72 [(3, pt 1 0), (4, accV 3 r3.1.length), (6, iv v22), (21, iv (r1.2.length : Int)), (22, iv v23), (23, .bool (decide (v23 < (r1.2.length : Int))))]) (TI.dn (NX.sq (TS.sq ?_))))))
 refine TS.cd (.tmp 23) (decide (v23 < (r1.2.length : Int))) (fun hc42 => ?_) (fun hc42 => ?_)
 · replace hF := of_pos hF hc42
   refine TS.sk (NX.sq (TS.sq (TS.bk 1 (TS.sq (TS.rg (TI.ra 2 [3, 4, 6, 7, 21, 22] (st 72 [(3, pt 1 0), (4, accV 3 r3.1.length), (6, iv v22), (7, iv v23), (21, iv (r1.2.length : Int)), (22, iv v23)]) (TI.dn (NX.sq ?_))))))))
   refine TS.sq ?_
   obtain ⟨hg43, hF⟩ := of_guard hF
   obtain ⟨hg44, hF⟩ := of_guard hF
   obtain ⟨hg45, hF⟩ := of_guard hF
   obtain ⟨hg46, hF⟩ := of_guard hF
   refine TS.draw' (id := 9) (b := true) (ops := c12.s2.s2.s2.s2.s2.s1.s2.bd.bd.s2.s2.s1.bd.s2.s1.rops) (fin := (qs (S12_0 r3 v22 v23 r1) (H12_7 p1 r1 r3 v23) [(15, 7, 8), (13, 6, 7), (7, 5, 6), (2, 4, 5)] [(13, 5), (7, 4)])) (fin2 := (qs (S12_0 r3 v22 v23 r1) (H12_7 p1 r1 r3 v23) [(15, 7, 8), (13, 6, 7), (7, 5, 6), (2, 4, 5)] [(13, 5), (7, 4)])) (a1 := (S12_0 r3 v22 v23 r1)) (h1 := (H12_5 p1 r1 r3 v23)) (a2 := (st 72 [(3, pt 1 0), (4, accV 3 r3.1.length), (6, iv v22), (7, iv v23), (8, pt 7 0), (21, iv (r1.2.length : Int)), (22, iv v23)])) (h2 := (H12_5 p1 r1 r3 v23)) [] (fun e he => by cases he) mixed (by kernel_rfl) rfl 16 (by kernel_rfl) [(13, 5), (7, 4)] ?_ rfl (.inr ⟨?_, (by kernel_rfl)⟩) ?_ [3, 4, 6, 7, 8, 21, 22] [0, 1, 2, 3, 6, 7] (by kernel_rfl) ?_
   · refine QI.run (s1 := (qs (S12_12 r3 v22 v23 r1) (H12_14 p1 r1 r3) [(2, 4, 5)] [])) 6 (by kernel_rfl) (by kernel_rfl) (QI.op (q := { val := sv 2 (List.length (List.take (Int.toNat v23) r1.2)) ANY }) (s1 := (qs (S12_8 r3 v22 v23 r1) (H12_14 p1 r1 r3) [(2, 4, 5)] [])) (by decide) (q_slAhi (P := Try.prog) (t := 22) (e := 86) (s := 4) (b := 2) (off := 0) (ys := r1.2) (k := .i64) (y := v23) (by kernel_rfl) (by kernel_rfl) (by kernel_rfl) hg43) (by kernel_rfl) ?_)
     refine QI.op (q := { val := ownV 5 (List.length (List.take (Int.toNat v23) r1.2)), new := [.cells 86 (List.flatMap e86 (List.take (Int.toNat v23) r1.2))], upd := some (4, .dead) }) (s1 := (qs (S12_6 r3 v22 v23 r1) (H12_11 p1 r1 r3 v23) [(7, 5, 6), (2, 4, 5)] [(7, 4)])) (by decide) (q_appL (P := Try.prog) (base := 1) (hp := (H12_14 p1 r1 r3)) (n := 5) (s := 4) (enc := e86) (ts := #[22, 22]) (e := 86) (bytes := 32) (z := ag [iv 0, .bool false, iv 0, .bool false]) (y := sv 2 (List.length (List.take (Int.toNat v23) r1.2)) ANY) (ys := List.take (Int.toNat v23) r1.2) (b := 4) (t := 86) (by kernel_rfl) (by kernel_rfl) (by decide) (by kernel_rfl) (by kernel_rfl) (by kernel_rfl) (by kernel_rfl) (by kernel_rfl) (by kernel_rfl) (arg_win (e := 86) (off := 0) (L := r1.2) (ys := List.take (Int.toNat v23) r1.2) (win_take win_all _) (holds_acc (hp := (H12_14 p1 r1 r3)) (b := 2) (T := 86) (enc := e86) (L := r1.2) (by kernel_rfl)) (fun _ => rfl) (by kernel_rfl)) (by first | omega | (simp only [List.length_append, List.length_cons, List.length_nil]; omega))) (by kernel_rfl) (QI.run (s1 := (qs (S12_3 r3 v22 v23 r1) (H12_11 p1 r1 r3 v23) [(7, 5, 6), (2, 4, 5)] [(7, 4)])) 4 (by kernel_rfl) (by kernel_rfl) (QI.op (q := { val := .slice (some ⟨2, 0 + Int.toNat (w64 (v23 + 1)) * 4, none⟩) (List.length (List.drop (Int.toNat (w64 (v23 + 1))) r1.2)) ANY }) (s1 := (qs (S12_2 r3 v22 v23 r1) (H12_11 p1 r1 r3 v23) [(7, 5, 6), (2, 4, 5)] [(7, 4)])) (by decide) (q_slAlo (P := Try.prog) (t := 22) (e := 86) (s := 4) (b := 2) (off := 0) (ys := r1.2) (k := .i64) (y := w64 (v23 + 1)) (by kernel_rfl) (by kernel_rfl) (by kernel_rfl) hg45) (by kernel_rfl) ?_))
     exact QI.op (q := { val := ownV 6 (List.length ((List.take (Int.toNat v23) r1.2) ++ (List.drop (Int.toNat (w64 (v23 + 1))) r1.2))), new := [.cells 86 (List.flatMap e86 ((List.take (Int.toNat v23) r1.2) ++ (List.drop (Int.toNat (w64 (v23 + 1))) r1.2)))], upd := some (5, .dead) }) (s1 := (qs (S12_1 r3 v22 v23 r1) (H12_9 p1 r1 r3 v23) [(13, 6, 7), (7, 5, 6), (2, 4, 5)] [(13, 5), (7, 4)])) (by decide) (q_appO (P := Try.prog) (base := 1) (hp := (H12_11 p1 r1 r3 v23)) (n := 6) (s := 4) (enc := e86) (ts := #[22, 22]) (e := 86) (bytes := 32) (z := ag [iv 0, .bool false, iv 0, .bool false]) (y := .slice (some ⟨2, 0 + Int.toNat (w64 (v23 + 1)) * 4, none⟩) (List.length (List.drop (Int.toNat (w64 (v23 + 1))) r1.2)) ANY) (ys := List.drop (Int.toNat (w64 (v23 + 1))) r1.2) (b := 5) (l := List.take (Int.toNat v23) r1.2) (by kernel_rfl) (by kernel_rfl) (by decide) (by kernel_rfl) (by kernel_rfl) (by kernel_rfl) (by kernel_rfl) (by kernel_rfl) (arg_win (e := 86) (off := 0 + Int.toNat (w64 (v23 + 1)) * 4) (L := r1.2) (ys := List.drop (Int.toNat (w64 (v23 + 1))) r1.2) (win_drop win_all _) (holds_acc (hp := (H12_11 p1 r1 r3 v23)) (b := 2) (T := 86) (enc := e86) (L := r1.2) (by kernel_rfl)) (fun _ => rfl) (by kernel_rfl)) (cells_ok (fun _ => rfl)) (fun _ => rfl) (by first | omega | (simp only [List.length_append, List.length_cons, List.length_nil]; omega))) (by kernel_rfl) (QI.run (s1 := (qs (S12_0 r3 v22 v23 r1) (H12_7 p1 r1 r3 v23) [(15, 7, 8), (13, 6, 7), (7, 5, 6), (2, 4, 5)] [(13, 5), (7, 4)])) 2 (by kernel_rfl) (by kernel_rfl) (QI.done (by kernel_rfl)))
   · refine QI.run (s1 := (qs (S12_12 r3 v22 v23 r1) (H12_14 p1 r1 r3) [(2, 4, 5)] [])) 6 (by kernel_rfl) (by kernel_rfl) (QI.op (q := { val := sv 2 (List.length (List.take (Int.toNat v23) r1.2)) ANY }) (s1 := (qs (S12_8 r3 v22 v23 r1) (H12_14 p1 r1 r3) [(2, 4, 5)] [])) (by decide) (q_slAhi (P := Try.prog) (t := 22) (e := 86) (s := 4) (b := 2) (off := 0) (ys := r1.2) (k := .i64) (y := v23) (by kernel_rfl) (by kernel_rfl) (by kernel_rfl) hg43) (by kernel_rfl) ?_)
     refine QI.op (q := { val := ownV 5 (List.length (List.take (Int.toNat v23) r1.2)), new := [.cells 86 (List.flatMap e86 (List.take (Int.toNat v23) r1.2))], upd := some (4, .dead) }) (s1 := (qs (S12_6 r3 v22 v23 r1) (H12_11 p1 r1 r3 v23) [(7, 5, 6), (2, 4, 5)] [(7, 4)])) (by decide) (q_appL (P := Try.prog) (base := 1) (hp := (H12_14 p1 r1 r3)) (n := 5) (s := 4) (enc := e86) (ts := #[22, 22]) (e := 86) (bytes := 32) (z := ag [iv 0, .bool false, iv 0, .bool false]) (y := sv 2 (List.length (List.take (Int.toNat v23) r1.2)) ANY) (ys := List.take (Int.toNat v23) r1.2) (b := 4) (t := 86) (by kernel_rfl) (by kernel_rfl) (by decide) (by kernel_rfl) (by kernel_rfl) (by kernel_rfl) (by kernel_rfl) (by kernel_rfl) (by kernel_rfl) (arg_win (e := 86) (off := 0) (L := r1.2) (ys := List.take (Int.toNat v23) r1.2) (win_take win_all _) (holds_acc (hp := (H12_14 p1 r1 r3)) (b := 2) (T := 86) (enc := e86) (L := r1.2) (by kernel_rfl)) (fun _ => rfl) (by kernel_rfl)) (by first | omega | (simp only [List.length_append, List.length_cons, List.length_nil]; omega))) (by kernel_rfl) (QI.run (s1 := (qs (S12_3 r3 v22 v23 r1) (H12_11 p1 r1 r3 v23) [(7, 5, 6), (2, 4, 5)] [(7, 4)])) 4 (by kernel_rfl) (by kernel_rfl) (QI.op (q := { val := .slice (some ⟨2, 0 + Int.toNat (w64 (v23 + 1)) * 4, none⟩) (List.length (List.drop (Int.toNat (w64 (v23 + 1))) r1.2)) ANY }) (s1 := (qs (S12_2 r3 v22 v23 r1) (H12_11 p1 r1 r3 v23) [(7, 5, 6), (2, 4, 5)] [(7, 4)])) (by decide) (q_slAlo (P := Try.prog) (t := 22) (e := 86) (s := 4) (b := 2) (off := 0) (ys := r1.2) (k := .i64) (y := w64 (v23 + 1)) (by kernel_rfl) (by kernel_rfl) (by kernel_rfl) hg45) (by kernel_rfl) ?_))
     exact QI.op (q := { val := ownV 6 (List.length ((List.take (Int.toNat v23) r1.2) ++ (List.drop (Int.toNat (w64 (v23 + 1))) r1.2))), new := [.cells 86 (List.flatMap e86 ((List.take (Int.toNat v23) r1.2) ++ (List.drop (Int.toNat (w64 (v23 + 1))) r1.2)))], upd := some (5, .dead) }) (s1 := (qs (S12_1 r3 v22 v23 r1) (H12_9 p1 r1 r3 v23) [(13, 6, 7), (7, 5, 6), (2, 4, 5)] [(13, 5), (7, 4)])) (by decide) (q_appO (P := Try.prog) (base := 1) (hp := (H12_11 p1 r1 r3 v23)) (n := 6) (s := 4) (enc := e86) (ts := #[22, 22]) (e := 86) (bytes := 32) (z := ag [iv 0, .bool false, iv 0, .bool false]) (y := .slice (some ⟨2, 0 + Int.toNat (w64 (v23 + 1)) * 4, none⟩) (List.length (List.drop (Int.toNat (w64 (v23 + 1))) r1.2)) ANY) (ys := List.drop (Int.toNat (w64 (v23 + 1))) r1.2) (b := 5) (l := List.take (Int.toNat v23) r1.2) (by kernel_rfl) (by kernel_rfl) (by decide) (by kernel_rfl) (by kernel_rfl) (by kernel_rfl) (by kernel_rfl) (by kernel_rfl) (arg_win (e := 86) (off := 0 + Int.toNat (w64 (v23 + 1)) * 4) (L := r1.2) (ys := List.drop (Int.toNat (w64 (v23 + 1))) r1.2) (win_drop win_all _) (holds_acc (hp := (H12_11 p1 r1 r3 v23)) (b := 2) (T := 86) (enc := e86) (L := r1.2) (by kernel_rfl)) (fun _ => rfl) (by kernel_rfl)) (cells_ok (fun _ => rfl)) (fun _ => rfl) (by first | omega | (simp only [List.length_append, List.length_cons, List.length_nil]; omega))) (by kernel_rfl) (QI.run (s1 := (qs (S12_0 r3 v22 v23 r1) (H12_7 p1 r1 r3 v23) [(15, 7, 8), (13, 6, 7), (7, 5, 6), (2, 4, 5)] [(13, 5), (7, 4)])) 2 (by kernel_rfl) (by kernel_rfl) (QI.done (by kernel_rfl)))
   · exact SI.run (a2 := (S12_0 r3 v22 v23 r1)) (h2 := (H12_5 p1 r1 r3 v23)) 1 (by kernel_rfl) (SI.done (by kernel_rfl))
   refine TS.sq ?_
   obtain ⟨r47, h48, hF⟩ := of_do hF
   obtain ⟨r49, h50, hF⟩ := of_do hF
   have hT : ∀ e ∈ ([⟨41, [ag [iv r1.1, ownV 6 (List.length ((List.take (Int.toNat v23) r1.2) ++ (List.drop (Int.toNat (w64 (v23 + 1))) r1.2)))], .slice none 0 0], (H12_5 p1 r1 r3 v23), accV 8 r47.length, [ab 3 e3 r47]⟩, ⟨41, [ag [iv r1.1, sv 2 r1.2.length ANY], .slice none 0 0], (H12_4 p1 r1 r3 v23 r47), accV 9 r49.length, [ab 3 e3 r49]⟩] : List Entry), PureSim Try.prog e.g e.args e.h e.v e.new := by
    intro e he
    simp only [List.mem_cons, List.not_mem_nil, or_false] at he
    rcases he with rfl | rfl
    · exact (PureSim.ren (hc := [accB 86 (List.length ((List.take (Int.toNat v23) r1.2) ++ (List.drop (Int.toNat (w64 (v23 + 1))) r1.2))) (List.flatMap e86 ((List.take (Int.toNat v23) r1.2) ++ (List.drop (Int.toNat (w64 (v23 + 1))) r1.2))), accB 50 (List.length ([] : List (Int × Bool))) (List.flatMap e50 ([] : List (Int × Bool)))]) (fun i => List.getD [(6, 0), (0, 0)] i (0, 0)) (C41 _ _ _ _ h48) (.cons (At.accU (by kernel_rfl) rfl (fun _ => rfl)) (.cons At.accN (.nil _))) (.cons (Rn.agg' (.fl (.cons (Rn.ownA (i' := 6) (nl rfl) rfl (by simp only [List.length_set])) .nil))) (.cons (Rn.anyN _ _ _ rfl (by decide)) .nil)) (Rn.acc (i' := 8) (nl rfl) rfl) (newflat_cons (accB_flat (fun _ => rfl)) newflat_nil))
    exact (PureSim.ren (hc := [ab 86 e86 r1.2, accB 50 (List.length ([] : List (Int × Bool))) (List.flatMap e50 ([] : List (Int × Bool)))]) (fun i => List.getD [(2, 0), (0, 0)] i (0, 0)) (C41 _ _ _ _ h50) (.ac (.cons At.accN (.nil _))) (.cons (Rn.agg' (.fl (.cons (Rn.any _ _ _ _ _ _ (nl rfl) rfl rfl (by decide)) .nil))) (.cons (Rn.anyN _ _ _ rfl (by decide)) .nil)) (Rn.acc (i' := 9) (nl rfl) rfl) (newflat_cons (accB_flat (fun _ => rfl)) newflat_nil))
   refine TS.dp [⟨41, [ag [iv r1.1, ownV 6 (List.length ((List.take (Int.toNat v23) r1.2) ++ (List.drop (Int.toNat (w64 (v23 + 1))) r1.2)))], .slice none 0 0], (H12_5 p1 r1 r3 v23), accV 8 r47.length, [ab 3 e3 r47]⟩, ⟨41, [ag [iv r1.1, sv 2 r1.2.length ANY], .slice none 0 0], (H12_4 p1 r1 r3 v23 r47), accV 9 r49.length, [ab 3 e3 r49]⟩] hT mixed 6 [3, 4, 6, 7, 9, 21, 22] [0, 1, 2, 3] (st 72 [(3, pt 1 0), (4, accV 3 r3.1.length), (6, iv v22), (7, iv v23), (9, .bool ((r47.length : Int) == (r49.length : Int))), (21, iv (r1.2.length : Int)), (22, iv v23)]) (H12_13 p1 r1 r3) ?_ ?_
   · refine QJ.rn (qs (st 72 [(3, pt 1 0), (4, accV 3 r3.1.length), (6, iv v22), (7, iv v23), (8, pt 7 0), (21, iv (r1.2.length : Int)), (22, iv v23), (40, ag [iv r1.1, ownV 6 (List.length ((List.take (Int.toNat v23) r1.2) ++ (List.drop (Int.toNat (w64 (v23 + 1))) r1.2)))])]) (H12_5 p1 r1 r3 v23) [] []) 1 (QJ.o { val := accV 8 r47.length, new := [ab 3 e3 r47] } (qOf_call (g := 41) (args := [ag [iv r1.1, ownV 6 (List.length ((List.take (Int.toNat v23) r1.2) ++ (List.drop (Int.toNat (w64 (v23 + 1))) r1.2)))], .slice none 0 0]) (by kernel_rfl) lookC_hit) (QJ.rn (qs (st 72 [(3, pt 1 0), (4, accV 3 r3.1.length), (6, iv v22), (7, iv v23), (8, pt 7 0), (21, iv (r1.2.length : Int)), (22, iv v23), (40, ag [iv r1.1, ownV 6 (List.length ((List.take (Int.toNat v23) r1.2) ++ (List.drop (Int.toNat (w64 (v23 + 1))) r1.2)))]), (41, accV 8 r47.length), (42, iv (r47.length : Int)), (43, ag [iv r1.1, sv 2 r1.2.length ANY])]) (H12_4 p1 r1 r3 v23 r47) [(1, 8, 9)] []) 2 ?_))
     exact QJ.o { val := accV 9 r49.length, new := [ab 3 e3 r49] } (qOf_call (g := 41) (args := [ag [iv r1.1, sv 2 r1.2.length ANY], .slice none 0 0]) (by kernel_rfl) (lookC_skip (by intro _ ha hh; first | (exact absurd (congrArg List.length hh) (Nat.ne_of_beq_eq_false rfl)) | (have hq := h48; have hi := h50; clear hF; first | (exfalso; simp at ha; done) | ((try simp at ha); have hr := sj (hq.symm.trans (Eq.trans (by first | rfl | (congr 1 <;> first | rfl | omega | simp_all)) hi)); subst hr; rfl))) lookC_hit)) (QJ.rn (qs (st 72 [(3, pt 1 0), (4, accV 3 r3.1.length), (6, iv v22), (7, iv v23), (8, pt 7 0), (21, iv (r1.2.length : Int)), (22, iv v23), (40, ag [iv r1.1, ownV 6 (List.length ((List.take (Int.toNat v23) r1.2) ++ (List.drop (Int.toNat (w64 (v23 + 1))) r1.2)))]), (41, accV 8 r47.length), (42, iv (r47.length : Int)), (43, ag [iv r1.1, sv 2 r1.2.length ANY]), (44, accV 9 r49.length), (45, iv (r49.length : Int))]) [ab 84 e84 p1, cl 24 [iv r1.1, sv 2 r1.2.length ANY], ab 86 e86 r1.2, ab 3 e3 r3.1, .dead, .dead, .cells 86 (List.flatMap e86 ((List.take (Int.toNat v23) r1.2) ++ (List.drop (Int.toNat (w64 (v23 + 1))) r1.2))), cl 24 [iv r1.1, ownV 6 (List.length ((List.take (Int.toNat v23) r1.2) ++ (List.drop (Int.toNat (w64 (v23 + 1))) r1.2)))], ab 3 e3 r47, ab 3 e3 r49] [(4, 9, 10), (1, 8, 9)] []) 1 (QJ.dn ⟨rfl, SJ.la⟩))
   refine TS.sq (TS.sq ?_)
   obtain ⟨m55, hm62, hF⟩ := of_do hF
   have hK : NX Try.prog 1 1 [.sq c12.s2.s2.s2.s2.s2.s1.s2.bd.bd.s2.s2.s1.bd.s2.s2.s2.s1.s2, .sq c12.s2.s2.s2.s2.s2.s1.s2.bd.bd.s2.s2.s1.bd.s2.s2.s2.s2, .bk 1, .sq c12.s2.s2.s2.s2.s2.s1.s2.bd.bd.s2.s2.s2] (Rd Try.prog 1 1 c12.s2.s2.s2.s2.s2.s1.s2.bd.bd (P12l0 p1 r1 r3 r)) .normal (st 72 [(3, pt 1 0), (4, accV 3 r3.1.length), (6, iv v22), (9, .bool ((r47.length : Int) == (r49.length : Int))), (21, iv (r1.2.length : Int)), (22, iv v23), (60, .bool m55)]) (H12_13 p1 r1 r3) := by
    refine NX.sq ?_
    cases m55 with
    | true =>
     replace hF := of_pos hF rfl
     refine TS.cdT (.tmp 60) (TS.sq (TS.rg (TI.rn 1 [2] [0] (st 72 [(2, .bool false)]) [ab 84 e84 p1, .dead, .dead, .dead, .dead, .dead, .dead, .dead, .dead, .dead] (TI.dn (NX.sq (TS.rt (NX.sqR (NX.bkR ?_))))))))
     refine NX.sqR ?_
     have hF := sj hF
     subst hF
     exact Rd.out (e := .ret) (by intro h; cases h) (And.intro rfl (Wk.an [] (.ac (.nil _)) [.bool false] (.fl .nil)))
    | false =>
     replace hF := of_neg hF rfl
     refine TS.cdF (.tmp 60) (TS.sk (NX.sq (TS.sq (TS.rg (TI.ra 1 [3, 4, 6, 21, 22, 61] (st 72 [(3, pt 1 0), (4, accV 3 r3.1.length), (6, iv v22), (21, iv (r1.2.length : Int)), (22, iv v23), (61, .bool ((r47.length : Int) == (r49.length : Int)))]) (TI.dn (NX.sq ?_)))))))
     obtain ⟨m59, hm60, hF⟩ := of_do hF
     have hK : NX Try.prog 1 1 [.bk 1, .sq c12.s2.s2.s2.s2.s2.s1.s2.bd.bd.s2.s2.s2] (Rd Try.prog 1 1 c12.s2.s2.s2.s2.s2.s1.s2.bd.bd (P12l0 p1 r1 r3 r)) .normal (st 72 [(3, pt 1 0), (4, accV 3 r3.1.length), (6, iv m59), (21, iv (r1.2.length : Int)), (22, iv v23)]) (H12_15 p1 r1 r3) := by
      refine NX.bk (NX.sq (TS.rg (TI.ra 2 [3, 4, 6, 21, 22] (st 72 [(3, pt 1 0), (4, accV 3 r3.1.length), (6, iv m59), (21, iv (r1.2.length : Int)), (22, iv (w64 (v23 + 1)))]) (TI.dn ?_))))
      exact Rd.again (a2 := (st 72 [(3, pt 1 0), (4, accV 3 r3.1.length), (6, iv m59), (21, iv (r1.2.length : Int)), (22, iv (w64 (v23 + 1)))])) (h2 := (H12_15 p1 r1 r3)) (Wk.an [1, 2, 3] (.ac (.lt (.fl (.cons (Rn.anyS (nl rfl) rfl (by first | rfl | simp only [List.length_set])) .nil)) (.ac (.ac (.nil _))))) [pt 1 0, accV 3 r3.1.length, iv m59, iv (r1.2.length : Int), iv (w64 (v23 + 1))] (.pp (.cons (Rn.acc (nl rfl) rfl) (.fl (.fl (.fl .nil)))))) (ih m59 (w64 (v23 + 1)) _ hF)
     clear hF
     have hF := hm60
     clear hm60
     refine TS.start ?_
     refine TS.cd (.tmp 61) ((r47.length : Int) == (r49.length : Int)) (fun hc61 => ?_) (fun hc61 => ?_)
     · replace hF := of_pos hF hc61
       refine TS.rg (TI.ra 3 [3, 4, 6, 21, 22] (st 72 [(3, pt 1 0), (4, accV 3 r3.1.length), (6, iv (w64 (v22 + 1))), (21, iv (r1.2.length : Int)), (22, iv v23)]) (TI.dn ?_))
       have hF := sj hF
       subst hF
       exact TS.weak (by exact (Wk.an [1, 2, 3] (.ac (.lt (.fl (.cons (Rn.anyS (nl rfl) rfl (by first | rfl | simp only [List.length_set])) .nil)) (.ac (.ac (.nil _))))) [pt 1 0, accV 3 r3.1.length, iv (w64 (v22 + 1)), iv (r1.2.length : Int), iv v23] (.pp (.cons (Rn.acc (nl rfl) rfl) (.fl (.fl (.fl .nil))))))) hK
     replace hF := of_neg hF hc61
     refine TS.sk ?_
     have hF := sj hF
     subst hF
     exact TS.weak (by exact (Wk.an [1, 2, 3] (.ac (.lt (.fl (.cons (Rn.anyS (nl rfl) rfl (by first | rfl | simp only [List.length_set])) .nil)) (.ac (.ac (.nil _))))) [pt 1 0, accV 3 r3.1.length, iv v22, iv (r1.2.length : Int), iv v23] (.pp (.cons (Rn.acc (nl rfl) rfl) (.fl (.fl (.fl .nil))))))) hK
   rcases Bool.eq_false_or_eq_true (decide (v22 < (r3.1.length : Int))) with hc51 | hc51
   · replace hm62 := of_pos hm62 hc51
     have hX := of_guard hm62
     clear hm62
     obtain ⟨hg52, hm62⟩ := hX
     have hX := of_do hm62
     clear hm62
     obtain ⟨o53, h54, hm62⟩ := hX
     replace h54 := sj h54
     have hm62 := sj hm62
     subst hm62
     exact TS.rg (TI.ra 4 [3, 4, 6, 7, 9, 21, 22, 47, 48, 50] (S12_10 r3 v22 v23 r47 r49 r1) (TI.o { val := .bool true } (q_conv (e := decide (v22 < (r3.1.length : Int))) (b := true) (by kernel_rfl) hc51) [3, 4, 6, 7, 9, 21, 22, 47, 51] [0, 1, 2, 3] (st 72 [(3, pt 1 0), (4, accV 3 r3.1.length), (6, iv v22), (7, iv v23), (9, .bool ((r47.length : Int) == (r49.length : Int))), (21, iv (r1.2.length : Int)), (22, iv v23), (47, .bool ((r47.length : Int) == (r49.length : Int))), (51, .bool true)]) (H12_13 p1 r1 r3) (TI.ra 3 [3, 4, 6, 7, 9, 21, 22, 47, 52, 53, 54] (st 72 [(3, pt 1 0), (4, accV 3 r3.1.length), (6, iv v22), (7, iv v23), (9, .bool ((r47.length : Int) == (r49.length : Int))), (21, iv (r1.2.length : Int)), (22, iv v23), (47, .bool ((r47.length : Int) == (r49.length : Int))), (52, .bool true), (53, accV 3 r3.1.length), (54, iv v22)]) (TI.o { val := .pointer (some ⟨3, 0 + (Int.toNat v22) * 1, none⟩) } (q_ixAcc (P := Try.prog) (t := 38) (s := 1) (e := 3) 3 r3.1.length (by kernel_rfl) hg52 (by kernel_rfl) (by kernel_rfl)) [3, 4, 6, 7, 9, 21, 22, 47, 52, 55] [0, 1, 2, 3] (st 72 [(3, pt 1 0), (4, accV 3 r3.1.length), (6, iv v22), (7, iv v23), (9, .bool ((r47.length : Int) == (r49.length : Int))), (21, iv (r1.2.length : Int)), (22, iv v23), (47, .bool ((r47.length : Int) == (r49.length : Int))), (52, .bool true), (55, .pointer (some ⟨3, 0 + (Int.toNat v22) * 1, none⟩))]) (H12_13 p1 r1 r3) (TI.o { val := iv o53 } (q_n1a Try.prog (H12_13 p1 r1 r3) 3 3 (0 + (Int.toNat v22) * 1) r3.1 e3 1 3 (Int.toNat v22) 0 0 h54) [3, 4, 6, 7, 9, 21, 22, 47, 52, 56] [0, 1, 2, 3] (st 72 [(3, pt 1 0), (4, accV 3 r3.1.length), (6, iv v22), (7, iv v23), (9, .bool ((r47.length : Int) == (r49.length : Int))), (21, iv (r1.2.length : Int)), (22, iv v23), (47, .bool ((r47.length : Int) == (r49.length : Int))), (52, .bool true), (56, iv o53)]) (H12_13 p1 r1 r3) (TI.ra 4 [3, 4, 6, 9, 21, 22, 60] (st 72 [(3, pt 1 0), (4, accV 3 r3.1.length), (6, iv v22), (9, .bool ((r47.length : Int) == (r49.length : Int))), (21, iv (r1.2.length : Int)), (22, iv v23), (60, .bool (!(((r47.length : Int) == (r49.length : Int)) == (o53 == v23))))]) (TI.dn hK)))))))
   replace hm62 := of_neg hm62 hc51
   have hm62 := sj hm62
   subst hm62
   exact TS.rg (TI.ra 4 [3, 4, 6, 7, 9, 21, 22, 47, 48, 50] (S12_10 r3 v22 v23 r47 r49 r1) (TI.o { val := .bool false } (q_conv (e := decide (v22 < (r3.1.length : Int))) (b := false) (by kernel_rfl) hc51) [3, 4, 6, 7, 9, 21, 22, 47, 51] [0, 1, 2, 3] (st 72 [(3, pt 1 0), (4, accV 3 r3.1.length), (6, iv v22), (7, iv v23), (9, .bool ((r47.length : Int) == (r49.length : Int))), (21, iv (r1.2.length : Int)), (22, iv v23), (47, .bool ((r47.length : Int) == (r49.length : Int))), (51, .bool false)]) (H12_13 p1 r1 r3) (TI.ra 9 [3, 4, 6, 9, 21, 22, 60] (st 72 [(3, pt 1 0), (4, accV 3 r3.1.length), (6, iv v22), (9, .bool ((r47.length : Int) == (r49.length : Int))), (21, iv (r1.2.length : Int)), (22, iv v23), (60, .bool (!(((r47.length : Int) == (r49.length : Int)) == false)))]) (TI.dn hK))))
 replace hF := of_neg hF hc42
 refine TS.ex 0 (NX.sqX ?_)
 have hF := sj hF
 subst hF
 exact Rd.out (e := .exit 0) (by intro h; cases h) (And.intro rfl (Wk.an [3] (.ac (.ac (.nil _))) [accV 3 r3.1.length, iv v22] (.cons (Rn.acc (nl rfl) rfl) (.fl .nil))))
theorem B12 (p0 : Int) (p1 : List I2) (r : Bool) (hF : F12 p0 p1 = some r) : TS Try.prog 1 1 c12 (st 72 [(0, ag [.int .u8 p0, sv 0 p1.length ANY])]) [ab 84 e84 p1] (NX Try.prog 1 1 [] (FinP Try.prog Try.f12 1 (V12 1 r) (N12 1 r))) := by
 unfold F12 at hF
 refine TS.sq (TS.rg (TI.rn 2 [1] [0, 1] (st 72 [(1, pt 1 0)]) [ab 84 e84 p1, cl 71 [.int .u8 p0, sv 0 p1.length ANY]] (TI.dn (NX.sq (TS.sq ?_)))))
 obtain ⟨r1, h2, hF⟩ := of_do hF
 refine TS.rg (TI.rn 1 [10] [0] (st 72 [(10, ag [.int .u8 p0, sv 0 p1.length ANY])]) [ab 84 e84 p1, .dead] (TI.cp 40 [ag [.int .u8 p0, sv 0 p1.length ANY]] (ag [iv r1.1, sv 2 r1.2.length ANY]) [ab 86 e86 r1.2] (PureSim.ren (hc := [ab 84 e84 p1]) (fun i => List.getD [(0, 0)] i (0, 0)) (C40 _ _ _ h2) (.ac (.nil _)) (.cons (Rn.agg' (.fl (.cons (Rn.any _ _ _ _ _ _ (nl rfl) rfl rfl (by decide)) .nil))) .nil) (Rn.agg' (.fl (.cons (Rn.anyS (i' := 2) (nl rfl) rfl rfl) .nil))) (newflat_cons (accB_flat (fun _ => rfl)) newflat_nil)) (TI.rn 2 [3] [0, 2, 3] (st 72 [(3, pt 3 0)]) [ab 84 e84 p1, .dead, ab 86 e86 r1.2, cl 24 [iv r1.1, sv 2 r1.2.length ANY]] (TI.dn (NX.sq (TS.sq ?_))))))
 obtain ⟨r3, h4, hF⟩ := of_do hF
 refine TS.rg (TI.ra 1 [3, 13] (st 72 [(3, pt 3 0), (13, ag [iv r1.1, sv 2 r1.2.length ANY])]) (TI.cp 36 [ag [iv r1.1, sv 2 r1.2.length ANY]] (.tuple ⟨[accV 4 r3.1.length, iv r3.2]⟩) [ab 3 e3 r3.1] (PureSim.ren (hc := [ab 86 e86 r1.2]) (fun i => List.getD [(2, 0)] i (0, 0)) (C36 _ _ _ h4) (.ac (.nil _)) (.cons (Rn.agg' (.fl (.cons (Rn.any _ _ _ _ _ _ (nl rfl) rfl rfl (by decide)) .nil))) .nil) (Rn.tuple' (.cons (Rn.acc (i' := 4) (nl rfl) rfl) (.fl .nil))) (newflat_cons (accB_flat (fun _ => rfl)) newflat_nil)) (TI.rn 5 [3, 4, 5] [0, 2, 3, 4] (st 72 [(3, pt 3 0), (4, accV 4 r3.1.length), (5, iv r3.2)]) [ab 84 e84 p1, .dead, ab 86 e86 r1.2, cl 24 [iv r1.1, sv 2 r1.2.length ANY], ab 3 e3 r3.1] (TI.dn (NX.sq (TS.sq (TS.sq (TS.rg ?_))))))))
 refine TI.ra 2 [3, 4, 18] (st 72 [(3, pt 3 0), (4, accV 4 r3.1.length), (18, .bool (r3.2 != 0))]) (TI.dn (NX.sq ?_))
 refine TS.cd (.tmp 18) (r3.2 != 0) (fun hc5 => ?_) (fun hc5 => ?_)
 · replace hF := of_pos hF hc5
   refine TS.sq (TS.rg (TI.rn 1 [2] [0] (st 72 [(2, .bool false)]) [ab 84 e84 p1, .dead, .dead, .dead, .dead] (TI.dn (NX.sq (TS.rt (NX.sqR ?_))))))
   have hF := sj hF
   subst hF
   exact ⟨.inr rfl, rfl, .bool false, by kernel_rfl, WkV.flat0 (by kernel_rfl) (nl rfl)⟩
 replace hF := of_neg hF hc5
 refine TS.sk (NX.sq (TS.sq (TS.rg (TI.ra 1 [3, 4, 6] (st 72 [(3, pt 3 0), (4, accV 4 r3.1.length), (6, iv 0)]) (TI.dn (NX.sq (TS.sq (TS.sq ?_))))))))
 refine TS.rg (TI.ra 4 [3, 4, 6, 21, 22] (st 72 [(3, pt 3 0), (4, accV 4 r3.1.length), (6, iv 0), (21, iv (r1.2.length : Int)), (22, iv 0)]) (TI.dn (NX.sq (TS.bk 0 ?_))))
 obtain ⟨r63, h64, hF⟩ := of_do hF
 refine TS.lp (TL.weak (a2 := (st 72 [(3, pt 1 0), (4, accV 3 r3.1.length), (6, iv 0), (21, iv (r1.2.length : Int)), (22, iv 0)])) (h2 := (H12_15 p1 r1 r3)) (Wk.an [3, 2, 4] (.ac (.lt (.fl (.cons (Rn.anyS (nl rfl) rfl (by first | rfl | simp only [List.length_set])) .nil)) (.ac (.ac (.nil _))))) [pt 3 0, accV 4 r3.1.length, iv 0, iv (r1.2.length : Int), iv 0] (.pp (.cons (Rn.acc (nl rfl) rfl) (.fl (.fl (.fl .nil)))))) (TL.post (L12l0 p1 r1 r3 0 0 r63 h64) ?_))
 rintro e a1 h1 hp
 rcases r63 with o65 | o66
 · skip
   obtain ⟨rfl, hw⟩ := hp
   refine ⟨(st 72 [(2, .bool false)]), [ab 84 e84 p1], (NX.bkR (NX.sqR ?_)), hw⟩
   have hF := sj hF
   subst hF
   exact ⟨.inr rfl, rfl, .bool false, by kernel_rfl, WkV.flat0 (by kernel_rfl) (nl rfl)⟩
 skip
 obtain ⟨rfl, hw⟩ := hp
 refine ⟨(st 72 [(4, accV 1 r3.1.length), (6, iv o66)]), [ab 84 e84 p1, ab 3 e3 r3.1], (NX.bkX (NX.sq (TS.sq ?_))), hw⟩
 obtain ⟨m70, hm71, hF⟩ := of_do hF
 have hK : NX Try.prog 1 1 [.sq c12.s2.s2.s2.s2.s2.s2.s2] (FinP Try.prog Try.f12 1 (V12 1 r) (N12 1 r)) .normal (st 72 [(2, .bool m70)]) [ab 84 e84 p1, .dead] := by
  refine NX.sq (TS.rt ?_)
  have hF := sj hF
  subst hF
  exact ⟨.inr rfl, rfl, .bool m70, by kernel_rfl, WkV.flat0 (by kernel_rfl) (nl rfl)⟩
 rcases Bool.eq_false_or_eq_true (o66 == (r3.1.length : Int)) with hc67 | hc67
 · replace hm71 := of_pos hm71 hc67
   have hX := of_do hm71
   clear hm71
   obtain ⟨r68, h69, hm71⟩ := hX
   have hm71 := sj hm71
   subst hm71
   exact TS.rg (TI.rn 3 [65, 67] [0] (st 72 [(65, iv o66), (67, iv (r3.1.length : Int))]) [ab 84 e84 p1, .dead] (TI.o { val := .bool true } (q_conv (e := o66 == (r3.1.length : Int)) (b := true) (by kernel_rfl) hc67) [68] [0] (st 72 [(68, .bool true)]) [ab 84 e84 p1, .dead] (TI.ra 1 [69] (st 72 [(69, .bool true)]) (TI.cf (C15 _ h69) (TI.ra 2 [2] (st 72 [(2, .bool r68)]) (TI.dn hK))))))
 replace hm71 := of_neg hm71 hc67
 have hm71 := sj hm71
 subst hm71
 exact TS.rg (TI.rn 3 [65, 67] [0] (st 72 [(65, iv o66), (67, iv (r3.1.length : Int))]) [ab 84 e84 p1, .dead] (TI.o { val := .bool false } (q_conv (e := o66 == (r3.1.length : Int)) (b := false) (by kernel_rfl) hc67) [68] [0] (st 72 [(68, .bool false)]) [ab 84 e84 p1, .dead] (TI.ra 4 [2] (st 72 [(2, .bool false)]) (TI.dn hK))))
theorem C12 (p0 : Int) (p1 : List I2) (r : Bool) (hF : F12 p0 p1 = some r) : PureSim Try.prog 12 [ag [.int .u8 p0, sv 0 p1.length ANY]] [ab 84 e84 p1] (V12 1 r) (N12 1 r) :=
 PureSim.of_Fin Try.func12 (c := c12) (by kernel_rfl) (by kernel_rfl) 1 rfl [0] [0] (by kernel_rfl) (B12 p0 p1 r hF)
end
end Go.Proofs.Ytiaippkjgmccoaa
