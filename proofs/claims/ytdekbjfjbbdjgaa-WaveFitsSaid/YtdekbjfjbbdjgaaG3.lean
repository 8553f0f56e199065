/- What functions of the program compute, and that they do. -/
import Derived.Test.YtdekbjfjbbdjgaaGW
set_option linter.unusedVariables false
set_option linter.unusedSimpArgs false
set_option maxRecDepth 100000
set_option maxHeartbeats 4000000
namespace Go.Proofs.Ytdekbjfjbbdjgaa
open Go Go.Cl
noncomputable section

-- agonic/agonicref04.Waves
noncomputable def c17 : Code := Try.f17.code
def S17_0 (p0 : Int) (r4 : ((List Int) × (List Int))) : CAct := (st 30 [(1, pt 1 0), (2, ownV 5 (List.length (List.take (Int.toNat p0) r4.2))), (3, ownV 7 (List.length (List.drop (Int.toNat p0) r4.2))), (4, iv 0), (7, mkV 3 (List.length r4.2)), (18, .slice (some ⟨4, 0, none⟩) 0 0), (19, mkV 3 (List.length r4.2)), (20, pt 1 0), (21, iv p0), (22, .slice (some ⟨3, 0, none⟩) (List.length (List.take (Int.toNat p0) r4.2)) (List.length r4.2)), (23, ownV 5 (List.length (List.take (Int.toNat p0) r4.2))), (24, .slice (some ⟨6, 0, none⟩) 0 0), (25, mkV 3 (List.length r4.2)), (26, pt 1 0), (27, iv p0), (28, .slice (some ⟨3, if List.length r4.2 = Int.toNat p0 then 0 else 0 + Int.toNat p0 * 1, none⟩) (List.length (List.drop (Int.toNat p0) r4.2)) (List.length r4.2 - Int.toNat p0)), (29, ownV 7 (List.length (List.drop (Int.toNat p0) r4.2)))])
def S17_1 (r4 : ((List Int) × (List Int))) (p0 : Int) : CAct := (st 30 [(1, pt 1 0), (7, mkV 3 (List.length r4.2)), (18, .slice (some ⟨4, 0, none⟩) 0 0), (19, mkV 3 (List.length r4.2)), (20, pt 1 0), (21, iv p0), (22, .slice (some ⟨3, 0, none⟩) (List.length (List.take (Int.toNat p0) r4.2)) (List.length r4.2)), (23, ownV 5 (List.length (List.take (Int.toNat p0) r4.2))), (24, .slice (some ⟨6, 0, none⟩) 0 0), (25, mkV 3 (List.length r4.2)), (26, pt 1 0), (27, iv p0), (28, .slice (some ⟨3, if List.length r4.2 = Int.toNat p0 then 0 else 0 + Int.toNat p0 * 1, none⟩) (List.length (List.drop (Int.toNat p0) r4.2)) (List.length r4.2 - Int.toNat p0))])
def S17_2 (r4 : ((List Int) × (List Int))) (p0 : Int) : CAct := (st 30 [(1, pt 1 0), (7, mkV 3 (List.length r4.2)), (18, .slice (some ⟨4, 0, none⟩) 0 0), (19, mkV 3 (List.length r4.2)), (20, pt 1 0), (21, iv p0), (22, .slice (some ⟨3, 0, none⟩) (List.length (List.take (Int.toNat p0) r4.2)) (List.length r4.2)), (23, ownV 5 (List.length (List.take (Int.toNat p0) r4.2))), (24, .slice (some ⟨6, 0, none⟩) 0 0), (25, mkV 3 (List.length r4.2)), (26, pt 1 0), (27, iv p0)])
def S17_3 (r4 : ((List Int) × (List Int))) (p0 : Int) : CAct := (st 30 [(1, pt 1 0), (7, mkV 3 (List.length r4.2)), (18, .slice (some ⟨4, 0, none⟩) 0 0), (19, mkV 3 (List.length r4.2)), (20, pt 1 0), (21, iv p0), (22, .slice (some ⟨3, 0, none⟩) (List.length (List.take (Int.toNat p0) r4.2)) (List.length r4.2)), (23, ownV 5 (List.length (List.take (Int.toNat p0) r4.2)))])
def H17_4 (p2 : (List (Int × Int))) (p0 : Int) (p1 : Int) (r4 : ((List Int) × (List Int))) : List Blk := [accB 72 (List.length p2) (List.flatMap e72 p2), cl 28 [iv p0, iv p1, .slice (some ⟨0, 0, none⟩) (List.length p2) ANY], .dead, .cells 3 (List.flatMap e3 r4.2), .dead, .cells 3 (List.flatMap e3 (List.take (Int.toNat p0) r4.2)), .dead, .cells 3 (List.flatMap e3 (List.drop (Int.toNat p0) r4.2))]
def S17_5 (r4 : ((List Int) × (List Int))) (p0 : Int) : CAct := (st 30 [(1, pt 1 0), (7, mkV 3 (List.length r4.2)), (18, .slice (some ⟨4, 0, none⟩) 0 0), (19, mkV 3 (List.length r4.2)), (20, pt 1 0), (21, iv p0), (22, .slice (some ⟨3, 0, none⟩) (List.length (List.take (Int.toNat p0) r4.2)) (List.length r4.2))])
def H17_6 (p2 : (List (Int × Int))) (p0 : Int) (p1 : Int) (r4 : ((List Int) × (List Int))) : List Blk := [accB 72 (List.length p2) (List.flatMap e72 p2), cl 28 [iv p0, iv p1, .slice (some ⟨0, 0, none⟩) (List.length p2) ANY], .dead, .cells 3 (List.flatMap e3 r4.2), .dead, .cells 3 (List.flatMap e3 (List.take (Int.toNat p0) r4.2)), cl 3 []]
def H17_7 (p2 : (List (Int × Int))) (p0 : Int) (p1 : Int) (r4 : ((List Int) × (List Int))) : List Blk := [accB 72 (List.length p2) (List.flatMap e72 p2), cl 28 [iv p0, iv p1, .slice (some ⟨0, 0, none⟩) (List.length p2) ANY], .dead, .cells 3 (List.flatMap e3 r4.2), .dead, .cells 3 (List.flatMap e3 (List.take (Int.toNat p0) r4.2))]
def H17_8 (p2 : (List (Int × Int))) (p0 : Int) (p1 : Int) (r4 : ((List Int) × (List Int))) : List Blk := [accB 72 (List.length p2) (List.flatMap e72 p2), cl 28 [iv p0, iv p1, .slice (some ⟨0, 0, none⟩) (List.length p2) ANY], .dead, .cells 3 (List.flatMap e3 r4.2), cl 3 []]
def S17_9 (r4 : ((List Int) × (List Int))) (p0 : Int) : CAct := (st 30 [(1, pt 1 0), (7, mkV 3 (List.length r4.2)), (18, .slice (some ⟨4, 0, none⟩) 0 0), (19, mkV 3 (List.length r4.2)), (20, pt 1 0), (21, iv p0)])
def F17 (p0 : Int) (p1 : Int) (p2 : (List (Int × Int))) : Option ((List Int) × (List Int) × Int) :=
  F22 p0 p1 p2 >>= fun r1 =>
  if r1 != 0 then
    some ([], [], r1)
  else
    F48 p0 p1 p2 >>= fun r4 =>
    if (0 : Int) ≤ p0 ∧ p0 ≤ (List.length r4.2 : Int) then
      if List.length r4.2 ≤ 1000000000 then
        if List.length (List.take (Int.toNat p0) r4.2) ≤ 1000000000 then
          if List.length (List.drop (Int.toNat p0) r4.2) ≤ 1000000000 then
            some (List.take (Int.toNat p0) r4.2, List.drop (Int.toNat p0) r4.2, 0)
          else none
        else none
      else none
    else none
def V17 (b : Nat) (r : ((List Int) × (List Int) × Int)) : Value := .tuple ⟨[.slice (some ⟨b + 0, 0, none⟩) (List.length r.1) ANY, .slice (some ⟨b + 1, 0, none⟩) (List.length r.2.1) ANY, iv r.2.2]⟩
def N17 (b : Nat) (r : ((List Int) × (List Int) × Int)) : List Blk := [accB 3 (List.length r.1) (List.flatMap e3 r.1), accB 3 (List.length r.2.1) (List.flatMap e3 r.2.1)]
theorem B17 (p0 : Int) (p1 : Int) (p2 : (List (Int × Int))) (r : ((List Int) × (List Int) × Int)) (hF : F17 p0 p1 p2 = some r) : TS Try.prog 1 1 c17 (st 30 [(0, ag [iv p0, iv p1, .slice (some ⟨0, 0, none⟩) (List.length p2) ANY])]) [accB 72 (List.length p2) (List.flatMap e72 p2)] (NX Try.prog 1 1 [] (FinP Try.prog Try.f17 1 (V17 1 r) (N17 1 r))) := by
  unfold F17 at hF
  refine TS.sq (TS.rg (TI.rn 4 [1] [0, 1] (st 30 [(1, pt 1 0)]) [accB 72 (List.length p2) (List.flatMap e72 p2), cl 28 [iv p0, iv p1, .slice (some ⟨0, 0, none⟩) (List.length p2) ANY]] (TI.dn (NX.sq (TS.sq ?_)))))
  have hX := of_do hF
  clear hF
  obtain ⟨r1, h2, hF⟩ := hX
  refine TS.rg (TI.ra 1 [1, 8] (st 30 [(1, pt 1 0), (8, ag [iv p0, iv p1, .slice (some ⟨0, 0, none⟩) (List.length p2) ANY])]) (TI.cp 22 [ag [iv p0, iv p1, .slice (some ⟨0, 0, none⟩) (List.length p2) ANY]] (iv r1) [] (PureSim.ren (hc := [accB 72 (List.length p2) (List.flatMap e72 p2)]) (fun i => List.getD [(0, 0)] i (0, 0)) (C22 _ _ _ _ h2) (.cons (At.acc (by kernel_rfl) rfl (fun _ => rfl)) (.nil _)) (.cons (Rn.agg' (.cons (.flat (by kernel_rfl)) (.cons (.flat (by kernel_rfl)) (.cons (Rn.any _ _ _ _ _ _ (Nat.le_of_ble_eq_true rfl) rfl rfl (by decide)) .nil)))) .nil) (.flat (by kernel_rfl)) newflat_nil) (TI.ra 1 [1, 5] (st 30 [(1, pt 1 0), (5, iv r1)]) (TI.dn (NX.sq (TS.sq (TS.sq (TS.rg ?_))))))))
  refine TI.ra 2 [1, 5, 11] (st 30 [(1, pt 1 0), (5, iv r1), (11, .bool (r1 != 0))]) (TI.dn (NX.sq ?_))
  refine TS.cd (.tmp 11) (r1 != 0) (fun hc3 => ?_) (fun hc3 => ?_)
  · replace hF := of_pos hF hc3
    refine TS.sq (TS.rg (TI.rn 4 [2, 3, 4] [0] (st 30 [(2, .slice none 0 0), (3, .slice none 0 0), (4, iv r1)]) [accB 72 (List.length p2) (List.flatMap e72 p2), .dead] (TI.dn (NX.sq (TS.rt (NX.sqR ?_))))))
    have hF := Option.some.inj hF
    subst hF
    exact ⟨.inr rfl, rfl, .tuple ⟨[.slice none 0 0, .slice none 0 0, iv r1]⟩, by kernel_rfl, WkV.made (L := 1) (f := [2, 3]) (by decide) (by decide) rfl (.cons At.accN (.cons At.accN (.nil _))) (Rn.tuple' (.cons (Rn.anyN _ _ _ rfl (by decide)) (.cons (Rn.anyN _ _ _ rfl (by decide)) (.cons (.flat (by kernel_rfl)) .nil))))⟩
  · replace hF := of_neg hF hc3
    refine TS.sk (NX.sq (TS.sq ?_))
    have hX := of_do hF
    clear hF
    obtain ⟨r4, h5, hF⟩ := hX
    refine TS.rg (TI.ra 1 [1, 14] (st 30 [(1, pt 1 0), (14, ag [iv p0, iv p1, .slice (some ⟨0, 0, none⟩) (List.length p2) ANY])]) (TI.cp 48 [ag [iv p0, iv p1, .slice (some ⟨0, 0, none⟩) (List.length p2) ANY]] (.tuple ⟨[mkV 2 (List.length r4.1), mkV 3 (List.length r4.2)]⟩) [.cells 3 (List.flatMap e3 r4.1), .cells 3 (List.flatMap e3 r4.2)] (PureSim.ren (hc := [accB 72 (List.length p2) (List.flatMap e72 p2)]) (fun i => List.getD [(0, 0)] i (0, 0)) (C48 _ _ _ _ h5) (.cons (At.acc (by kernel_rfl) rfl (fun _ => rfl)) (.nil _)) (.cons (Rn.agg' (.cons (.flat (by kernel_rfl)) (.cons (.flat (by kernel_rfl)) (.cons (Rn.any _ _ _ _ _ _ (Nat.le_of_ble_eq_true rfl) rfl rfl (by decide)) .nil)))) .nil) (Rn.tuple' (.cons (Rn.mk (i' := 2) (Nat.le_of_ble_eq_true rfl) rfl rfl) (.cons (Rn.mk (i' := 3) (Nat.le_of_ble_eq_true rfl) rfl rfl) .nil))) (newflat_cons (cellsL_flat (fun _ => rfl)) (newflat_cons (cellsL_flat (fun _ => rfl)) newflat_nil))) (TI.rn 5 [1, 7] [0, 1, 3] (st 30 [(1, pt 1 0), (7, mkV 3 (List.length r4.2))]) [accB 72 (List.length p2) (List.flatMap e72 p2), cl 28 [iv p0, iv p1, .slice (some ⟨0, 0, none⟩) (List.length p2) ANY], .dead, .cells 3 (List.flatMap e3 r4.2)] (TI.dn (NX.sq (TS.sq ?_))))))
    have hX := of_guard hF
    clear hF
    obtain ⟨hg6, hF⟩ := hX
    have hX := of_guard hF
    clear hF
    obtain ⟨hg7, hF⟩ := hX
    have hX := of_guard hF
    clear hF
    obtain ⟨hg8, hF⟩ := hX
    have hX := of_guard hF
    clear hF
    obtain ⟨hg9, hF⟩ := hX
    refine TS.draw' (id := 5) (b := true) (ops := c17.s2.s2.s2.s2.s1.rops) (fin := (qs (S17_1 r4 p0) (H17_6 p2 p0 p1 r4) [(6, 6, 7), (5, 5, 6), (0, 4, 5)] [(5, 4)])) (fin2 := (qs (S17_1 r4 p0) (H17_6 p2 p0 p1 r4) [(6, 6, 7), (5, 5, 6), (0, 4, 5)] [(5, 4)])) (a1 := (S17_0 p0 r4)) (h1 := (H17_4 p2 p0 p1 r4)) (a2 := (st 30 [(2, ownV 5 (List.length (List.take (Int.toNat p0) r4.2))), (3, ownV 7 (List.length (List.drop (Int.toNat p0) r4.2))), (4, iv 0)])) (h2 := [accB 72 (List.length p2) (List.flatMap e72 p2), .dead, .dead, .dead, .dead, .cells 3 (List.flatMap e3 (List.take (Int.toNat p0) r4.2)), .dead, .cells 3 (List.flatMap e3 (List.drop (Int.toNat p0) r4.2))]) [] (fun e he => by cases he) mixed (by kernel_rfl) rfl 11 (by kernel_rfl) [(5, 4)] ?_ rfl (.inr ⟨?_, (by kernel_rfl)⟩) ?_ [2, 3, 4] [0, 5, 7] (by kernel_rfl) ?_
    · refine QI.run (s1 := (qs (S17_9 r4 p0) (H17_8 p2 p0 p1 r4) [(0, 4, 5)] [])) 4 (by kernel_rfl) (by kernel_rfl) (QI.op (q := { val := .slice (some ⟨3, 0, none⟩) (List.length (List.take (Int.toNat p0) r4.2)) (List.length r4.2) }) (s1 := (qs (S17_5 r4 p0) (H17_8 p2 p0 p1 r4) [(0, 4, 5)] [])) (by decide) (q_slKhi (P := Try.prog) (t := 30) (e := 3) (s := 1) (b := 3) (off := 0) (ys := r4.2) (k := .i64) (y := p0) (by kernel_rfl) (by kernel_rfl) (by kernel_rfl) (by simp only [INF]; omega) hg6) (by kernel_rfl) ?_)
      exact QI.op (q := { val := ownV 5 (List.length (List.take (Int.toNat p0) r4.2)), new := [.cells 3 (List.flatMap e3 (List.take (Int.toNat p0) r4.2))], upd := some (4, .dead) }) (s1 := (qs (S17_3 r4 p0) (H17_7 p2 p0 p1 r4) [(5, 5, 6), (0, 4, 5)] [(5, 4)])) (by decide) (q_appL (P := Try.prog) (base := 1) (hp := (H17_8 p2 p0 p1 r4)) (n := 5) (s := 1) (enc := e3) (ts := #[30, 30]) (e := 3) (bytes := 8) (z := iv 0) (y := .slice (some ⟨3, 0, none⟩) (List.length (List.take (Int.toNat p0) r4.2)) (List.length r4.2)) (ys := List.take (Int.toNat p0) r4.2) (b := 4) (t := 3) (by kernel_rfl) (by kernel_rfl) (by decide) (by kernel_rfl) (by kernel_rfl) (by kernel_rfl) (by kernel_rfl) (by kernel_rfl) (by kernel_rfl) (arg_win (e := 3) (off := 0) (L := r4.2) (ys := List.take (Int.toNat p0) r4.2) (win_take win_all _) (holds_lst (hp := (H17_8 p2 p0 p1 r4)) (b := 3) (T := 3) (enc := e3) (L := r4.2) (by kernel_rfl)) (fun _ => rfl) (by kernel_rfl)) (by first | omega | (simp only [List.length_append, List.length_cons, List.length_nil]; omega))) (by kernel_rfl) (QI.run (s1 := (qs (S17_2 r4 p0) (H17_6 p2 p0 p1 r4) [(6, 6, 7), (5, 5, 6), (0, 4, 5)] [(5, 4)])) 4 (by kernel_rfl) (by kernel_rfl) (QI.op (q := { val := .slice (some ⟨3, if List.length r4.2 = Int.toNat p0 then 0 else 0 + Int.toNat p0 * 1, none⟩) (List.length (List.drop (Int.toNat p0) r4.2)) (List.length r4.2 - Int.toNat p0) }) (s1 := (qs (S17_1 r4 p0) (H17_6 p2 p0 p1 r4) [(6, 6, 7), (5, 5, 6), (0, 4, 5)] [(5, 4)])) (by decide) (q_slKlo (P := Try.prog) (t := 30) (e := 3) (s := 1) (b := 3) (off := 0) (ys := r4.2) (k := .i64) (y := p0) (by kernel_rfl) (by kernel_rfl) (by kernel_rfl) (by simp only [INF]; omega) hg6) (by kernel_rfl) (QI.done (by kernel_rfl))))
    · refine QI.run (s1 := (qs (S17_9 r4 p0) (H17_8 p2 p0 p1 r4) [(0, 4, 5)] [])) 4 (by kernel_rfl) (by kernel_rfl) (QI.op (q := { val := .slice (some ⟨3, 0, none⟩) (List.length (List.take (Int.toNat p0) r4.2)) (List.length r4.2) }) (s1 := (qs (S17_5 r4 p0) (H17_8 p2 p0 p1 r4) [(0, 4, 5)] [])) (by decide) (q_slKhi (P := Try.prog) (t := 30) (e := 3) (s := 1) (b := 3) (off := 0) (ys := r4.2) (k := .i64) (y := p0) (by kernel_rfl) (by kernel_rfl) (by kernel_rfl) (by simp only [INF]; omega) hg6) (by kernel_rfl) ?_)
      exact QI.op (q := { val := ownV 5 (List.length (List.take (Int.toNat p0) r4.2)), new := [.cells 3 (List.flatMap e3 (List.take (Int.toNat p0) r4.2))], upd := some (4, .dead) }) (s1 := (qs (S17_3 r4 p0) (H17_7 p2 p0 p1 r4) [(5, 5, 6), (0, 4, 5)] [(5, 4)])) (by decide) (q_appL (P := Try.prog) (base := 1) (hp := (H17_8 p2 p0 p1 r4)) (n := 5) (s := 1) (enc := e3) (ts := #[30, 30]) (e := 3) (bytes := 8) (z := iv 0) (y := .slice (some ⟨3, 0, none⟩) (List.length (List.take (Int.toNat p0) r4.2)) (List.length r4.2)) (ys := List.take (Int.toNat p0) r4.2) (b := 4) (t := 3) (by kernel_rfl) (by kernel_rfl) (by decide) (by kernel_rfl) (by kernel_rfl) (by kernel_rfl) (by kernel_rfl) (by kernel_rfl) (by kernel_rfl) (arg_win (e := 3) (off := 0) (L := r4.2) (ys := List.take (Int.toNat p0) r4.2) (win_take win_all _) (holds_lst (hp := (H17_8 p2 p0 p1 r4)) (b := 3) (T := 3) (enc := e3) (L := r4.2) (by kernel_rfl)) (fun _ => rfl) (by kernel_rfl)) (by first | omega | (simp only [List.length_append, List.length_cons, List.length_nil]; omega))) (by kernel_rfl) (QI.run (s1 := (qs (S17_2 r4 p0) (H17_6 p2 p0 p1 r4) [(6, 6, 7), (5, 5, 6), (0, 4, 5)] [(5, 4)])) 4 (by kernel_rfl) (by kernel_rfl) (QI.op (q := { val := .slice (some ⟨3, if List.length r4.2 = Int.toNat p0 then 0 else 0 + Int.toNat p0 * 1, none⟩) (List.length (List.drop (Int.toNat p0) r4.2)) (List.length r4.2 - Int.toNat p0) }) (s1 := (qs (S17_1 r4 p0) (H17_6 p2 p0 p1 r4) [(6, 6, 7), (5, 5, 6), (0, 4, 5)] [(5, 4)])) (by decide) (q_slKlo (P := Try.prog) (t := 30) (e := 3) (s := 1) (b := 3) (off := 0) (ys := r4.2) (k := .i64) (y := p0) (by kernel_rfl) (by kernel_rfl) (by kernel_rfl) (by simp only [INF]; omega) hg6) (by kernel_rfl) (QI.done (by kernel_rfl))))
    · exact SI.op (q := { val := ownV 7 (List.length (List.drop (Int.toNat p0) r4.2)), new := [.cells 3 (List.flatMap e3 (List.drop (Int.toNat p0) r4.2))], upd := some (6, .dead) }) (a2 := (st 30 [(1, pt 1 0), (7, mkV 3 (List.length r4.2)), (18, .slice (some ⟨4, 0, none⟩) 0 0), (19, mkV 3 (List.length r4.2)), (20, pt 1 0), (21, iv p0), (22, .slice (some ⟨3, 0, none⟩) (List.length (List.take (Int.toNat p0) r4.2)) (List.length r4.2)), (23, ownV 5 (List.length (List.take (Int.toNat p0) r4.2))), (24, .slice (some ⟨6, 0, none⟩) 0 0), (25, mkV 3 (List.length r4.2)), (26, pt 1 0), (27, iv p0), (28, .slice (some ⟨3, if List.length r4.2 = Int.toNat p0 then 0 else 0 + Int.toNat p0 * 1, none⟩) (List.length (List.drop (Int.toNat p0) r4.2)) (List.length r4.2 - Int.toNat p0)), (29, ownV 7 (List.length (List.drop (Int.toNat p0) r4.2)))])) (h2 := (H17_4 p2 p0 p1 r4)) (by kernel_rfl) (q_appL (P := Try.prog) (base := 1) (hp := (H17_6 p2 p0 p1 r4)) (n := 7) (s := 1) (enc := e3) (ts := #[30, 30]) (e := 3) (bytes := 8) (z := iv 0) (y := .slice (some ⟨3, if List.length r4.2 = Int.toNat p0 then 0 else 0 + Int.toNat p0 * 1, none⟩) (List.length (List.drop (Int.toNat p0) r4.2)) (List.length r4.2 - Int.toNat p0)) (ys := List.drop (Int.toNat p0) r4.2) (b := 6) (t := 3) (by kernel_rfl) (by kernel_rfl) (by decide) (by kernel_rfl) (by kernel_rfl) (by kernel_rfl) (by kernel_rfl) (by kernel_rfl) (by kernel_rfl) (arg_win (e := 3) (off := if List.length r4.2 = Int.toNat p0 then 0 else 0 + Int.toNat p0 * 1) (L := r4.2) (ys := List.drop (Int.toNat p0) r4.2) (win_dropif win_all _) (holds_lst (hp := (H17_6 p2 p0 p1 r4)) (b := 3) (T := 3) (enc := e3) (L := r4.2) (by kernel_rfl)) (fun _ => rfl) (by kernel_rfl)) (by first | omega | (simp only [List.length_append, List.length_cons, List.length_nil]; omega))) (by kernel_rfl) (by kernel_rfl) (SI.run (a2 := (S17_0 p0 r4)) (h2 := (H17_4 p2 p0 p1 r4)) 3 (by kernel_rfl) (SI.done (by kernel_rfl)))
    refine TS.rt ?_
    have hF := Option.some.inj hF
    subst hF
    exact ⟨.inr rfl, rfl, .tuple ⟨[ownV 5 (List.length (List.take (Int.toNat p0) r4.2)), ownV 7 (List.length (List.drop (Int.toNat p0) r4.2)), iv 0]⟩, by kernel_rfl, WkV.made (L := 1) (f := [5, 7]) (by decide) (by decide) rfl (.cons (At.accU (by kernel_rfl) rfl (fun _ => rfl)) (.cons (At.accU (by kernel_rfl) rfl (fun _ => rfl)) (.nil _))) (Rn.tuple' (.cons (Rn.ownA (Nat.le_of_ble_eq_true rfl) rfl (by simp only [List.length_set])) (.cons (Rn.ownA (Nat.le_of_ble_eq_true rfl) rfl (by simp only [List.length_set])) (.cons (.flat (by kernel_rfl)) .nil))))⟩
theorem C17 (p0 : Int) (p1 : Int) (p2 : (List (Int × Int))) (r : ((List Int) × (List Int) × Int)) (hF : F17 p0 p1 p2 = some r) : PureSim Try.prog 17 [ag [iv p0, iv p1, .slice (some ⟨0, 0, none⟩) (List.length p2) ANY]] [accB 72 (List.length p2) (List.flatMap e72 p2)] (V17 1 r) (N17 1 r) :=
  PureSim.of_Fin Try.func17 (c := c17) (by kernel_rfl) (by kernel_rfl) 1 rfl [0] [0] (by kernel_rfl) (B17 p0 p1 p2 r hF)

-- agonic/agonicref04.Parts
noncomputable def c19 : Code := Try.f19.code
def H19_0 (p2 : (List (Int × Int))) (r4 : ((List Int) × (List Int))) : List Blk := [accB 72 (List.length p2) (List.flatMap e72 p2), .cells 3 (List.flatMap e3 r4.1)]
def F19l0 (p2 : (List (Int × Int))) (r4 : ((List Int) × (List Int))) (v11 : Int) (v12 : Int) : Option Int :=
    if decide (v12 < (List.length r4.1 : Int)) then
      if (0 : Int) ≤ v12 ∧ v12 < (List.length r4.1 : Int) then
        some (List.getD r4.1 (Int.toNat v12) 0) >>= fun o21 =>
        (
          if o21 == v12 then
            some (w64 (v11 + 1))
          else
            some v11
        : Option Int) >>= fun m26 =>
        F19l0 p2 r4 m26 (w64 (v12 + 1))
      else none
    else
      some v11
  partial_fixpoint
def F19 (p0 : Int) (p1 : Int) (p2 : (List (Int × Int))) : Option (Int × Int) :=
  F24 p0 p1 p2 >>= fun r1 =>
  if r1 != 0 then
    some (0, r1)
  else
    F48 p0 p1 p2 >>= fun r4 =>
    F19l0 p2 r4 0 0 >>= fun r29 =>
    some (r29, 0)
def V19 (b : Nat) (r : (Int × Int)) : Value := .tuple ⟨[iv r.1, iv r.2]⟩
def N19 (b : Nat) (r : (Int × Int)) : List Blk := []
def P19l0 (p2 : (List (Int × Int))) (r4 : ((List Int) × (List Int))) (r : Int) : Post := fun e a h => e = .exit 0 ∧ Wk Try.prog 1 1 a h (st 34 [(7, iv r)]) [accB 72 (List.length p2) (List.flatMap e72 p2)]
theorem L19l0 (p2 : (List (Int × Int))) (r4 : ((List Int) × (List Int))) (v11 : Int) (v12 : Int) (r : Int) (hF : F19l0 p2 r4 v11 v12 = some r) : TL Try.prog 1 1 c19.s2.s2.s2.s2.s2.s1.s2.bd.bd (st 34 [(5, mkV 1 (List.length r4.1)), (7, iv v11), (8, iv v12)]) (H19_0 p2 r4) (P19l0 p2 r4 r) := by
  refine F19l0.partial_correctness p2 r4 (motive := fun v11 v12 r => TL Try.prog 1 1 c19.s2.s2.s2.s2.s2.s1.s2.bd.bd (st 34 [(5, mkV 1 (List.length r4.1)), (7, iv v11), (8, iv v12)]) (H19_0 p2 r4) (P19l0 p2 r4 r)) ?_ v11 v12 r hF
  clear hF r v11 v12
  intro again ih v11 v12 r hF
  refine TL.round (TS.sq (TS.sq (TS.rg (TI.ra 4 [5, 7, 8, 22] (st 34 [(5, mkV 1 (List.length r4.1)), (7, iv v11), (8, iv v12), (22, .bool (decide (v12 < (List.length r4.1 : Int))))]) (TI.dn (NX.sq ?_))))))
  refine TS.cd (.tmp 22) (decide (v12 < (List.length r4.1 : Int))) (fun hc19 => ?_) (fun hc19 => ?_)
  · replace hF := of_pos hF hc19
    refine TS.sk (NX.sq (TS.sq (TS.bk 1 (TS.sq ?_))))
    have hX := of_guard hF
    clear hF
    obtain ⟨hg20, hF⟩ := hX
    have hX := of_do hF
    clear hF
    obtain ⟨o21, h22, hF⟩ := hX
    replace h22 := Option.some.inj h22
    refine TS.rg (TI.ra 2 [5, 7, 8, 25, 26] (st 34 [(5, mkV 1 (List.length r4.1)), (7, iv v11), (8, iv v12), (25, mkV 1 (List.length r4.1)), (26, iv v12)]) (TI.o { val := .pointer (some ⟨1, 0 + (Int.toNat v12) * 1, none⟩) } (q_ixS 1 0 ((Int.toNat v12) * 1) (by kernel_rfl) hg20) [5, 7, 8, 27] [0, 1] (st 34 [(5, mkV 1 (List.length r4.1)), (7, iv v11), (8, iv v12), (27, .pointer (some ⟨1, 0 + (Int.toNat v12) * 1, none⟩))]) (H19_0 p2 r4) ?_))
    refine TI.o { val := iv o21 } (q_eqv (q_ld1 (P := Try.prog) (hp := (H19_0 p2 r4)) (t := 3) (b := 1) (off := 0 + (Int.toNat v12) * 1) (l := r4.1) (enc := e3) (s := 1) (T := 3) (i := Int.toNat v12) (k := 0) (by kernel_rfl) (by kernel_rfl) (by kernel_rfl) (fun _ => rfl) (by omega) (by decide) (by first | omega | (simp only [List.length_set, List.length_replicate, List.length_cons, List.length_nil, List.length_append]; omega)) 0) (congrArg (fun (z : Int) => ({ val := iv z } : QRes)) h22)) [5, 7, 8, 28] [0, 1] (st 34 [(5, mkV 1 (List.length r4.1)), (7, iv v11), (8, iv v12), (28, iv o21)]) (H19_0 p2 r4) (TI.ra 2 [5, 7, 8, 30] (st 34 [(5, mkV 1 (List.length r4.1)), (7, iv v11), (8, iv v12), (30, .bool (o21 == v12))]) (TI.dn (NX.sq ?_)))
    have hX := of_do hF
    clear hF
    obtain ⟨m26, hm27, hF⟩ := hX
    have hK : NX Try.prog 1 1 [.bk 1, .sq c19.s2.s2.s2.s2.s2.s1.s2.bd.bd.s2.s2] (Rd Try.prog 1 1 c19.s2.s2.s2.s2.s2.s1.s2.bd.bd (P19l0 p2 r4 r)) .normal (st 34 [(5, mkV 1 (List.length r4.1)), (7, iv m26), (8, iv v12)]) (H19_0 p2 r4) := by
      refine NX.bk (NX.sq (TS.rg (TI.ra 3 [5, 7, 8] (st 34 [(5, mkV 1 (List.length r4.1)), (7, iv m26), (8, iv (w64 (v12 + 1)))]) (TI.dn ?_))))
      exact Rd.again (a2 := (st 34 [(5, mkV 1 (List.length r4.1)), (7, iv m26), (8, iv (w64 (v12 + 1)))])) (h2 := (H19_0 p2 r4)) (Wk.anew (base := 1) (L := 1) (f := [1]) (by decide) (by decide) (Nat.le_of_ble_eq_true rfl) rfl (.cons (At.acc (by kernel_rfl) rfl (fun _ => rfl)) (.cons (At.blk (by kernel_rfl) (RnB.list (fun _ => rfl))) (.nil _))) (LRn.stx [5, 7, 8] [mkV 1 (List.length r4.1), iv m26, iv (w64 (v12 + 1))] [mkV 1 (List.length r4.1), iv m26, iv (w64 (v12 + 1))] (.cons (Rn.mk (Nat.le_of_ble_eq_true rfl) rfl (by simp only [List.length_set])) (.cons (.flat (by kernel_rfl)) (.cons (.flat (by kernel_rfl)) .nil))) (by kernel_rfl) (by kernel_rfl) rfl) rfl rfl) (ih m26 (w64 (v12 + 1)) _ hF)
    clear hF
    have hF := hm27
    clear hm27
    refine TS.start ?_
    refine TS.cd (.tmp 30) (o21 == v12) (fun hc28 => ?_) (fun hc28 => ?_)
    · replace hF := of_pos hF hc28
      refine TS.rg (TI.ra 3 [5, 7, 8] (st 34 [(5, mkV 1 (List.length r4.1)), (7, iv (w64 (v11 + 1))), (8, iv v12)]) (TI.dn ?_))
      have hF := Option.some.inj hF
      subst hF
      exact TS.weak (Wk.anew (base := 1) (L := 1) (f := [1]) (by decide) (by decide) (Nat.le_of_ble_eq_true rfl) rfl (.cons (At.acc (by kernel_rfl) rfl (fun _ => rfl)) (.cons (At.blk (by kernel_rfl) (RnB.list (fun _ => rfl))) (.nil _))) (LRn.stx [5, 7, 8] [mkV 1 (List.length r4.1), iv (w64 (v11 + 1)), iv v12] [mkV 1 (List.length r4.1), iv (w64 (v11 + 1)), iv v12] (.cons (Rn.mk (Nat.le_of_ble_eq_true rfl) rfl (by simp only [List.length_set])) (.cons (.flat (by kernel_rfl)) (.cons (.flat (by kernel_rfl)) .nil))) (by kernel_rfl) (by kernel_rfl) rfl) rfl rfl) hK
    · replace hF := of_neg hF hc28
      refine TS.sk ?_
      have hF := Option.some.inj hF
      subst hF
      exact TS.weak (Wk.anew (base := 1) (L := 1) (f := [1]) (by decide) (by decide) (Nat.le_of_ble_eq_true rfl) rfl (.cons (At.acc (by kernel_rfl) rfl (fun _ => rfl)) (.cons (At.blk (by kernel_rfl) (RnB.list (fun _ => rfl))) (.nil _))) (LRn.stx [5, 7, 8] [mkV 1 (List.length r4.1), iv v11, iv v12] [mkV 1 (List.length r4.1), iv v11, iv v12] (.cons (Rn.mk (Nat.le_of_ble_eq_true rfl) rfl (by simp only [List.length_set])) (.cons (.flat (by kernel_rfl)) (.cons (.flat (by kernel_rfl)) .nil))) (by kernel_rfl) (by kernel_rfl) rfl) rfl rfl) hK
  · replace hF := of_neg hF hc19
    refine TS.ex 0 (NX.sqX ?_)
    have hF := Option.some.inj hF
    subst hF
    exact Rd.out (e := .exit 0) (by intro h; cases h) (And.intro rfl (Wk.anew (base := 1) (L := 1) (f := []) (by decide) (by decide) (Nat.le_of_ble_eq_true rfl) rfl (.cons (At.acc (by kernel_rfl) rfl (fun _ => rfl)) (.nil _)) (LRn.stx [7] [iv v11] [iv v11] (.cons (.flat (by kernel_rfl)) .nil) (by kernel_rfl) (by kernel_rfl) rfl) rfl rfl))
theorem B19 (p0 : Int) (p1 : Int) (p2 : (List (Int × Int))) (r : (Int × Int)) (hF : F19 p0 p1 p2 = some r) : TS Try.prog 1 1 c19 (st 34 [(0, ag [iv p0, iv p1, .slice (some ⟨0, 0, none⟩) (List.length p2) ANY])]) [accB 72 (List.length p2) (List.flatMap e72 p2)] (NX Try.prog 1 1 [] (FinP Try.prog Try.f19 1 (V19 1 r) (N19 1 r))) := by
  unfold F19 at hF
  refine TS.sq (TS.rg (TI.rn 3 [1] [0, 1] (st 34 [(1, pt 1 0)]) [accB 72 (List.length p2) (List.flatMap e72 p2), cl 28 [iv p0, iv p1, .slice (some ⟨0, 0, none⟩) (List.length p2) ANY]] (TI.dn (NX.sq (TS.sq ?_)))))
  have hX := of_do hF
  clear hF
  obtain ⟨r1, h2, hF⟩ := hX
  refine TS.rg (TI.ra 1 [1, 9] (st 34 [(1, pt 1 0), (9, ag [iv p0, iv p1, .slice (some ⟨0, 0, none⟩) (List.length p2) ANY])]) (TI.cp 24 [ag [iv p0, iv p1, .slice (some ⟨0, 0, none⟩) (List.length p2) ANY]] (iv r1) [] (PureSim.ren (hc := [accB 72 (List.length p2) (List.flatMap e72 p2)]) (fun i => List.getD [(0, 0)] i (0, 0)) (C24 _ _ _ _ h2) (.cons (At.acc (by kernel_rfl) rfl (fun _ => rfl)) (.nil _)) (.cons (Rn.agg' (.cons (.flat (by kernel_rfl)) (.cons (.flat (by kernel_rfl)) (.cons (Rn.any _ _ _ _ _ _ (Nat.le_of_ble_eq_true rfl) rfl rfl (by decide)) .nil)))) .nil) (.flat (by kernel_rfl)) newflat_nil) (TI.ra 1 [1, 4] (st 34 [(1, pt 1 0), (4, iv r1)]) (TI.dn (NX.sq (TS.sq (TS.sq (TS.rg ?_))))))))
  refine TI.ra 2 [1, 4, 12] (st 34 [(1, pt 1 0), (4, iv r1), (12, .bool (r1 != 0))]) (TI.dn (NX.sq ?_))
  refine TS.cd (.tmp 12) (r1 != 0) (fun hc3 => ?_) (fun hc3 => ?_)
  · replace hF := of_pos hF hc3
    refine TS.sq (TS.rg (TI.rn 3 [2, 3] [0] (st 34 [(2, iv 0), (3, iv r1)]) [accB 72 (List.length p2) (List.flatMap e72 p2), .dead] (TI.dn (NX.sq (TS.rt (NX.sqR ?_))))))
    have hF := Option.some.inj hF
    subst hF
    exact ⟨.inr rfl, rfl, .tuple ⟨[iv 0, iv r1]⟩, by kernel_rfl, WkV.flat0 (by kernel_rfl) (Nat.le_of_ble_eq_true rfl)⟩
  · replace hF := of_neg hF hc3
    refine TS.sk (NX.sq (TS.sq ?_))
    have hX := of_do hF
    clear hF
    obtain ⟨r4, h5, hF⟩ := hX
    refine TS.rg (TI.rn 1 [15] [0] (st 34 [(15, ag [iv p0, iv p1, .slice (some ⟨0, 0, none⟩) (List.length p2) ANY])]) [accB 72 (List.length p2) (List.flatMap e72 p2), .dead] (TI.cp 48 [ag [iv p0, iv p1, .slice (some ⟨0, 0, none⟩) (List.length p2) ANY]] (.tuple ⟨[mkV 2 (List.length r4.1), mkV 3 (List.length r4.2)]⟩) [.cells 3 (List.flatMap e3 r4.1), .cells 3 (List.flatMap e3 r4.2)] (PureSim.ren (hc := [accB 72 (List.length p2) (List.flatMap e72 p2)]) (fun i => List.getD [(0, 0)] i (0, 0)) (C48 _ _ _ _ h5) (.cons (At.acc (by kernel_rfl) rfl (fun _ => rfl)) (.nil _)) (.cons (Rn.agg' (.cons (.flat (by kernel_rfl)) (.cons (.flat (by kernel_rfl)) (.cons (Rn.any _ _ _ _ _ _ (Nat.le_of_ble_eq_true rfl) rfl rfl (by decide)) .nil)))) .nil) (Rn.tuple' (.cons (Rn.mk (i' := 2) (Nat.le_of_ble_eq_true rfl) rfl rfl) (.cons (Rn.mk (i' := 3) (Nat.le_of_ble_eq_true rfl) rfl rfl) .nil))) (newflat_cons (cellsL_flat (fun _ => rfl)) (newflat_cons (cellsL_flat (fun _ => rfl)) newflat_nil))) (TI.rn 5 [5] [0, 2] (st 34 [(5, mkV 2 (List.length r4.1))]) [accB 72 (List.length p2) (List.flatMap e72 p2), .dead, .cells 3 (List.flatMap e3 r4.1), .dead] (TI.dn (NX.sq (TS.sq (TS.rg (TI.ra 1 [5, 7] (st 34 [(5, mkV 2 (List.length r4.1)), (7, iv 0)]) ?_))))))))
    refine TI.dn (NX.sq (TS.sq (TS.sq (TS.rg (TI.ra 1 [5, 7, 8] (st 34 [(5, mkV 2 (List.length r4.1)), (7, iv 0), (8, iv 0)]) (TI.dn (NX.sq (TS.bk 0 ?_))))))))
    have hX := of_do hF
    clear hF
    obtain ⟨r29, h30, hF⟩ := hX
    refine TS.lp (TL.weak (a2 := (st 34 [(5, mkV 1 (List.length r4.1)), (7, iv 0), (8, iv 0)])) (h2 := (H19_0 p2 r4)) (Wk.anew (base := 1) (L := 1) (f := [2]) (by decide) (by decide) (Nat.le_of_ble_eq_true rfl) rfl (.cons (At.acc (by kernel_rfl) rfl (fun _ => rfl)) (.cons (At.blk (by kernel_rfl) (RnB.list (fun _ => rfl))) (.nil _))) (LRn.stx [5, 7, 8] [mkV 1 (List.length r4.1), iv 0, iv 0] [mkV 2 (List.length r4.1), iv 0, iv 0] (.cons (Rn.mk (Nat.le_of_ble_eq_true rfl) rfl (by simp only [List.length_set])) (.cons (.flat (by kernel_rfl)) (.cons (.flat (by kernel_rfl)) .nil))) (by kernel_rfl) (by kernel_rfl) rfl) rfl rfl) (TL.post (L19l0 p2 r4 0 0 r29 h30) ?_))
    rintro e a1 h1 hp
    obtain ⟨rfl, hw⟩ := hp
    refine ⟨(st 34 [(7, iv r29)]), [accB 72 (List.length p2) (List.flatMap e72 p2)], (NX.bkX (NX.sq (TS.sq (TS.rg (TI.ra 3 [2, 3] (st 34 [(2, iv r29), (3, iv 0)]) (TI.dn (NX.sq (TS.rt ?_)))))))), hw⟩
    have hF := Option.some.inj hF
    subst hF
    exact ⟨.inr rfl, rfl, .tuple ⟨[iv r29, iv 0]⟩, by kernel_rfl, WkV.flat0 (by kernel_rfl) (Nat.le_of_ble_eq_true rfl)⟩
theorem C19 (p0 : Int) (p1 : Int) (p2 : (List (Int × Int))) (r : (Int × Int)) (hF : F19 p0 p1 p2 = some r) : PureSim Try.prog 19 [ag [iv p0, iv p1, .slice (some ⟨0, 0, none⟩) (List.length p2) ANY]] [accB 72 (List.length p2) (List.flatMap e72 p2)] (V19 1 r) (N19 1 r) :=
  PureSim.of_Fin Try.func19 (c := c19) (by kernel_rfl) (by kernel_rfl) 1 rfl [0] [0] (by kernel_rfl) (B19 p0 p1 p2 r hF)

-- agonic/agoniclaw04.numbers
noncomputable def c20 : Code := Try.f20.code
def S20_0 (p0 : (List Int)) (p1 : (List Int)) : CAct := (st 26 [(0, .slice (some ⟨0, 0, none⟩) (List.length p0) ANY), (1, .slice (some ⟨1, 0, none⟩) (List.length p1) ANY), (5, iv 0)])
def H20_1 (p0 : (List Int)) (p1 : (List Int)) : List Blk := [accB 3 (List.length p0) (List.flatMap e3 p0), accB 3 (List.length p1) (List.flatMap e3 p1)]
def F20l0 (p0 : (List Int)) (p1 : (List Int)) (v10 : Int) : Option (Unit ⊕ Unit) :=
    if decide (v10 < (List.length p0 : Int)) then
      if (0 : Int) ≤ v10 ∧ v10 < (List.length p0 : Int) then
        some (List.getD p0 (Int.toNat v10) 0) >>= fun o21 =>
        if (0 : Int) ≤ v10 ∧ v10 < (List.length p1 : Int) then
          some (List.getD p1 (Int.toNat v10) 0) >>= fun o24 =>
          if o21 != o24 then
            some (.inl ())
          else
            F20l0 p0 p1 (w64 (v10 + 1))
        else none
      else none
    else
      some (.inr ())
  partial_fixpoint
def F20 (p0 : (List Int)) (p1 : (List Int)) : Option Bool :=
  if (List.length p0 : Int) != (List.length p1 : Int) then
    some false
  else
    F20l0 p0 p1 0 >>= fun r27 =>
    match r27 with
    | .inl o29 =>
      some false
    | .inr o30 =>
      some true
def V20 (b : Nat) (r : Bool) : Value := .bool r
def N20 (b : Nat) (r : Bool) : List Blk := []
def P20l0 (p0 : (List Int)) (p1 : (List Int)) (r : (Unit ⊕ Unit)) : Post := fun e a h => (match r with | .inl q0 => e = .ret ∧ Wk Try.prog 2 2 a h (st 26 [(4, .bool false)]) (H20_1 p0 p1) | .inr q0 => e = .exit 0 ∧ Wk Try.prog 2 2 a h (st 26 []) (H20_1 p0 p1))
theorem L20l0 (p0 : (List Int)) (p1 : (List Int)) (v10 : Int) (r : (Unit ⊕ Unit)) (hF : F20l0 p0 p1 v10 = some r) : TL Try.prog 2 2 c20.s2.s2.s1.s2.bd.bd (st 26 [(0, .slice (some ⟨0, 0, none⟩) (List.length p0) ANY), (1, .slice (some ⟨1, 0, none⟩) (List.length p1) ANY), (5, iv v10)]) (H20_1 p0 p1) (P20l0 p0 p1 r) := by
  refine F20l0.partial_correctness p0 p1 (motive := fun v10 r => TL Try.prog 2 2 c20.s2.s2.s1.s2.bd.bd (st 26 [(0, .slice (some ⟨0, 0, none⟩) (List.length p0) ANY), (1, .slice (some ⟨1, 0, none⟩) (List.length p1) ANY), (5, iv v10)]) (H20_1 p0 p1) (P20l0 p0 p1 r)) ?_ v10 r hF
  clear hF r v10
  intro again ih v10 r hF
  refine TL.round (TS.sq (TS.sq (TS.rg (TI.ra 4 [0, 1, 5, 14] (st 26 [(0, .slice (some ⟨0, 0, none⟩) (List.length p0) ANY), (1, .slice (some ⟨1, 0, none⟩) (List.length p1) ANY), (5, iv v10), (14, .bool (decide (v10 < (List.length p0 : Int))))]) (TI.dn (NX.sq ?_))))))
  refine TS.cd (.tmp 14) (decide (v10 < (List.length p0 : Int))) (fun hc19 => ?_) (fun hc19 => ?_)
  · replace hF := of_pos hF hc19
    refine TS.sk (NX.sq (TS.sq (TS.bk 1 (TS.sq ?_))))
    have hX := of_guard hF
    clear hF
    obtain ⟨hg20, hF⟩ := hX
    have hX := of_do hF
    clear hF
    obtain ⟨o21, h22, hF⟩ := hX
    replace h22 := Option.some.inj h22
    have hX := of_guard hF
    clear hF
    obtain ⟨hg23, hF⟩ := hX
    have hX := of_do hF
    clear hF
    obtain ⟨o24, h25, hF⟩ := hX
    replace h25 := Option.some.inj h25
    refine TS.dp [] (fun e he => by cases he) mixed 8 [0, 1, 5, 25] [0, 1] (st 26 [(0, .slice (some ⟨0, 0, none⟩) (List.length p0) ANY), (1, .slice (some ⟨1, 0, none⟩) (List.length p1) ANY), (5, iv v10), (25, .bool (o21 != o24))]) (H20_1 p0 p1) ?_ ?_
    · refine QJ.rn (qs (st 26 [(0, .slice (some ⟨0, 0, none⟩) (List.length p0) ANY), (1, .slice (some ⟨1, 0, none⟩) (List.length p1) ANY), (5, iv v10), (14, .bool (decide (v10 < (List.length p0 : Int)))), (17, .slice (some ⟨0, 0, none⟩) (List.length p0) ANY), (18, iv v10)]) (H20_1 p0 p1) [] []) 2 (QJ.o { val := .pointer (some ⟨0, 0 + (Int.toNat v10) * 1, none⟩) } (q_ixS 0 0 ((Int.toNat v10) * 1) (by kernel_rfl) hg20) ?_)
      refine QJ.o { val := iv o21 } (q_eqv (q_ld1 (P := Try.prog) (hp := (H20_1 p0 p1)) (t := 3) (b := 0) (off := 0 + (Int.toNat v10) * 1) (l := p0) (enc := e3) (s := 1) (T := 3) (i := Int.toNat v10) (k := 0) (by kernel_rfl) (accB_at (h := (H20_1 p0 p1)) (n := List.length p0) (i := Int.toNat v10) (by kernel_rfl) (by first | omega | (simp only [List.length_set, List.length_replicate, List.length_cons, List.length_nil, List.length_append]; omega))) (by kernel_rfl) (fun _ => rfl) (by omega) (by decide) (by first | omega | (simp only [List.length_set, List.length_replicate, List.length_cons, List.length_nil, List.length_append]; omega)) 0) (congrArg (fun (z : Int) => ({ val := iv z } : QRes)) h22)) (QJ.rn (qs (st 26 [(0, .slice (some ⟨0, 0, none⟩) (List.length p0) ANY), (1, .slice (some ⟨1, 0, none⟩) (List.length p1) ANY), (5, iv v10), (14, .bool (decide (v10 < (List.length p0 : Int)))), (17, .slice (some ⟨0, 0, none⟩) (List.length p0) ANY), (18, iv v10), (19, .pointer (some ⟨0, 0 + (Int.toNat v10) * 1, none⟩)), (20, iv o21), (21, .slice (some ⟨1, 0, none⟩) (List.length p1) ANY), (22, iv v10)]) (H20_1 p0 p1) [] []) 2 (QJ.o { val := .pointer (some ⟨1, 0 + (Int.toNat v10) * 1, none⟩) } (q_ixS 1 0 ((Int.toNat v10) * 1) (by kernel_rfl) hg23) ?_))
      exact QJ.o { val := iv o24 } (q_eqv (q_ld1 (P := Try.prog) (hp := (H20_1 p0 p1)) (t := 3) (b := 1) (off := 0 + (Int.toNat v10) * 1) (l := p1) (enc := e3) (s := 1) (T := 3) (i := Int.toNat v10) (k := 0) (by kernel_rfl) (accB_at (h := (H20_1 p0 p1)) (n := List.length p1) (i := Int.toNat v10) (by kernel_rfl) (by first | omega | (simp only [List.length_set, List.length_replicate, List.length_cons, List.length_nil, List.length_append]; omega))) (by kernel_rfl) (fun _ => rfl) (by omega) (by decide) (by first | omega | (simp only [List.length_set, List.length_replicate, List.length_cons, List.length_nil, List.length_append]; omega)) 0) (congrArg (fun (z : Int) => ({ val := iv z } : QRes)) h25)) (QJ.dn ⟨rfl, SJ.la⟩)
    refine TS.cd (.tmp 25) (o21 != o24) (fun hc26 => ?_) (fun hc26 => ?_)
    · replace hF := of_pos hF hc26
      refine TS.sq (TS.rg (TI.ra 1 [4] (st 26 [(4, .bool false)]) (TI.dn (NX.sq (TS.rt (NX.bkR (NX.sqR ?_)))))))
      have hF := Option.some.inj hF
      subst hF
      exact Rd.out (e := .ret) (by intro h; cases h) (And.intro rfl (Wk.anew (base := 2) (L := 2) (f := []) (by decide) (by decide) (Nat.le_of_ble_eq_true rfl) rfl (.cons (At.acc (by kernel_rfl) rfl (fun _ => rfl)) (.cons (At.acc (by kernel_rfl) rfl (fun _ => rfl)) (.nil _))) (LRn.stx [4] [.bool false] [.bool false] (.cons (.flat (by kernel_rfl)) .nil) (by kernel_rfl) (by kernel_rfl) rfl) rfl rfl))
    · replace hF := of_neg hF hc26
      refine TS.sk (NX.bk (NX.sq (TS.rg (TI.ra 3 [0, 1, 5] (st 26 [(0, .slice (some ⟨0, 0, none⟩) (List.length p0) ANY), (1, .slice (some ⟨1, 0, none⟩) (List.length p1) ANY), (5, iv (w64 (v10 + 1)))]) (TI.dn ?_)))))
      exact Rd.again (a2 := (st 26 [(0, .slice (some ⟨0, 0, none⟩) (List.length p0) ANY), (1, .slice (some ⟨1, 0, none⟩) (List.length p1) ANY), (5, iv (w64 (v10 + 1)))])) (h2 := (H20_1 p0 p1)) (Wk.anew (base := 2) (L := 2) (f := []) (by decide) (by decide) (Nat.le_of_ble_eq_true rfl) rfl (.cons (At.acc (by kernel_rfl) rfl (fun _ => rfl)) (.cons (At.acc (by kernel_rfl) rfl (fun _ => rfl)) (.nil _))) (LRn.stx [0, 1, 5] [.slice (some ⟨0, 0, none⟩) (List.length p0) ANY, .slice (some ⟨1, 0, none⟩) (List.length p1) ANY, iv (w64 (v10 + 1))] [.slice (some ⟨0, 0, none⟩) (List.length p0) ANY, .slice (some ⟨1, 0, none⟩) (List.length p1) ANY, iv (w64 (v10 + 1))] (.cons (Rn.slice0 _ _ _ _ (Nat.le_of_ble_eq_true rfl) rfl) (.cons (Rn.slice0 _ _ _ _ (Nat.le_of_ble_eq_true rfl) rfl) (.cons (.flat (by kernel_rfl)) .nil))) (by kernel_rfl) (by kernel_rfl) rfl) rfl rfl) (ih (w64 (v10 + 1)) _ hF)
  · replace hF := of_neg hF hc19
    refine TS.ex 0 (NX.sqX ?_)
    have hF := Option.some.inj hF
    subst hF
    exact Rd.out (e := .exit 0) (by intro h; cases h) (And.intro rfl (Wk.anew (base := 2) (L := 2) (f := []) (by decide) (by decide) (Nat.le_of_ble_eq_true rfl) rfl (.cons (At.acc (by kernel_rfl) rfl (fun _ => rfl)) (.cons (At.acc (by kernel_rfl) rfl (fun _ => rfl)) (.nil _))) (LRn.stx [] [] [] .nil (by kernel_rfl) (by kernel_rfl) rfl) rfl rfl))
theorem B20 (p0 : (List Int)) (p1 : (List Int)) (r : Bool) (hF : F20 p0 p1 = some r) : TS Try.prog 2 2 c20 (st 26 [(0, .slice (some ⟨0, 0, none⟩) (List.length p0) ANY), (1, .slice (some ⟨1, 0, none⟩) (List.length p1) ANY)]) (H20_1 p0 p1) (NX Try.prog 2 2 [] (FinP Try.prog Try.f20 2 (V20 2 r) (N20 2 r))) := by
  unfold F20 at hF
  refine TS.sq (TS.rg (TI.ra 1 [0, 1] (st 26 [(0, .slice (some ⟨0, 0, none⟩) (List.length p0) ANY), (1, .slice (some ⟨1, 0, none⟩) (List.length p1) ANY)]) (TI.dn (NX.sq (TS.sq (TS.sq (TS.rg (TI.ra 5 [0, 1, 10] (st 26 [(0, .slice (some ⟨0, 0, none⟩) (List.length p0) ANY), (1, .slice (some ⟨1, 0, none⟩) (List.length p1) ANY), (10, .bool ((List.length p0 : Int) != (List.length p1 : Int)))]) ?_))))))))
  refine TI.dn (NX.sq ?_)
  refine TS.cd (.tmp 10) ((List.length p0 : Int) != (List.length p1 : Int)) (fun hc1 => ?_) (fun hc1 => ?_)
  · replace hF := of_pos hF hc1
    refine TS.sq (TS.rg (TI.ra 1 [4] (st 26 [(4, .bool false)]) (TI.dn (NX.sq (TS.rt (NX.sqR ?_))))))
    have hF := Option.some.inj hF
    subst hF
    exact ⟨.inr rfl, rfl, .bool false, by kernel_rfl, WkV.flat0 (by kernel_rfl) (Nat.le_of_ble_eq_true rfl)⟩
  · replace hF := of_neg hF hc1
    refine TS.sk (NX.sq (TS.sq (TS.sq (TS.rg (TI.ra 1 [0, 1, 5] (S20_0 p0 p1) (TI.dn (NX.sq (TS.bk 0 ?_))))))))
    have hX := of_do hF
    clear hF
    obtain ⟨r27, h28, hF⟩ := hX
    refine TS.lp (TL.weak (a2 := (S20_0 p0 p1)) (h2 := (H20_1 p0 p1)) (Wk.anew (base := 2) (L := 2) (f := []) (by decide) (by decide) (Nat.le_of_ble_eq_true rfl) rfl (.cons (At.acc (by kernel_rfl) rfl (fun _ => rfl)) (.cons (At.acc (by kernel_rfl) rfl (fun _ => rfl)) (.nil _))) (LRn.stx [0, 1, 5] [.slice (some ⟨0, 0, none⟩) (List.length p0) ANY, .slice (some ⟨1, 0, none⟩) (List.length p1) ANY, iv 0] [.slice (some ⟨0, 0, none⟩) (List.length p0) ANY, .slice (some ⟨1, 0, none⟩) (List.length p1) ANY, iv 0] (.cons (Rn.slice0 _ _ _ _ (Nat.le_of_ble_eq_true rfl) rfl) (.cons (Rn.slice0 _ _ _ _ (Nat.le_of_ble_eq_true rfl) rfl) (.cons (.flat (by kernel_rfl)) .nil))) (by kernel_rfl) (by kernel_rfl) rfl) rfl rfl) (TL.post (L20l0 p0 p1 0 r27 h28) ?_))
    rintro e a1 h1 hp
    rcases r27 with o29 | o30
    · skip
      obtain ⟨rfl, hw⟩ := hp
      refine ⟨(st 26 [(4, .bool false)]), (H20_1 p0 p1), (NX.bkR (NX.sqR ?_)), hw⟩
      have hF := Option.some.inj hF
      subst hF
      exact ⟨.inr rfl, rfl, .bool false, by kernel_rfl, WkV.flat0 (by kernel_rfl) (Nat.le_of_ble_eq_true rfl)⟩
    · skip
      obtain ⟨rfl, hw⟩ := hp
      refine ⟨(st 26 []), (H20_1 p0 p1), (NX.bkX (NX.sq (TS.sq (TS.rg (TI.ra 1 [4] (st 26 [(4, .bool true)]) (TI.dn (NX.sq (TS.rt ?_)))))))), hw⟩
      have hF := Option.some.inj hF
      subst hF
      exact ⟨.inr rfl, rfl, .bool true, by kernel_rfl, WkV.flat0 (by kernel_rfl) (Nat.le_of_ble_eq_true rfl)⟩
theorem C20 (p0 : (List Int)) (p1 : (List Int)) (r : Bool) (hF : F20 p0 p1 = some r) : PureSim Try.prog 20 [.slice (some ⟨0, 0, none⟩) (List.length p0) ANY, .slice (some ⟨1, 0, none⟩) (List.length p1) ANY] (H20_1 p0 p1) (V20 2 r) (N20 2 r) :=
  PureSim.of_Fin Try.func20 (c := c20) (by kernel_rfl) (by kernel_rfl) 2 rfl [0, 1] [0, 1] (by kernel_rfl) (B20 p0 p1 r hF)

-- agonic/agoniclaw04.WaveFits
noncomputable def c3 : Code := Try.f3.code
def S3_0 (r6 : ((List Int) × (List Int) × Int)) (r8 : ((List Int) × (List Int) × Int)) (r10 : (Int × Int)) (r12 : (Int × Int)) (p0 : Int) (p1 : Int) (p2 : (List (Int × Int))) (r21 : Int) (r4 : (Int × Int × (List (Int × Int)))) (r23 : Int) (r26 : Int) : CAct := (st 83 [(1, pt 1 0), (3, pt 3 0), (4, accV 4 (List.length r6.1)), (5, accV 5 (List.length r6.2.1)), (6, iv r6.2.2), (7, .slice (some ⟨6, 0, none⟩) (List.length r8.1) ANY), (8, .slice (some ⟨7, 0, none⟩) (List.length r8.2.1) ANY), (9, iv r8.2.2), (10, iv r10.1), (11, iv r10.2), (12, iv r12.1), (13, iv r12.2), (43, accV 4 (List.length r6.1)), (44, .slice (some ⟨6, 0, none⟩) (List.length r8.1) ANY), (45, .bool true), (46, .bool true), (47, accV 5 (List.length r6.2.1)), (48, .slice (some ⟨7, 0, none⟩) (List.length r8.2.1) ANY), (49, .bool true), (50, .bool true), (51, .bool true), (52, iv r6.2.2), (53, iv r8.2.2), (54, .bool true), (55, .bool true), (56, .bool true), (57, iv r10.1), (58, iv r12.1), (59, .bool true), (60, .bool true), (61, .bool true), (62, iv r10.2), (63, iv r12.2), (64, .bool true), (65, .bool true), (66, .bool true), (67, ag [iv p0, iv p1, .slice (some ⟨0, 0, none⟩) (List.length p2) ANY]), (68, iv r21), (69, ag [iv r4.1, iv r4.2.1, accV 2 (List.length r4.2.2)]), (70, iv r23), (71, .bool true), (72, .bool true), (73, .bool true), (74, ag [iv p0, iv p1, .slice (some ⟨0, 0, none⟩) (List.length p2) ANY]), (75, iv r26), (76, ag [iv r4.1, iv r4.2.1, accV 2 (List.length r4.2.2)])])
def S3_1 (r6 : ((List Int) × (List Int) × Int)) (r8 : ((List Int) × (List Int) × Int)) (r10 : (Int × Int)) (r12 : (Int × Int)) (p0 : Int) (p1 : Int) (p2 : (List (Int × Int))) (r21 : Int) (r4 : (Int × Int × (List (Int × Int)))) (r23 : Int) : CAct := (st 83 [(1, pt 1 0), (3, pt 3 0), (4, accV 4 (List.length r6.1)), (5, accV 5 (List.length r6.2.1)), (6, iv r6.2.2), (7, .slice (some ⟨6, 0, none⟩) (List.length r8.1) ANY), (8, .slice (some ⟨7, 0, none⟩) (List.length r8.2.1) ANY), (9, iv r8.2.2), (10, iv r10.1), (11, iv r10.2), (12, iv r12.1), (13, iv r12.2), (43, accV 4 (List.length r6.1)), (44, .slice (some ⟨6, 0, none⟩) (List.length r8.1) ANY), (45, .bool true), (46, .bool true), (47, accV 5 (List.length r6.2.1)), (48, .slice (some ⟨7, 0, none⟩) (List.length r8.2.1) ANY), (49, .bool true), (50, .bool true), (51, .bool true), (52, iv r6.2.2), (53, iv r8.2.2), (54, .bool true), (55, .bool true), (56, .bool true), (57, iv r10.1), (58, iv r12.1), (59, .bool true), (60, .bool true), (61, .bool true), (62, iv r10.2), (63, iv r12.2), (64, .bool true), (65, .bool true), (66, .bool true), (67, ag [iv p0, iv p1, .slice (some ⟨0, 0, none⟩) (List.length p2) ANY]), (68, iv r21), (69, ag [iv r4.1, iv r4.2.1, accV 2 (List.length r4.2.2)]), (70, iv r23), (71, .bool true), (72, .bool true), (73, .bool true), (74, ag [iv p0, iv p1, .slice (some ⟨0, 0, none⟩) (List.length p2) ANY])])
def S3_2 (r6 : ((List Int) × (List Int) × Int)) (r8 : ((List Int) × (List Int) × Int)) (r10 : (Int × Int)) (r12 : (Int × Int)) (p0 : Int) (p1 : Int) (p2 : (List (Int × Int))) (r21 : Int) (r4 : (Int × Int × (List (Int × Int)))) : CAct := (st 83 [(1, pt 1 0), (3, pt 3 0), (4, accV 4 (List.length r6.1)), (5, accV 5 (List.length r6.2.1)), (6, iv r6.2.2), (7, .slice (some ⟨6, 0, none⟩) (List.length r8.1) ANY), (8, .slice (some ⟨7, 0, none⟩) (List.length r8.2.1) ANY), (9, iv r8.2.2), (10, iv r10.1), (11, iv r10.2), (12, iv r12.1), (13, iv r12.2), (43, accV 4 (List.length r6.1)), (44, .slice (some ⟨6, 0, none⟩) (List.length r8.1) ANY), (45, .bool true), (46, .bool true), (47, accV 5 (List.length r6.2.1)), (48, .slice (some ⟨7, 0, none⟩) (List.length r8.2.1) ANY), (49, .bool true), (50, .bool true), (51, .bool true), (52, iv r6.2.2), (53, iv r8.2.2), (54, .bool true), (55, .bool true), (56, .bool true), (57, iv r10.1), (58, iv r12.1), (59, .bool true), (60, .bool true), (61, .bool true), (62, iv r10.2), (63, iv r12.2), (64, .bool true), (65, .bool true), (66, .bool true), (67, ag [iv p0, iv p1, .slice (some ⟨0, 0, none⟩) (List.length p2) ANY]), (68, iv r21), (69, ag [iv r4.1, iv r4.2.1, accV 2 (List.length r4.2.2)])])
def S3_3 (r6 : ((List Int) × (List Int) × Int)) (r8 : ((List Int) × (List Int) × Int)) (r10 : (Int × Int)) (r12 : (Int × Int)) (p0 : Int) (p1 : Int) (p2 : (List (Int × Int))) : CAct := (st 83 [(1, pt 1 0), (3, pt 3 0), (4, accV 4 (List.length r6.1)), (5, accV 5 (List.length r6.2.1)), (6, iv r6.2.2), (7, .slice (some ⟨6, 0, none⟩) (List.length r8.1) ANY), (8, .slice (some ⟨7, 0, none⟩) (List.length r8.2.1) ANY), (9, iv r8.2.2), (10, iv r10.1), (11, iv r10.2), (12, iv r12.1), (13, iv r12.2), (43, accV 4 (List.length r6.1)), (44, .slice (some ⟨6, 0, none⟩) (List.length r8.1) ANY), (45, .bool true), (46, .bool true), (47, accV 5 (List.length r6.2.1)), (48, .slice (some ⟨7, 0, none⟩) (List.length r8.2.1) ANY), (49, .bool true), (50, .bool true), (51, .bool true), (52, iv r6.2.2), (53, iv r8.2.2), (54, .bool true), (55, .bool true), (56, .bool true), (57, iv r10.1), (58, iv r12.1), (59, .bool true), (60, .bool true), (61, .bool true), (62, iv r10.2), (63, iv r12.2), (64, .bool true), (65, .bool true), (66, .bool true), (67, ag [iv p0, iv p1, .slice (some ⟨0, 0, none⟩) (List.length p2) ANY])])
def S3_4 (r6 : ((List Int) × (List Int) × Int)) (r8 : ((List Int) × (List Int) × Int)) (r10 : (Int × Int)) (r12 : (Int × Int)) : CAct := (st 83 [(1, pt 1 0), (3, pt 3 0), (4, accV 4 (List.length r6.1)), (5, accV 5 (List.length r6.2.1)), (6, iv r6.2.2), (7, .slice (some ⟨6, 0, none⟩) (List.length r8.1) ANY), (8, .slice (some ⟨7, 0, none⟩) (List.length r8.2.1) ANY), (9, iv r8.2.2), (10, iv r10.1), (11, iv r10.2), (12, iv r12.1), (13, iv r12.2), (43, accV 4 (List.length r6.1)), (44, .slice (some ⟨6, 0, none⟩) (List.length r8.1) ANY), (45, .bool true), (46, .bool true), (47, accV 5 (List.length r6.2.1)), (48, .slice (some ⟨7, 0, none⟩) (List.length r8.2.1) ANY), (49, .bool true), (50, .bool true), (51, .bool true), (52, iv r6.2.2), (53, iv r8.2.2), (54, .bool true), (55, .bool true), (56, .bool true), (57, iv r10.1), (58, iv r12.1), (59, .bool true), (60, .bool true), (61, .bool true), (62, iv r10.2), (63, iv r12.2)])
def S3_5 (r6 : ((List Int) × (List Int) × Int)) (r8 : ((List Int) × (List Int) × Int)) (r10 : (Int × Int)) (r12 : (Int × Int)) : CAct := (st 83 [(1, pt 1 0), (3, pt 3 0), (4, accV 4 (List.length r6.1)), (5, accV 5 (List.length r6.2.1)), (6, iv r6.2.2), (7, .slice (some ⟨6, 0, none⟩) (List.length r8.1) ANY), (8, .slice (some ⟨7, 0, none⟩) (List.length r8.2.1) ANY), (9, iv r8.2.2), (10, iv r10.1), (11, iv r10.2), (12, iv r12.1), (13, iv r12.2), (43, accV 4 (List.length r6.1)), (44, .slice (some ⟨6, 0, none⟩) (List.length r8.1) ANY), (45, .bool true), (46, .bool true), (47, accV 5 (List.length r6.2.1)), (48, .slice (some ⟨7, 0, none⟩) (List.length r8.2.1) ANY), (49, .bool true), (50, .bool true), (51, .bool true), (52, iv r6.2.2), (53, iv r8.2.2), (54, .bool true), (55, .bool true), (56, .bool true), (57, iv r10.1), (58, iv r12.1)])
def S3_6 (r6 : ((List Int) × (List Int) × Int)) (r8 : ((List Int) × (List Int) × Int)) (r10 : (Int × Int)) (r12 : (Int × Int)) : CAct := (st 83 [(1, pt 1 0), (3, pt 3 0), (4, accV 4 (List.length r6.1)), (5, accV 5 (List.length r6.2.1)), (6, iv r6.2.2), (7, .slice (some ⟨6, 0, none⟩) (List.length r8.1) ANY), (8, .slice (some ⟨7, 0, none⟩) (List.length r8.2.1) ANY), (9, iv r8.2.2), (10, iv r10.1), (11, iv r10.2), (12, iv r12.1), (13, iv r12.2), (43, accV 4 (List.length r6.1)), (44, .slice (some ⟨6, 0, none⟩) (List.length r8.1) ANY), (45, .bool true), (46, .bool true), (47, accV 5 (List.length r6.2.1)), (48, .slice (some ⟨7, 0, none⟩) (List.length r8.2.1) ANY), (49, .bool true), (50, .bool true), (51, .bool true), (52, iv r6.2.2), (53, iv r8.2.2)])
def S3_7 (r6 : ((List Int) × (List Int) × Int)) (r8 : ((List Int) × (List Int) × Int)) (r10 : (Int × Int)) (r12 : (Int × Int)) : CAct := (st 83 [(1, pt 1 0), (3, pt 3 0), (4, accV 4 (List.length r6.1)), (5, accV 5 (List.length r6.2.1)), (6, iv r6.2.2), (7, .slice (some ⟨6, 0, none⟩) (List.length r8.1) ANY), (8, .slice (some ⟨7, 0, none⟩) (List.length r8.2.1) ANY), (9, iv r8.2.2), (10, iv r10.1), (11, iv r10.2), (12, iv r12.1), (13, iv r12.2), (43, accV 4 (List.length r6.1)), (44, .slice (some ⟨6, 0, none⟩) (List.length r8.1) ANY), (45, .bool true), (46, .bool true), (47, accV 5 (List.length r6.2.1)), (48, .slice (some ⟨7, 0, none⟩) (List.length r8.2.1) ANY)])
def H3_8 (p2 : (List (Int × Int))) (p0 : Int) (p1 : Int) (r4 : (Int × Int × (List (Int × Int)))) (r6 : ((List Int) × (List Int) × Int)) (r8 : ((List Int) × (List Int) × Int)) : List Blk := [accB 57 (List.length p2) (List.flatMap e57 p2), cl 24 [iv p0, iv p1, .slice (some ⟨0, 0, none⟩) (List.length p2) ANY], accB 72 (List.length r4.2.2) (List.flatMap e72 r4.2.2), cl 28 [iv r4.1, iv r4.2.1, accV 2 (List.length r4.2.2)], accB 3 (List.length r6.1) (List.flatMap e3 r6.1), accB 3 (List.length r6.2.1) (List.flatMap e3 r6.2.1), accB 3 (List.length r8.1) (List.flatMap e3 r8.1), accB 3 (List.length r8.2.1) (List.flatMap e3 r8.2.1)]
def S3_9 (r6 : ((List Int) × (List Int) × Int)) (r8 : ((List Int) × (List Int) × Int)) (r10 : (Int × Int)) (r12 : (Int × Int)) : CAct := (st 83 [(1, pt 1 0), (3, pt 3 0), (4, accV 4 (List.length r6.1)), (5, accV 5 (List.length r6.2.1)), (6, iv r6.2.2), (7, .slice (some ⟨6, 0, none⟩) (List.length r8.1) ANY), (8, .slice (some ⟨7, 0, none⟩) (List.length r8.2.1) ANY), (9, iv r8.2.2), (10, iv r10.1), (11, iv r10.2), (12, iv r12.1), (13, iv r12.2), (43, accV 4 (List.length r6.1)), (44, .slice (some ⟨6, 0, none⟩) (List.length r8.1) ANY)])
def H3_10 (r6 : ((List Int) × (List Int) × Int)) (r8 : ((List Int) × (List Int) × Int)) : List Blk := [accB 3 (List.length r6.2.1) (List.flatMap e3 r6.2.1), accB 3 (List.length r8.2.1) (List.flatMap e3 r8.2.1)]
def H3_11 (r6 : ((List Int) × (List Int) × Int)) (r8 : ((List Int) × (List Int) × Int)) : List Blk := [accB 3 (List.length r6.1) (List.flatMap e3 r6.1), accB 3 (List.length r8.1) (List.flatMap e3 r8.1)]
def H3_12 (p2 : (List (Int × Int))) : List Blk := [accB 57 (List.length p2) (List.flatMap e57 p2), .dead, .dead, .dead, .dead, .dead, .dead, .dead]
def F3 (p0 : Int) (p1 : Int) (p2 : (List (Int × Int))) : Option Bool :=
  if decide ((List.length p2 : Int) > 80) then
    F14 >>= fun r2 =>
    some r2
  else
    F15 p0 p1 p2 >>= fun r4 =>
    F16 p0 p1 p2 >>= fun r6 =>
    F17 r4.1 r4.2.1 r4.2.2 >>= fun r8 =>
    F18 p0 p1 p2 >>= fun r10 =>
    F19 r4.1 r4.2.1 r4.2.2 >>= fun r12 =>
    F20 r6.1 r8.1 >>= fun r14 =>
    (
      if r14 then
        F20 r6.2.1 r8.2.1 >>= fun r16 =>
        if r16 then
          if r6.2.2 == r8.2.2 then
            if r10.1 == r12.1 then
              if r10.2 == r12.2 then
                F21 p0 p1 p2 >>= fun r21 =>
                F22 r4.1 r4.2.1 r4.2.2 >>= fun r23 =>
                if r21 == r23 then
                  F23 p0 p1 p2 >>= fun r26 =>
                  F24 r4.1 r4.2.1 r4.2.2 >>= fun r28 =>
                  if r26 == r28 then
                    F14 >>= fun r31 =>
                    some (r31)
                  else
                    some (false)
                else
                  some (false)
              else
                some (false)
            else
              some (false)
          else
            some (false)
        else
          some (false)
      else
        some (false)
    : Option Bool) >>= fun m33 =>
    some m33
def V3 (b : Nat) (r : Bool) : Value := .bool r
def N3 (b : Nat) (r : Bool) : List Blk := []
theorem B3 (p0 : Int) (p1 : Int) (p2 : (List (Int × Int))) (r : Bool) (hF : F3 p0 p1 p2 = some r) : TS Try.prog 1 1 c3 (st 83 [(0, ag [iv p0, iv p1, .slice (some ⟨0, 0, none⟩) (List.length p2) ANY])]) [accB 57 (List.length p2) (List.flatMap e57 p2)] (NX Try.prog 1 1 [] (FinP Try.prog Try.f3 1 (V3 1 r) (N3 1 r))) := by
  unfold F3 at hF
  refine TS.sq (TS.rg (TI.rn 2 [1] [0, 1] (st 83 [(1, pt 1 0)]) [accB 57 (List.length p2) (List.flatMap e57 p2), cl 24 [iv p0, iv p1, .slice (some ⟨0, 0, none⟩) (List.length p2) ANY]] (TI.dn (NX.sq (TS.sq (TS.sq (TS.rg (TI.ra 4 [1, 17] (st 83 [(1, pt 1 0), (17, .bool (decide ((List.length p2 : Int) > 80)))]) ?_))))))))
  refine TI.dn (NX.sq ?_)
  refine TS.cd (.tmp 17) (decide ((List.length p2 : Int) > 80)) (fun hc1 => ?_) (fun hc1 => ?_)
  · replace hF := of_pos hF hc1
    refine TS.sq ?_
    have hX := of_do hF
    clear hF
    obtain ⟨r2, h3, hF⟩ := hX
    refine TS.rg (TI.cf (C14 _ h3) (TI.rn 1 [2] [0] (st 83 [(2, .bool r2)]) [accB 57 (List.length p2) (List.flatMap e57 p2), .dead] (TI.dn (NX.sq (TS.rt (NX.sqR ?_))))))
    have hF := Option.some.inj hF
    subst hF
    exact ⟨.inr rfl, rfl, .bool r2, by kernel_rfl, WkV.flat0 (by kernel_rfl) (Nat.le_of_ble_eq_true rfl)⟩
  · replace hF := of_neg hF hc1
    refine TS.sk (NX.sq (TS.sq ?_))
    have hX := of_do hF
    clear hF
    obtain ⟨r4, h5, hF⟩ := hX
    refine TS.rg (TI.ra 1 [1, 19] (st 83 [(1, pt 1 0), (19, ag [iv p0, iv p1, .slice (some ⟨0, 0, none⟩) (List.length p2) ANY])]) (TI.cp 15 [ag [iv p0, iv p1, .slice (some ⟨0, 0, none⟩) (List.length p2) ANY]] (ag [iv r4.1, iv r4.2.1, accV 2 (List.length r4.2.2)]) [accB 72 (List.length r4.2.2) (List.flatMap e72 r4.2.2)] (PureSim.ren (hc := [accB 57 (List.length p2) (List.flatMap e57 p2)]) (fun i => List.getD [(0, 0)] i (0, 0)) (C15 _ _ _ _ h5) (.cons (At.acc (by kernel_rfl) rfl (fun _ => rfl)) (.nil _)) (.cons (Rn.agg' (.cons (.flat (by kernel_rfl)) (.cons (.flat (by kernel_rfl)) (.cons (Rn.any _ _ _ _ _ _ (Nat.le_of_ble_eq_true rfl) rfl rfl (by decide)) .nil)))) .nil) (Rn.agg' (.cons (.flat (by kernel_rfl)) (.cons (.flat (by kernel_rfl)) (.cons (Rn.acc (i' := 2) (Nat.le_of_ble_eq_true rfl) rfl) .nil)))) (newflat_cons (accB_flat (fun _ => rfl)) newflat_nil)) (TI.rn 2 [1, 3] [0, 1, 2, 3] (st 83 [(1, pt 1 0), (3, pt 3 0)]) [accB 57 (List.length p2) (List.flatMap e57 p2), cl 24 [iv p0, iv p1, .slice (some ⟨0, 0, none⟩) (List.length p2) ANY], accB 72 (List.length r4.2.2) (List.flatMap e72 r4.2.2), cl 28 [iv r4.1, iv r4.2.1, accV 2 (List.length r4.2.2)]] (TI.dn (NX.sq (TS.sq ?_))))))
    have hX := of_do hF
    clear hF
    obtain ⟨r6, h7, hF⟩ := hX
    refine TS.rg (TI.ra 1 [1, 3, 22] (st 83 [(1, pt 1 0), (3, pt 3 0), (22, ag [iv p0, iv p1, .slice (some ⟨0, 0, none⟩) (List.length p2) ANY])]) (TI.cp 16 [ag [iv p0, iv p1, .slice (some ⟨0, 0, none⟩) (List.length p2) ANY]] (.tuple ⟨[accV 4 (List.length r6.1), accV 5 (List.length r6.2.1), iv r6.2.2]⟩) [accB 3 (List.length r6.1) (List.flatMap e3 r6.1), accB 3 (List.length r6.2.1) (List.flatMap e3 r6.2.1)] (PureSim.ren (hc := [accB 57 (List.length p2) (List.flatMap e57 p2)]) (fun i => List.getD [(0, 0)] i (0, 0)) (C16 _ _ _ _ h7) (.cons (At.acc (by kernel_rfl) rfl (fun _ => rfl)) (.nil _)) (.cons (Rn.agg' (.cons (.flat (by kernel_rfl)) (.cons (.flat (by kernel_rfl)) (.cons (Rn.any _ _ _ _ _ _ (Nat.le_of_ble_eq_true rfl) rfl rfl (by decide)) .nil)))) .nil) (Rn.tuple' (.cons (Rn.acc (i' := 4) (Nat.le_of_ble_eq_true rfl) rfl) (.cons (Rn.acc (i' := 5) (Nat.le_of_ble_eq_true rfl) rfl) (.cons (.flat (by kernel_rfl)) .nil)))) (newflat_cons (accB_flat (fun _ => rfl)) (newflat_cons (accB_flat (fun _ => rfl)) newflat_nil))) (TI.rn 7 [1, 3, 4, 5, 6] [0, 1, 2, 3, 4, 5] (st 83 [(1, pt 1 0), (3, pt 3 0), (4, accV 4 (List.length r6.1)), (5, accV 5 (List.length r6.2.1)), (6, iv r6.2.2)]) [accB 57 (List.length p2) (List.flatMap e57 p2), cl 24 [iv p0, iv p1, .slice (some ⟨0, 0, none⟩) (List.length p2) ANY], accB 72 (List.length r4.2.2) (List.flatMap e72 r4.2.2), cl 28 [iv r4.1, iv r4.2.1, accV 2 (List.length r4.2.2)], accB 3 (List.length r6.1) (List.flatMap e3 r6.1), accB 3 (List.length r6.2.1) (List.flatMap e3 r6.2.1)] (TI.dn (NX.sq (TS.sq ?_))))))
    have hX := of_do hF
    clear hF
    obtain ⟨r8, h9, hF⟩ := hX
    refine TS.rg (TI.ra 1 [1, 3, 4, 5, 6, 28] (st 83 [(1, pt 1 0), (3, pt 3 0), (4, accV 4 (List.length r6.1)), (5, accV 5 (List.length r6.2.1)), (6, iv r6.2.2), (28, ag [iv r4.1, iv r4.2.1, accV 2 (List.length r4.2.2)])]) (TI.cp 17 [ag [iv r4.1, iv r4.2.1, accV 2 (List.length r4.2.2)]] (.tuple ⟨[.slice (some ⟨6, 0, none⟩) (List.length r8.1) ANY, .slice (some ⟨7, 0, none⟩) (List.length r8.2.1) ANY, iv r8.2.2]⟩) [accB 3 (List.length r8.1) (List.flatMap e3 r8.1), accB 3 (List.length r8.2.1) (List.flatMap e3 r8.2.1)] (PureSim.ren (hc := [accB 72 (List.length r4.2.2) (List.flatMap e72 r4.2.2)]) (fun i => List.getD [(2, 0)] i (0, 0)) (C17 _ _ _ _ h9) (.cons (At.acc (by kernel_rfl) rfl (fun _ => rfl)) (.nil _)) (.cons (Rn.agg' (.cons (.flat (by kernel_rfl)) (.cons (.flat (by kernel_rfl)) (.cons (Rn.accA (i' := 2) (Nat.le_of_ble_eq_true rfl) rfl) .nil)))) .nil) (Rn.tuple' (.cons (Rn.anyS (i' := 6) (Nat.le_of_ble_eq_true rfl) rfl rfl) (.cons (Rn.anyS (i' := 7) (Nat.le_of_ble_eq_true rfl) rfl rfl) (.cons (.flat (by kernel_rfl)) .nil)))) (newflat_cons (accB_flat (fun _ => rfl)) (newflat_cons (accB_flat (fun _ => rfl)) newflat_nil))) (TI.rn 7 [1, 3, 4, 5, 6, 7, 8, 9] [0, 1, 2, 3, 4, 5, 6, 7] (st 83 [(1, pt 1 0), (3, pt 3 0), (4, accV 4 (List.length r6.1)), (5, accV 5 (List.length r6.2.1)), (6, iv r6.2.2), (7, .slice (some ⟨6, 0, none⟩) (List.length r8.1) ANY), (8, .slice (some ⟨7, 0, none⟩) (List.length r8.2.1) ANY), (9, iv r8.2.2)]) (H3_8 p2 p0 p1 r4 r6 r8) (TI.dn (NX.sq (TS.sq ?_))))))
    have hX := of_do hF
    clear hF
    obtain ⟨r10, h11, hF⟩ := hX
    refine TS.rg (TI.ra 1 [1, 3, 4, 5, 6, 7, 8, 9, 34] (st 83 [(1, pt 1 0), (3, pt 3 0), (4, accV 4 (List.length r6.1)), (5, accV 5 (List.length r6.2.1)), (6, iv r6.2.2), (7, .slice (some ⟨6, 0, none⟩) (List.length r8.1) ANY), (8, .slice (some ⟨7, 0, none⟩) (List.length r8.2.1) ANY), (9, iv r8.2.2), (34, ag [iv p0, iv p1, .slice (some ⟨0, 0, none⟩) (List.length p2) ANY])]) (TI.cp 18 [ag [iv p0, iv p1, .slice (some ⟨0, 0, none⟩) (List.length p2) ANY]] (.tuple ⟨[iv r10.1, iv r10.2]⟩) [] (PureSim.ren (hc := [accB 57 (List.length p2) (List.flatMap e57 p2)]) (fun i => List.getD [(0, 0)] i (0, 0)) (C18 _ _ _ _ h11) (.cons (At.acc (by kernel_rfl) rfl (fun _ => rfl)) (.nil _)) (.cons (Rn.agg' (.cons (.flat (by kernel_rfl)) (.cons (.flat (by kernel_rfl)) (.cons (Rn.any _ _ _ _ _ _ (Nat.le_of_ble_eq_true rfl) rfl rfl (by decide)) .nil)))) .nil) (.flat (by kernel_rfl)) newflat_nil) (TI.ra 5 [1, 3, 4, 5, 6, 7, 8, 9, 10, 11] (st 83 [(1, pt 1 0), (3, pt 3 0), (4, accV 4 (List.length r6.1)), (5, accV 5 (List.length r6.2.1)), (6, iv r6.2.2), (7, .slice (some ⟨6, 0, none⟩) (List.length r8.1) ANY), (8, .slice (some ⟨7, 0, none⟩) (List.length r8.2.1) ANY), (9, iv r8.2.2), (10, iv r10.1), (11, iv r10.2)]) (TI.dn (NX.sq (TS.sq ?_))))))
    have hX := of_do hF
    clear hF
    obtain ⟨r12, h13, hF⟩ := hX
    refine TS.rg (TI.ra 1 [1, 3, 4, 5, 6, 7, 8, 9, 10, 11, 39] (st 83 [(1, pt 1 0), (3, pt 3 0), (4, accV 4 (List.length r6.1)), (5, accV 5 (List.length r6.2.1)), (6, iv r6.2.2), (7, .slice (some ⟨6, 0, none⟩) (List.length r8.1) ANY), (8, .slice (some ⟨7, 0, none⟩) (List.length r8.2.1) ANY), (9, iv r8.2.2), (10, iv r10.1), (11, iv r10.2), (39, ag [iv r4.1, iv r4.2.1, accV 2 (List.length r4.2.2)])]) (TI.cp 19 [ag [iv r4.1, iv r4.2.1, accV 2 (List.length r4.2.2)]] (.tuple ⟨[iv r12.1, iv r12.2]⟩) [] (PureSim.ren (hc := [accB 72 (List.length r4.2.2) (List.flatMap e72 r4.2.2)]) (fun i => List.getD [(2, 0)] i (0, 0)) (C19 _ _ _ _ h13) (.cons (At.acc (by kernel_rfl) rfl (fun _ => rfl)) (.nil _)) (.cons (Rn.agg' (.cons (.flat (by kernel_rfl)) (.cons (.flat (by kernel_rfl)) (.cons (Rn.accA (i' := 2) (Nat.le_of_ble_eq_true rfl) rfl) .nil)))) .nil) (.flat (by kernel_rfl)) newflat_nil) (TI.ra 5 [1, 3, 4, 5, 6, 7, 8, 9, 10, 11, 12, 13] (st 83 [(1, pt 1 0), (3, pt 3 0), (4, accV 4 (List.length r6.1)), (5, accV 5 (List.length r6.2.1)), (6, iv r6.2.2), (7, .slice (some ⟨6, 0, none⟩) (List.length r8.1) ANY), (8, .slice (some ⟨7, 0, none⟩) (List.length r8.2.1) ANY), (9, iv r8.2.2), (10, iv r10.1), (11, iv r10.2), (12, iv r12.1), (13, iv r12.2)]) (TI.dn (NX.sq (TS.sq ?_))))))
    have hX := of_do hF
    clear hF
    obtain ⟨r14, h15, hF⟩ := hX
    have hX := of_do hF
    clear hF
    obtain ⟨m33, hm34, hF⟩ := hX
    have hK : NX Try.prog 1 1 [.sq c3.s2.s2.s2.s2.s2.s2.s2.s2] (FinP Try.prog Try.f3 1 (V3 1 r) (N3 1 r)) .normal (st 83 [(2, .bool m33)]) (H3_12 p2) := by
      refine NX.sq (TS.rt ?_)
      have hF := Option.some.inj hF
      subst hF
      exact ⟨.inr rfl, rfl, .bool m33, by kernel_rfl, WkV.flat0 (by kernel_rfl) (Nat.le_of_ble_eq_true rfl)⟩
    cases r14 with
    | true =>
      replace hm34 := of_pos hm34 rfl
      have hX := of_do hm34
      clear hm34
      obtain ⟨r16, h17, hm34⟩ := hX
      cases r16 with
      | true =>
        replace hm34 := of_pos hm34 rfl
        rcases Bool.eq_false_or_eq_true (r6.2.2 == r8.2.2) with hc18 | hc18
        · replace hm34 := of_pos hm34 hc18
          rcases Bool.eq_false_or_eq_true (r10.1 == r12.1) with hc19 | hc19
          · replace hm34 := of_pos hm34 hc19
            rcases Bool.eq_false_or_eq_true (r10.2 == r12.2) with hc20 | hc20
            · replace hm34 := of_pos hm34 hc20
              have hX := of_do hm34
              clear hm34
              obtain ⟨r21, h22, hm34⟩ := hX
              have hX := of_do hm34
              clear hm34
              obtain ⟨r23, h24, hm34⟩ := hX
              rcases Bool.eq_false_or_eq_true (r21 == r23) with hc25 | hc25
              · replace hm34 := of_pos hm34 hc25
                have hX := of_do hm34
                clear hm34
                obtain ⟨r26, h27, hm34⟩ := hX
                have hX := of_do hm34
                clear hm34
                obtain ⟨r28, h29, hm34⟩ := hX
                rcases Bool.eq_false_or_eq_true (r26 == r28) with hc30 | hc30
                · replace hm34 := of_pos hm34 hc30
                  have hX := of_do hm34
                  clear hm34
                  obtain ⟨r31, h32, hm34⟩ := hX
                  have hm34 := Option.some.inj hm34
                  subst hm34
                  have hT : ∀ e ∈ ([⟨20, [accV 4 (List.length r6.1), .slice (some ⟨6, 0, none⟩) (List.length r8.1) ANY], (H3_8 p2 p0 p1 r4 r6 r8), .bool true, []⟩, ⟨20, [accV 5 (List.length r6.2.1), .slice (some ⟨7, 0, none⟩) (List.length r8.2.1) ANY], (H3_8 p2 p0 p1 r4 r6 r8), .bool true, []⟩, ⟨21, [ag [iv p0, iv p1, .slice (some ⟨0, 0, none⟩) (List.length p2) ANY]], (H3_8 p2 p0 p1 r4 r6 r8), iv r21, []⟩, ⟨22, [ag [iv r4.1, iv r4.2.1, accV 2 (List.length r4.2.2)]], (H3_8 p2 p0 p1 r4 r6 r8), iv r23, []⟩, ⟨23, [ag [iv p0, iv p1, .slice (some ⟨0, 0, none⟩) (List.length p2) ANY]], (H3_8 p2 p0 p1 r4 r6 r8), iv r26, []⟩, ⟨24, [ag [iv r4.1, iv r4.2.1, accV 2 (List.length r4.2.2)]], (H3_8 p2 p0 p1 r4 r6 r8), iv r28, []⟩, ⟨14, [], (H3_8 p2 p0 p1 r4 r6 r8), .bool r31, []⟩] : List Entry), PureSim Try.prog e.g e.args e.h e.v e.new := by
                    intro e he
                    simp only [List.mem_cons, List.not_mem_nil, or_false] at he
                    rcases he with rfl | rfl | rfl | rfl | rfl | rfl | rfl
                    · exact (PureSim.ren (hc := (H3_11 r6 r8)) (fun i => List.getD [(4, 0), (6, 0)] i (0, 0)) (C20 _ _ _ h15) (.cons (At.acc (by kernel_rfl) rfl (fun _ => rfl)) (.cons (At.acc (by kernel_rfl) rfl (fun _ => rfl)) (.nil _))) (.cons (Rn.accA (i' := 4) (Nat.le_of_ble_eq_true rfl) rfl) (.cons (Rn.any _ _ _ _ _ _ (Nat.le_of_ble_eq_true rfl) rfl rfl (by decide)) .nil)) (.flat (by kernel_rfl)) newflat_nil)
                    · exact (PureSim.ren (hc := (H3_10 r6 r8)) (fun i => List.getD [(5, 0), (7, 0)] i (0, 0)) (C20 _ _ _ h17) (.cons (At.acc (by kernel_rfl) rfl (fun _ => rfl)) (.cons (At.acc (by kernel_rfl) rfl (fun _ => rfl)) (.nil _))) (.cons (Rn.accA (i' := 5) (Nat.le_of_ble_eq_true rfl) rfl) (.cons (Rn.any _ _ _ _ _ _ (Nat.le_of_ble_eq_true rfl) rfl rfl (by decide)) .nil)) (.flat (by kernel_rfl)) newflat_nil)
                    · exact (PureSim.ren (hc := [accB 57 (List.length p2) (List.flatMap e57 p2)]) (fun i => List.getD [(0, 0)] i (0, 0)) (C21 _ _ _ _ h22) (.cons (At.acc (by kernel_rfl) rfl (fun _ => rfl)) (.nil _)) (.cons (Rn.agg' (.cons (.flat (by kernel_rfl)) (.cons (.flat (by kernel_rfl)) (.cons (Rn.any _ _ _ _ _ _ (Nat.le_of_ble_eq_true rfl) rfl rfl (by decide)) .nil)))) .nil) (.flat (by kernel_rfl)) newflat_nil)
                    · exact (PureSim.ren (hc := [accB 72 (List.length r4.2.2) (List.flatMap e72 r4.2.2)]) (fun i => List.getD [(2, 0)] i (0, 0)) (C22 _ _ _ _ h24) (.cons (At.acc (by kernel_rfl) rfl (fun _ => rfl)) (.nil _)) (.cons (Rn.agg' (.cons (.flat (by kernel_rfl)) (.cons (.flat (by kernel_rfl)) (.cons (Rn.accA (i' := 2) (Nat.le_of_ble_eq_true rfl) rfl) .nil)))) .nil) (.flat (by kernel_rfl)) newflat_nil)
                    · exact (PureSim.ren (hc := [accB 57 (List.length p2) (List.flatMap e57 p2)]) (fun i => List.getD [(0, 0)] i (0, 0)) (C23 _ _ _ _ h27) (.cons (At.acc (by kernel_rfl) rfl (fun _ => rfl)) (.nil _)) (.cons (Rn.agg' (.cons (.flat (by kernel_rfl)) (.cons (.flat (by kernel_rfl)) (.cons (Rn.any _ _ _ _ _ _ (Nat.le_of_ble_eq_true rfl) rfl rfl (by decide)) .nil)))) .nil) (.flat (by kernel_rfl)) newflat_nil)
                    · exact (PureSim.ren (hc := [accB 72 (List.length r4.2.2) (List.flatMap e72 r4.2.2)]) (fun i => List.getD [(2, 0)] i (0, 0)) (C24 _ _ _ _ h29) (.cons (At.acc (by kernel_rfl) rfl (fun _ => rfl)) (.nil _)) (.cons (Rn.agg' (.cons (.flat (by kernel_rfl)) (.cons (.flat (by kernel_rfl)) (.cons (Rn.accA (i' := 2) (Nat.le_of_ble_eq_true rfl) rfl) .nil)))) .nil) (.flat (by kernel_rfl)) newflat_nil)
                    · exact PureSim.ak (C14 _ h32)
                  refine TS.dp [⟨20, [accV 4 (List.length r6.1), .slice (some ⟨6, 0, none⟩) (List.length r8.1) ANY], (H3_8 p2 p0 p1 r4 r6 r8), .bool true, []⟩, ⟨20, [accV 5 (List.length r6.2.1), .slice (some ⟨7, 0, none⟩) (List.length r8.2.1) ANY], (H3_8 p2 p0 p1 r4 r6 r8), .bool true, []⟩, ⟨21, [ag [iv p0, iv p1, .slice (some ⟨0, 0, none⟩) (List.length p2) ANY]], (H3_8 p2 p0 p1 r4 r6 r8), iv r21, []⟩, ⟨22, [ag [iv r4.1, iv r4.2.1, accV 2 (List.length r4.2.2)]], (H3_8 p2 p0 p1 r4 r6 r8), iv r23, []⟩, ⟨23, [ag [iv p0, iv p1, .slice (some ⟨0, 0, none⟩) (List.length p2) ANY]], (H3_8 p2 p0 p1 r4 r6 r8), iv r26, []⟩, ⟨24, [ag [iv r4.1, iv r4.2.1, accV 2 (List.length r4.2.2)]], (H3_8 p2 p0 p1 r4 r6 r8), iv r28, []⟩, ⟨14, [], (H3_8 p2 p0 p1 r4 r6 r8), .bool r31, []⟩] hT mixed 34 [2] [0] (st 83 [(2, .bool r31)]) (H3_12 p2) ?_ ?_
                  · refine QJ.rn (qs (S3_9 r6 r8 r10 r12) (H3_8 p2 p0 p1 r4 r6 r8) [] []) 2 (QJ.o { val := .bool true, new := [] } (qOf_call (g := 20) (args := [accV 4 (List.length r6.1), .slice (some ⟨6, 0, none⟩) (List.length r8.1) ANY]) (by kernel_rfl) lookC_hit) (QJ.rn (qs (S3_7 r6 r8 r10 r12) (H3_8 p2 p0 p1 r4 r6 r8) [] []) 3 ?_))
                    refine QJ.o { val := .bool true, new := [] } (qOf_call (g := 20) (args := [accV 5 (List.length r6.2.1), .slice (some ⟨7, 0, none⟩) (List.length r8.2.1) ANY]) (by kernel_rfl) (lookC_skip (by intro _ ha _; have hq := h15; have hi := h17; clear hF; first | (exfalso; simp at ha; done) | ((try simp at ha); have hr := Option.some.inj (hq.symm.trans (Eq.trans (by first | rfl | (congr 1 <;> first | rfl | omega | simp_all)) hi)); subst hr; rfl)) lookC_hit)) (QJ.rn (qs (S3_6 r6 r8 r10 r12) (H3_8 p2 p0 p1 r4 r6 r8) [] []) 4 (QJ.o { val := .bool true } (q_conv (e := r6.2.2 == r8.2.2) (b := true) (by kernel_rfl) hc18) (QJ.rn (qs (S3_5 r6 r8 r10 r12) (H3_8 p2 p0 p1 r4 r6 r8) [] []) 4 (QJ.o { val := .bool true } (q_conv (e := r10.1 == r12.1) (b := true) (by kernel_rfl) hc19) (QJ.rn (qs (S3_4 r6 r8 r10 r12) (H3_8 p2 p0 p1 r4 r6 r8) [] []) 4 (QJ.o { val := .bool true } (q_conv (e := r10.2 == r12.2) (b := true) (by kernel_rfl) hc20) (QJ.rn (qs (S3_3 r6 r8 r10 r12 p0 p1 p2) (H3_8 p2 p0 p1 r4 r6 r8) [] []) 3 (QJ.o { val := iv r21, new := [] } (qOf_call (g := 21) (args := [ag [iv p0, iv p1, .slice (some ⟨0, 0, none⟩) (List.length p2) ANY]]) (by kernel_rfl) (lookC_skip (fun hg => absurd (show (20 : Nat) = 21 from hg) (by decide)) (lookC_skip (fun hg => absurd (show (20 : Nat) = 21 from hg) (by decide)) lookC_hit))) ?_))))))))
                    refine QJ.rn (qs (S3_2 r6 r8 r10 r12 p0 p1 p2 r21 r4) (H3_8 p2 p0 p1 r4 r6 r8) [] []) 1 (QJ.o { val := iv r23, new := [] } (qOf_call (g := 22) (args := [ag [iv r4.1, iv r4.2.1, accV 2 (List.length r4.2.2)]]) (by kernel_rfl) (lookC_skip (fun hg => absurd (show (20 : Nat) = 22 from hg) (by decide)) (lookC_skip (fun hg => absurd (show (20 : Nat) = 22 from hg) (by decide)) (lookC_skip (fun hg => absurd (show (21 : Nat) = 22 from hg) (by decide)) lookC_hit)))) (QJ.o { val := .bool true } (q_conv (e := r21 == r23) (b := true) (by kernel_rfl) hc25) (QJ.rn (qs (S3_1 r6 r8 r10 r12 p0 p1 p2 r21 r4 r23) (H3_8 p2 p0 p1 r4 r6 r8) [] []) 3 (QJ.o { val := iv r26, new := [] } (qOf_call (g := 23) (args := [ag [iv p0, iv p1, .slice (some ⟨0, 0, none⟩) (List.length p2) ANY]]) (by kernel_rfl) (lookC_skip (fun hg => absurd (show (20 : Nat) = 23 from hg) (by decide)) (lookC_skip (fun hg => absurd (show (20 : Nat) = 23 from hg) (by decide)) (lookC_skip (fun hg => absurd (show (21 : Nat) = 23 from hg) (by decide)) (lookC_skip (fun hg => absurd (show (22 : Nat) = 23 from hg) (by decide)) lookC_hit))))) (QJ.rn (qs (S3_0 r6 r8 r10 r12 p0 p1 p2 r21 r4 r23 r26) (H3_8 p2 p0 p1 r4 r6 r8) [] []) 1 (QJ.dn ⟨rfl, (SJ.o { val := iv r28, new := [] } (qOf_call (g := 24) (args := [ag [iv r4.1, iv r4.2.1, accV 2 (List.length r4.2.2)]]) (by kernel_rfl) (lookC_skip (fun hg => absurd (show (20 : Nat) = 24 from hg) (by decide)) (lookC_skip (fun hg => absurd (show (20 : Nat) = 24 from hg) (by decide)) (lookC_skip (fun hg => absurd (show (21 : Nat) = 24 from hg) (by decide)) (lookC_skip (fun hg => absurd (show (22 : Nat) = 24 from hg) (by decide)) (lookC_skip (fun hg => absurd (show (23 : Nat) = 24 from hg) (by decide)) lookC_hit)))))) (SJ.o { val := .bool true } (q_conv (e := r26 == r28) (b := true) (by kernel_rfl) hc30) ?_))⟩))))))
                    exact SJ.rn (st 83 [(1, pt 1 0), (3, pt 3 0), (4, accV 4 (List.length r6.1)), (5, accV 5 (List.length r6.2.1)), (6, iv r6.2.2), (7, .slice (some ⟨6, 0, none⟩) (List.length r8.1) ANY), (8, .slice (some ⟨7, 0, none⟩) (List.length r8.2.1) ANY), (9, iv r8.2.2), (10, iv r10.1), (11, iv r10.2), (12, iv r12.1), (13, iv r12.2), (43, accV 4 (List.length r6.1)), (44, .slice (some ⟨6, 0, none⟩) (List.length r8.1) ANY), (45, .bool true), (46, .bool true), (47, accV 5 (List.length r6.2.1)), (48, .slice (some ⟨7, 0, none⟩) (List.length r8.2.1) ANY), (49, .bool true), (50, .bool true), (51, .bool true), (52, iv r6.2.2), (53, iv r8.2.2), (54, .bool true), (55, .bool true), (56, .bool true), (57, iv r10.1), (58, iv r12.1), (59, .bool true), (60, .bool true), (61, .bool true), (62, iv r10.2), (63, iv r12.2), (64, .bool true), (65, .bool true), (66, .bool true), (67, ag [iv p0, iv p1, .slice (some ⟨0, 0, none⟩) (List.length p2) ANY]), (68, iv r21), (69, ag [iv r4.1, iv r4.2.1, accV 2 (List.length r4.2.2)]), (70, iv r23), (71, .bool true), (72, .bool true), (73, .bool true), (74, ag [iv p0, iv p1, .slice (some ⟨0, 0, none⟩) (List.length p2) ANY]), (75, iv r26), (76, ag [iv r4.1, iv r4.2.1, accV 2 (List.length r4.2.2)]), (77, iv r28), (78, .bool true), (79, .bool true), (80, .bool true)]) (H3_8 p2 p0 p1 r4 r6 r8) 2 (SJ.o { val := .bool r31, new := [] } (qOf_call (g := 14) (args := []) (by kernel_rfl) (lookC_skip (fun hg => absurd (show (20 : Nat) = 14 from hg) (by decide)) (lookC_skip (fun hg => absurd (show (20 : Nat) = 14 from hg) (by decide)) (lookC_skip (fun hg => absurd (show (21 : Nat) = 14 from hg) (by decide)) (lookC_skip (fun hg => absurd (show (22 : Nat) = 14 from hg) (by decide)) (lookC_skip (fun hg => absurd (show (23 : Nat) = 14 from hg) (by decide)) (lookC_skip (fun hg => absurd (show (24 : Nat) = 14 from hg) (by decide)) lookC_hit))))))) SJ.la)
                  exact hK
                · replace hm34 := of_neg hm34 hc30
                  have hm34 := Option.some.inj hm34
                  subst hm34
                  have hT : ∀ e ∈ ([⟨20, [accV 4 (List.length r6.1), .slice (some ⟨6, 0, none⟩) (List.length r8.1) ANY], (H3_8 p2 p0 p1 r4 r6 r8), .bool true, []⟩, ⟨20, [accV 5 (List.length r6.2.1), .slice (some ⟨7, 0, none⟩) (List.length r8.2.1) ANY], (H3_8 p2 p0 p1 r4 r6 r8), .bool true, []⟩, ⟨21, [ag [iv p0, iv p1, .slice (some ⟨0, 0, none⟩) (List.length p2) ANY]], (H3_8 p2 p0 p1 r4 r6 r8), iv r21, []⟩, ⟨22, [ag [iv r4.1, iv r4.2.1, accV 2 (List.length r4.2.2)]], (H3_8 p2 p0 p1 r4 r6 r8), iv r23, []⟩, ⟨23, [ag [iv p0, iv p1, .slice (some ⟨0, 0, none⟩) (List.length p2) ANY]], (H3_8 p2 p0 p1 r4 r6 r8), iv r26, []⟩, ⟨24, [ag [iv r4.1, iv r4.2.1, accV 2 (List.length r4.2.2)]], (H3_8 p2 p0 p1 r4 r6 r8), iv r28, []⟩] : List Entry), PureSim Try.prog e.g e.args e.h e.v e.new := by
                    intro e he
                    simp only [List.mem_cons, List.not_mem_nil, or_false] at he
                    rcases he with rfl | rfl | rfl | rfl | rfl | rfl
                    · exact (PureSim.ren (hc := (H3_11 r6 r8)) (fun i => List.getD [(4, 0), (6, 0)] i (0, 0)) (C20 _ _ _ h15) (.cons (At.acc (by kernel_rfl) rfl (fun _ => rfl)) (.cons (At.acc (by kernel_rfl) rfl (fun _ => rfl)) (.nil _))) (.cons (Rn.accA (i' := 4) (Nat.le_of_ble_eq_true rfl) rfl) (.cons (Rn.any _ _ _ _ _ _ (Nat.le_of_ble_eq_true rfl) rfl rfl (by decide)) .nil)) (.flat (by kernel_rfl)) newflat_nil)
                    · exact (PureSim.ren (hc := (H3_10 r6 r8)) (fun i => List.getD [(5, 0), (7, 0)] i (0, 0)) (C20 _ _ _ h17) (.cons (At.acc (by kernel_rfl) rfl (fun _ => rfl)) (.cons (At.acc (by kernel_rfl) rfl (fun _ => rfl)) (.nil _))) (.cons (Rn.accA (i' := 5) (Nat.le_of_ble_eq_true rfl) rfl) (.cons (Rn.any _ _ _ _ _ _ (Nat.le_of_ble_eq_true rfl) rfl rfl (by decide)) .nil)) (.flat (by kernel_rfl)) newflat_nil)
                    · exact (PureSim.ren (hc := [accB 57 (List.length p2) (List.flatMap e57 p2)]) (fun i => List.getD [(0, 0)] i (0, 0)) (C21 _ _ _ _ h22) (.cons (At.acc (by kernel_rfl) rfl (fun _ => rfl)) (.nil _)) (.cons (Rn.agg' (.cons (.flat (by kernel_rfl)) (.cons (.flat (by kernel_rfl)) (.cons (Rn.any _ _ _ _ _ _ (Nat.le_of_ble_eq_true rfl) rfl rfl (by decide)) .nil)))) .nil) (.flat (by kernel_rfl)) newflat_nil)
                    · exact (PureSim.ren (hc := [accB 72 (List.length r4.2.2) (List.flatMap e72 r4.2.2)]) (fun i => List.getD [(2, 0)] i (0, 0)) (C22 _ _ _ _ h24) (.cons (At.acc (by kernel_rfl) rfl (fun _ => rfl)) (.nil _)) (.cons (Rn.agg' (.cons (.flat (by kernel_rfl)) (.cons (.flat (by kernel_rfl)) (.cons (Rn.accA (i' := 2) (Nat.le_of_ble_eq_true rfl) rfl) .nil)))) .nil) (.flat (by kernel_rfl)) newflat_nil)
                    · exact (PureSim.ren (hc := [accB 57 (List.length p2) (List.flatMap e57 p2)]) (fun i => List.getD [(0, 0)] i (0, 0)) (C23 _ _ _ _ h27) (.cons (At.acc (by kernel_rfl) rfl (fun _ => rfl)) (.nil _)) (.cons (Rn.agg' (.cons (.flat (by kernel_rfl)) (.cons (.flat (by kernel_rfl)) (.cons (Rn.any _ _ _ _ _ _ (Nat.le_of_ble_eq_true rfl) rfl rfl (by decide)) .nil)))) .nil) (.flat (by kernel_rfl)) newflat_nil)
                    · exact (PureSim.ren (hc := [accB 72 (List.length r4.2.2) (List.flatMap e72 r4.2.2)]) (fun i => List.getD [(2, 0)] i (0, 0)) (C24 _ _ _ _ h29) (.cons (At.acc (by kernel_rfl) rfl (fun _ => rfl)) (.nil _)) (.cons (Rn.agg' (.cons (.flat (by kernel_rfl)) (.cons (.flat (by kernel_rfl)) (.cons (Rn.accA (i' := 2) (Nat.le_of_ble_eq_true rfl) rfl) .nil)))) .nil) (.flat (by kernel_rfl)) newflat_nil)
                  refine TS.dp [⟨20, [accV 4 (List.length r6.1), .slice (some ⟨6, 0, none⟩) (List.length r8.1) ANY], (H3_8 p2 p0 p1 r4 r6 r8), .bool true, []⟩, ⟨20, [accV 5 (List.length r6.2.1), .slice (some ⟨7, 0, none⟩) (List.length r8.2.1) ANY], (H3_8 p2 p0 p1 r4 r6 r8), .bool true, []⟩, ⟨21, [ag [iv p0, iv p1, .slice (some ⟨0, 0, none⟩) (List.length p2) ANY]], (H3_8 p2 p0 p1 r4 r6 r8), iv r21, []⟩, ⟨22, [ag [iv r4.1, iv r4.2.1, accV 2 (List.length r4.2.2)]], (H3_8 p2 p0 p1 r4 r6 r8), iv r23, []⟩, ⟨23, [ag [iv p0, iv p1, .slice (some ⟨0, 0, none⟩) (List.length p2) ANY]], (H3_8 p2 p0 p1 r4 r6 r8), iv r26, []⟩, ⟨24, [ag [iv r4.1, iv r4.2.1, accV 2 (List.length r4.2.2)]], (H3_8 p2 p0 p1 r4 r6 r8), iv r28, []⟩] hT mixed 34 [2] [0] (st 83 [(2, .bool false)]) (H3_12 p2) ?_ ?_
                  · refine QJ.rn (qs (S3_9 r6 r8 r10 r12) (H3_8 p2 p0 p1 r4 r6 r8) [] []) 2 (QJ.o { val := .bool true, new := [] } (qOf_call (g := 20) (args := [accV 4 (List.length r6.1), .slice (some ⟨6, 0, none⟩) (List.length r8.1) ANY]) (by kernel_rfl) lookC_hit) (QJ.rn (qs (S3_7 r6 r8 r10 r12) (H3_8 p2 p0 p1 r4 r6 r8) [] []) 3 ?_))
                    refine QJ.o { val := .bool true, new := [] } (qOf_call (g := 20) (args := [accV 5 (List.length r6.2.1), .slice (some ⟨7, 0, none⟩) (List.length r8.2.1) ANY]) (by kernel_rfl) (lookC_skip (by intro _ ha _; have hq := h15; have hi := h17; clear hF; first | (exfalso; simp at ha; done) | ((try simp at ha); have hr := Option.some.inj (hq.symm.trans (Eq.trans (by first | rfl | (congr 1 <;> first | rfl | omega | simp_all)) hi)); subst hr; rfl)) lookC_hit)) (QJ.rn (qs (S3_6 r6 r8 r10 r12) (H3_8 p2 p0 p1 r4 r6 r8) [] []) 4 (QJ.o { val := .bool true } (q_conv (e := r6.2.2 == r8.2.2) (b := true) (by kernel_rfl) hc18) (QJ.rn (qs (S3_5 r6 r8 r10 r12) (H3_8 p2 p0 p1 r4 r6 r8) [] []) 4 (QJ.o { val := .bool true } (q_conv (e := r10.1 == r12.1) (b := true) (by kernel_rfl) hc19) (QJ.rn (qs (S3_4 r6 r8 r10 r12) (H3_8 p2 p0 p1 r4 r6 r8) [] []) 4 (QJ.o { val := .bool true } (q_conv (e := r10.2 == r12.2) (b := true) (by kernel_rfl) hc20) (QJ.rn (qs (S3_3 r6 r8 r10 r12 p0 p1 p2) (H3_8 p2 p0 p1 r4 r6 r8) [] []) 3 (QJ.o { val := iv r21, new := [] } (qOf_call (g := 21) (args := [ag [iv p0, iv p1, .slice (some ⟨0, 0, none⟩) (List.length p2) ANY]]) (by kernel_rfl) (lookC_skip (fun hg => absurd (show (20 : Nat) = 21 from hg) (by decide)) (lookC_skip (fun hg => absurd (show (20 : Nat) = 21 from hg) (by decide)) lookC_hit))) ?_))))))))
                    refine QJ.rn (qs (S3_2 r6 r8 r10 r12 p0 p1 p2 r21 r4) (H3_8 p2 p0 p1 r4 r6 r8) [] []) 1 (QJ.o { val := iv r23, new := [] } (qOf_call (g := 22) (args := [ag [iv r4.1, iv r4.2.1, accV 2 (List.length r4.2.2)]]) (by kernel_rfl) (lookC_skip (fun hg => absurd (show (20 : Nat) = 22 from hg) (by decide)) (lookC_skip (fun hg => absurd (show (20 : Nat) = 22 from hg) (by decide)) (lookC_skip (fun hg => absurd (show (21 : Nat) = 22 from hg) (by decide)) lookC_hit)))) (QJ.o { val := .bool true } (q_conv (e := r21 == r23) (b := true) (by kernel_rfl) hc25) (QJ.rn (qs (S3_1 r6 r8 r10 r12 p0 p1 p2 r21 r4 r23) (H3_8 p2 p0 p1 r4 r6 r8) [] []) 3 (QJ.o { val := iv r26, new := [] } (qOf_call (g := 23) (args := [ag [iv p0, iv p1, .slice (some ⟨0, 0, none⟩) (List.length p2) ANY]]) (by kernel_rfl) (lookC_skip (fun hg => absurd (show (20 : Nat) = 23 from hg) (by decide)) (lookC_skip (fun hg => absurd (show (20 : Nat) = 23 from hg) (by decide)) (lookC_skip (fun hg => absurd (show (21 : Nat) = 23 from hg) (by decide)) (lookC_skip (fun hg => absurd (show (22 : Nat) = 23 from hg) (by decide)) lookC_hit))))) (QJ.rn (qs (S3_0 r6 r8 r10 r12 p0 p1 p2 r21 r4 r23 r26) (H3_8 p2 p0 p1 r4 r6 r8) [] []) 1 (QJ.dn ⟨rfl, (SJ.o { val := iv r28, new := [] } (qOf_call (g := 24) (args := [ag [iv r4.1, iv r4.2.1, accV 2 (List.length r4.2.2)]]) (by kernel_rfl) (lookC_skip (fun hg => absurd (show (20 : Nat) = 24 from hg) (by decide)) (lookC_skip (fun hg => absurd (show (20 : Nat) = 24 from hg) (by decide)) (lookC_skip (fun hg => absurd (show (21 : Nat) = 24 from hg) (by decide)) (lookC_skip (fun hg => absurd (show (22 : Nat) = 24 from hg) (by decide)) (lookC_skip (fun hg => absurd (show (23 : Nat) = 24 from hg) (by decide)) lookC_hit)))))) (SJ.o { val := .bool false } (q_conv (e := r26 == r28) (b := false) (by kernel_rfl) hc30) ?_))⟩))))))
                    exact SJ.la
                  exact hK
              · replace hm34 := of_neg hm34 hc25
                have hm34 := Option.some.inj hm34
                subst hm34
                have hT : ∀ e ∈ ([⟨20, [accV 4 (List.length r6.1), .slice (some ⟨6, 0, none⟩) (List.length r8.1) ANY], (H3_8 p2 p0 p1 r4 r6 r8), .bool true, []⟩, ⟨20, [accV 5 (List.length r6.2.1), .slice (some ⟨7, 0, none⟩) (List.length r8.2.1) ANY], (H3_8 p2 p0 p1 r4 r6 r8), .bool true, []⟩, ⟨21, [ag [iv p0, iv p1, .slice (some ⟨0, 0, none⟩) (List.length p2) ANY]], (H3_8 p2 p0 p1 r4 r6 r8), iv r21, []⟩, ⟨22, [ag [iv r4.1, iv r4.2.1, accV 2 (List.length r4.2.2)]], (H3_8 p2 p0 p1 r4 r6 r8), iv r23, []⟩] : List Entry), PureSim Try.prog e.g e.args e.h e.v e.new := by
                  intro e he
                  simp only [List.mem_cons, List.not_mem_nil, or_false] at he
                  rcases he with rfl | rfl | rfl | rfl
                  · exact (PureSim.ren (hc := (H3_11 r6 r8)) (fun i => List.getD [(4, 0), (6, 0)] i (0, 0)) (C20 _ _ _ h15) (.cons (At.acc (by kernel_rfl) rfl (fun _ => rfl)) (.cons (At.acc (by kernel_rfl) rfl (fun _ => rfl)) (.nil _))) (.cons (Rn.accA (i' := 4) (Nat.le_of_ble_eq_true rfl) rfl) (.cons (Rn.any _ _ _ _ _ _ (Nat.le_of_ble_eq_true rfl) rfl rfl (by decide)) .nil)) (.flat (by kernel_rfl)) newflat_nil)
                  · exact (PureSim.ren (hc := (H3_10 r6 r8)) (fun i => List.getD [(5, 0), (7, 0)] i (0, 0)) (C20 _ _ _ h17) (.cons (At.acc (by kernel_rfl) rfl (fun _ => rfl)) (.cons (At.acc (by kernel_rfl) rfl (fun _ => rfl)) (.nil _))) (.cons (Rn.accA (i' := 5) (Nat.le_of_ble_eq_true rfl) rfl) (.cons (Rn.any _ _ _ _ _ _ (Nat.le_of_ble_eq_true rfl) rfl rfl (by decide)) .nil)) (.flat (by kernel_rfl)) newflat_nil)
                  · exact (PureSim.ren (hc := [accB 57 (List.length p2) (List.flatMap e57 p2)]) (fun i => List.getD [(0, 0)] i (0, 0)) (C21 _ _ _ _ h22) (.cons (At.acc (by kernel_rfl) rfl (fun _ => rfl)) (.nil _)) (.cons (Rn.agg' (.cons (.flat (by kernel_rfl)) (.cons (.flat (by kernel_rfl)) (.cons (Rn.any _ _ _ _ _ _ (Nat.le_of_ble_eq_true rfl) rfl rfl (by decide)) .nil)))) .nil) (.flat (by kernel_rfl)) newflat_nil)
                  · exact (PureSim.ren (hc := [accB 72 (List.length r4.2.2) (List.flatMap e72 r4.2.2)]) (fun i => List.getD [(2, 0)] i (0, 0)) (C22 _ _ _ _ h24) (.cons (At.acc (by kernel_rfl) rfl (fun _ => rfl)) (.nil _)) (.cons (Rn.agg' (.cons (.flat (by kernel_rfl)) (.cons (.flat (by kernel_rfl)) (.cons (Rn.accA (i' := 2) (Nat.le_of_ble_eq_true rfl) rfl) .nil)))) .nil) (.flat (by kernel_rfl)) newflat_nil)
                refine TS.dp [⟨20, [accV 4 (List.length r6.1), .slice (some ⟨6, 0, none⟩) (List.length r8.1) ANY], (H3_8 p2 p0 p1 r4 r6 r8), .bool true, []⟩, ⟨20, [accV 5 (List.length r6.2.1), .slice (some ⟨7, 0, none⟩) (List.length r8.2.1) ANY], (H3_8 p2 p0 p1 r4 r6 r8), .bool true, []⟩, ⟨21, [ag [iv p0, iv p1, .slice (some ⟨0, 0, none⟩) (List.length p2) ANY]], (H3_8 p2 p0 p1 r4 r6 r8), iv r21, []⟩, ⟨22, [ag [iv r4.1, iv r4.2.1, accV 2 (List.length r4.2.2)]], (H3_8 p2 p0 p1 r4 r6 r8), iv r23, []⟩] hT mixed 34 [2] [0] (st 83 [(2, .bool false)]) (H3_12 p2) ?_ ?_
                · refine QJ.rn (qs (S3_9 r6 r8 r10 r12) (H3_8 p2 p0 p1 r4 r6 r8) [] []) 2 (QJ.o { val := .bool true, new := [] } (qOf_call (g := 20) (args := [accV 4 (List.length r6.1), .slice (some ⟨6, 0, none⟩) (List.length r8.1) ANY]) (by kernel_rfl) lookC_hit) (QJ.rn (qs (S3_7 r6 r8 r10 r12) (H3_8 p2 p0 p1 r4 r6 r8) [] []) 3 ?_))
                  refine QJ.o { val := .bool true, new := [] } (qOf_call (g := 20) (args := [accV 5 (List.length r6.2.1), .slice (some ⟨7, 0, none⟩) (List.length r8.2.1) ANY]) (by kernel_rfl) (lookC_skip (by intro _ ha _; have hq := h15; have hi := h17; clear hF; first | (exfalso; simp at ha; done) | ((try simp at ha); have hr := Option.some.inj (hq.symm.trans (Eq.trans (by first | rfl | (congr 1 <;> first | rfl | omega | simp_all)) hi)); subst hr; rfl)) lookC_hit)) (QJ.rn (qs (S3_6 r6 r8 r10 r12) (H3_8 p2 p0 p1 r4 r6 r8) [] []) 4 (QJ.o { val := .bool true } (q_conv (e := r6.2.2 == r8.2.2) (b := true) (by kernel_rfl) hc18) (QJ.rn (qs (S3_5 r6 r8 r10 r12) (H3_8 p2 p0 p1 r4 r6 r8) [] []) 4 (QJ.o { val := .bool true } (q_conv (e := r10.1 == r12.1) (b := true) (by kernel_rfl) hc19) (QJ.rn (qs (S3_4 r6 r8 r10 r12) (H3_8 p2 p0 p1 r4 r6 r8) [] []) 4 (QJ.o { val := .bool true } (q_conv (e := r10.2 == r12.2) (b := true) (by kernel_rfl) hc20) (QJ.rn (qs (S3_3 r6 r8 r10 r12 p0 p1 p2) (H3_8 p2 p0 p1 r4 r6 r8) [] []) 3 (QJ.o { val := iv r21, new := [] } (qOf_call (g := 21) (args := [ag [iv p0, iv p1, .slice (some ⟨0, 0, none⟩) (List.length p2) ANY]]) (by kernel_rfl) (lookC_skip (fun hg => absurd (show (20 : Nat) = 21 from hg) (by decide)) (lookC_skip (fun hg => absurd (show (20 : Nat) = 21 from hg) (by decide)) lookC_hit))) ?_))))))))
                  exact QJ.rn (qs (S3_2 r6 r8 r10 r12 p0 p1 p2 r21 r4) (H3_8 p2 p0 p1 r4 r6 r8) [] []) 1 (QJ.o { val := iv r23, new := [] } (qOf_call (g := 22) (args := [ag [iv r4.1, iv r4.2.1, accV 2 (List.length r4.2.2)]]) (by kernel_rfl) (lookC_skip (fun hg => absurd (show (20 : Nat) = 22 from hg) (by decide)) (lookC_skip (fun hg => absurd (show (20 : Nat) = 22 from hg) (by decide)) (lookC_skip (fun hg => absurd (show (21 : Nat) = 22 from hg) (by decide)) lookC_hit)))) (QJ.o { val := .bool false } (q_conv (e := r21 == r23) (b := false) (by kernel_rfl) hc25) (QJ.rn (qs (st 83 [(1, pt 1 0), (3, pt 3 0), (4, accV 4 (List.length r6.1)), (5, accV 5 (List.length r6.2.1)), (6, iv r6.2.2), (7, .slice (some ⟨6, 0, none⟩) (List.length r8.1) ANY), (8, .slice (some ⟨7, 0, none⟩) (List.length r8.2.1) ANY), (9, iv r8.2.2), (10, iv r10.1), (11, iv r10.2), (12, iv r12.1), (13, iv r12.2), (43, accV 4 (List.length r6.1)), (44, .slice (some ⟨6, 0, none⟩) (List.length r8.1) ANY), (45, .bool true), (46, .bool true), (47, accV 5 (List.length r6.2.1)), (48, .slice (some ⟨7, 0, none⟩) (List.length r8.2.1) ANY), (49, .bool true), (50, .bool true), (51, .bool true), (52, iv r6.2.2), (53, iv r8.2.2), (54, .bool true), (55, .bool true), (56, .bool true), (57, iv r10.1), (58, iv r12.1), (59, .bool true), (60, .bool true), (61, .bool true), (62, iv r10.2), (63, iv r12.2), (64, .bool true), (65, .bool true), (66, .bool true), (67, ag [iv p0, iv p1, .slice (some ⟨0, 0, none⟩) (List.length p2) ANY]), (68, iv r21), (69, ag [iv r4.1, iv r4.2.1, accV 2 (List.length r4.2.2)]), (70, iv r23), (71, .bool false), (72, .bool false), (73, .bool false), (74, undef), (75, undef), (76, undef)]) (H3_8 p2 p0 p1 r4 r6 r8) [] []) 5 (QJ.dn ⟨rfl, SJ.la⟩))))
                exact hK
            · replace hm34 := of_neg hm34 hc20
              have hm34 := Option.some.inj hm34
              subst hm34
              have hT : ∀ e ∈ ([⟨20, [accV 4 (List.length r6.1), .slice (some ⟨6, 0, none⟩) (List.length r8.1) ANY], (H3_8 p2 p0 p1 r4 r6 r8), .bool true, []⟩, ⟨20, [accV 5 (List.length r6.2.1), .slice (some ⟨7, 0, none⟩) (List.length r8.2.1) ANY], (H3_8 p2 p0 p1 r4 r6 r8), .bool true, []⟩] : List Entry), PureSim Try.prog e.g e.args e.h e.v e.new := by
                intro e he
                simp only [List.mem_cons, List.not_mem_nil, or_false] at he
                rcases he with rfl | rfl
                · exact (PureSim.ren (hc := (H3_11 r6 r8)) (fun i => List.getD [(4, 0), (6, 0)] i (0, 0)) (C20 _ _ _ h15) (.cons (At.acc (by kernel_rfl) rfl (fun _ => rfl)) (.cons (At.acc (by kernel_rfl) rfl (fun _ => rfl)) (.nil _))) (.cons (Rn.accA (i' := 4) (Nat.le_of_ble_eq_true rfl) rfl) (.cons (Rn.any _ _ _ _ _ _ (Nat.le_of_ble_eq_true rfl) rfl rfl (by decide)) .nil)) (.flat (by kernel_rfl)) newflat_nil)
                · exact (PureSim.ren (hc := (H3_10 r6 r8)) (fun i => List.getD [(5, 0), (7, 0)] i (0, 0)) (C20 _ _ _ h17) (.cons (At.acc (by kernel_rfl) rfl (fun _ => rfl)) (.cons (At.acc (by kernel_rfl) rfl (fun _ => rfl)) (.nil _))) (.cons (Rn.accA (i' := 5) (Nat.le_of_ble_eq_true rfl) rfl) (.cons (Rn.any _ _ _ _ _ _ (Nat.le_of_ble_eq_true rfl) rfl rfl (by decide)) .nil)) (.flat (by kernel_rfl)) newflat_nil)
              refine TS.dp [⟨20, [accV 4 (List.length r6.1), .slice (some ⟨6, 0, none⟩) (List.length r8.1) ANY], (H3_8 p2 p0 p1 r4 r6 r8), .bool true, []⟩, ⟨20, [accV 5 (List.length r6.2.1), .slice (some ⟨7, 0, none⟩) (List.length r8.2.1) ANY], (H3_8 p2 p0 p1 r4 r6 r8), .bool true, []⟩] hT mixed 34 [2] [0] (st 83 [(2, .bool false)]) (H3_12 p2) ?_ ?_
              · refine QJ.rn (qs (S3_9 r6 r8 r10 r12) (H3_8 p2 p0 p1 r4 r6 r8) [] []) 2 (QJ.o { val := .bool true, new := [] } (qOf_call (g := 20) (args := [accV 4 (List.length r6.1), .slice (some ⟨6, 0, none⟩) (List.length r8.1) ANY]) (by kernel_rfl) lookC_hit) (QJ.rn (qs (S3_7 r6 r8 r10 r12) (H3_8 p2 p0 p1 r4 r6 r8) [] []) 3 ?_))
                refine QJ.o { val := .bool true, new := [] } (qOf_call (g := 20) (args := [accV 5 (List.length r6.2.1), .slice (some ⟨7, 0, none⟩) (List.length r8.2.1) ANY]) (by kernel_rfl) (lookC_skip (by intro _ ha _; have hq := h15; have hi := h17; clear hF; first | (exfalso; simp at ha; done) | ((try simp at ha); have hr := Option.some.inj (hq.symm.trans (Eq.trans (by first | rfl | (congr 1 <;> first | rfl | omega | simp_all)) hi)); subst hr; rfl)) lookC_hit)) (QJ.rn (qs (S3_6 r6 r8 r10 r12) (H3_8 p2 p0 p1 r4 r6 r8) [] []) 4 (QJ.o { val := .bool true } (q_conv (e := r6.2.2 == r8.2.2) (b := true) (by kernel_rfl) hc18) (QJ.rn (qs (S3_5 r6 r8 r10 r12) (H3_8 p2 p0 p1 r4 r6 r8) [] []) 4 (QJ.o { val := .bool true } (q_conv (e := r10.1 == r12.1) (b := true) (by kernel_rfl) hc19) (QJ.rn (qs (S3_4 r6 r8 r10 r12) (H3_8 p2 p0 p1 r4 r6 r8) [] []) 4 (QJ.o { val := .bool false } (q_conv (e := r10.2 == r12.2) (b := false) (by kernel_rfl) hc20) (QJ.rn (qs (st 83 [(1, pt 1 0), (3, pt 3 0), (4, accV 4 (List.length r6.1)), (5, accV 5 (List.length r6.2.1)), (6, iv r6.2.2), (7, .slice (some ⟨6, 0, none⟩) (List.length r8.1) ANY), (8, .slice (some ⟨7, 0, none⟩) (List.length r8.2.1) ANY), (9, iv r8.2.2), (10, iv r10.1), (11, iv r10.2), (12, iv r12.1), (13, iv r12.2), (43, accV 4 (List.length r6.1)), (44, .slice (some ⟨6, 0, none⟩) (List.length r8.1) ANY), (45, .bool true), (46, .bool true), (47, accV 5 (List.length r6.2.1)), (48, .slice (some ⟨7, 0, none⟩) (List.length r8.2.1) ANY), (49, .bool true), (50, .bool true), (51, .bool true), (52, iv r6.2.2), (53, iv r8.2.2), (54, .bool true), (55, .bool true), (56, .bool true), (57, iv r10.1), (58, iv r12.1), (59, .bool true), (60, .bool true), (61, .bool true), (62, iv r10.2), (63, iv r12.2), (64, .bool false), (65, .bool false), (66, .bool false), (67, undef), (68, undef), (69, undef), (70, undef), (71, undef), (72, .bool false), (73, .bool false), (74, undef), (75, undef), (76, undef)]) (H3_8 p2 p0 p1 r4 r6 r8) [] []) 12 (QJ.dn ⟨rfl, ?_⟩))))))))
                exact SJ.la
              exact hK
          · replace hm34 := of_neg hm34 hc19
            have hm34 := Option.some.inj hm34
            subst hm34
            have hT : ∀ e ∈ ([⟨20, [accV 4 (List.length r6.1), .slice (some ⟨6, 0, none⟩) (List.length r8.1) ANY], (H3_8 p2 p0 p1 r4 r6 r8), .bool true, []⟩, ⟨20, [accV 5 (List.length r6.2.1), .slice (some ⟨7, 0, none⟩) (List.length r8.2.1) ANY], (H3_8 p2 p0 p1 r4 r6 r8), .bool true, []⟩] : List Entry), PureSim Try.prog e.g e.args e.h e.v e.new := by
              intro e he
              simp only [List.mem_cons, List.not_mem_nil, or_false] at he
              rcases he with rfl | rfl
              · exact (PureSim.ren (hc := (H3_11 r6 r8)) (fun i => List.getD [(4, 0), (6, 0)] i (0, 0)) (C20 _ _ _ h15) (.cons (At.acc (by kernel_rfl) rfl (fun _ => rfl)) (.cons (At.acc (by kernel_rfl) rfl (fun _ => rfl)) (.nil _))) (.cons (Rn.accA (i' := 4) (Nat.le_of_ble_eq_true rfl) rfl) (.cons (Rn.any _ _ _ _ _ _ (Nat.le_of_ble_eq_true rfl) rfl rfl (by decide)) .nil)) (.flat (by kernel_rfl)) newflat_nil)
              · exact (PureSim.ren (hc := (H3_10 r6 r8)) (fun i => List.getD [(5, 0), (7, 0)] i (0, 0)) (C20 _ _ _ h17) (.cons (At.acc (by kernel_rfl) rfl (fun _ => rfl)) (.cons (At.acc (by kernel_rfl) rfl (fun _ => rfl)) (.nil _))) (.cons (Rn.accA (i' := 5) (Nat.le_of_ble_eq_true rfl) rfl) (.cons (Rn.any _ _ _ _ _ _ (Nat.le_of_ble_eq_true rfl) rfl rfl (by decide)) .nil)) (.flat (by kernel_rfl)) newflat_nil)
            refine TS.dp [⟨20, [accV 4 (List.length r6.1), .slice (some ⟨6, 0, none⟩) (List.length r8.1) ANY], (H3_8 p2 p0 p1 r4 r6 r8), .bool true, []⟩, ⟨20, [accV 5 (List.length r6.2.1), .slice (some ⟨7, 0, none⟩) (List.length r8.2.1) ANY], (H3_8 p2 p0 p1 r4 r6 r8), .bool true, []⟩] hT mixed 34 [2] [0] (st 83 [(2, .bool false)]) (H3_12 p2) ?_ ?_
            · refine QJ.rn (qs (S3_9 r6 r8 r10 r12) (H3_8 p2 p0 p1 r4 r6 r8) [] []) 2 (QJ.o { val := .bool true, new := [] } (qOf_call (g := 20) (args := [accV 4 (List.length r6.1), .slice (some ⟨6, 0, none⟩) (List.length r8.1) ANY]) (by kernel_rfl) lookC_hit) (QJ.rn (qs (S3_7 r6 r8 r10 r12) (H3_8 p2 p0 p1 r4 r6 r8) [] []) 3 ?_))
              exact QJ.o { val := .bool true, new := [] } (qOf_call (g := 20) (args := [accV 5 (List.length r6.2.1), .slice (some ⟨7, 0, none⟩) (List.length r8.2.1) ANY]) (by kernel_rfl) (lookC_skip (by intro _ ha _; have hq := h15; have hi := h17; clear hF; first | (exfalso; simp at ha; done) | ((try simp at ha); have hr := Option.some.inj (hq.symm.trans (Eq.trans (by first | rfl | (congr 1 <;> first | rfl | omega | simp_all)) hi)); subst hr; rfl)) lookC_hit)) (QJ.rn (qs (S3_6 r6 r8 r10 r12) (H3_8 p2 p0 p1 r4 r6 r8) [] []) 4 (QJ.o { val := .bool true } (q_conv (e := r6.2.2 == r8.2.2) (b := true) (by kernel_rfl) hc18) (QJ.rn (qs (S3_5 r6 r8 r10 r12) (H3_8 p2 p0 p1 r4 r6 r8) [] []) 4 (QJ.o { val := .bool false } (q_conv (e := r10.1 == r12.1) (b := false) (by kernel_rfl) hc19) (QJ.rn (qs (st 83 [(1, pt 1 0), (3, pt 3 0), (4, accV 4 (List.length r6.1)), (5, accV 5 (List.length r6.2.1)), (6, iv r6.2.2), (7, .slice (some ⟨6, 0, none⟩) (List.length r8.1) ANY), (8, .slice (some ⟨7, 0, none⟩) (List.length r8.2.1) ANY), (9, iv r8.2.2), (10, iv r10.1), (11, iv r10.2), (12, iv r12.1), (13, iv r12.2), (43, accV 4 (List.length r6.1)), (44, .slice (some ⟨6, 0, none⟩) (List.length r8.1) ANY), (45, .bool true), (46, .bool true), (47, accV 5 (List.length r6.2.1)), (48, .slice (some ⟨7, 0, none⟩) (List.length r8.2.1) ANY), (49, .bool true), (50, .bool true), (51, .bool true), (52, iv r6.2.2), (53, iv r8.2.2), (54, .bool true), (55, .bool true), (56, .bool true), (57, iv r10.1), (58, iv r12.1), (59, .bool false), (60, .bool false), (61, .bool false), (62, undef), (63, undef), (64, undef), (65, .bool false), (66, .bool false), (67, undef), (68, undef), (69, undef), (70, undef), (71, undef), (72, .bool false), (73, .bool false), (74, undef), (75, undef), (76, undef)]) (H3_8 p2 p0 p1 r4 r6 r8) [] []) 17 (QJ.dn ⟨rfl, SJ.la⟩))))))
            exact hK
        · replace hm34 := of_neg hm34 hc18
          have hm34 := Option.some.inj hm34
          subst hm34
          have hT : ∀ e ∈ ([⟨20, [accV 4 (List.length r6.1), .slice (some ⟨6, 0, none⟩) (List.length r8.1) ANY], (H3_8 p2 p0 p1 r4 r6 r8), .bool true, []⟩, ⟨20, [accV 5 (List.length r6.2.1), .slice (some ⟨7, 0, none⟩) (List.length r8.2.1) ANY], (H3_8 p2 p0 p1 r4 r6 r8), .bool true, []⟩] : List Entry), PureSim Try.prog e.g e.args e.h e.v e.new := by
            intro e he
            simp only [List.mem_cons, List.not_mem_nil, or_false] at he
            rcases he with rfl | rfl
            · exact (PureSim.ren (hc := (H3_11 r6 r8)) (fun i => List.getD [(4, 0), (6, 0)] i (0, 0)) (C20 _ _ _ h15) (.cons (At.acc (by kernel_rfl) rfl (fun _ => rfl)) (.cons (At.acc (by kernel_rfl) rfl (fun _ => rfl)) (.nil _))) (.cons (Rn.accA (i' := 4) (Nat.le_of_ble_eq_true rfl) rfl) (.cons (Rn.any _ _ _ _ _ _ (Nat.le_of_ble_eq_true rfl) rfl rfl (by decide)) .nil)) (.flat (by kernel_rfl)) newflat_nil)
            · exact (PureSim.ren (hc := (H3_10 r6 r8)) (fun i => List.getD [(5, 0), (7, 0)] i (0, 0)) (C20 _ _ _ h17) (.cons (At.acc (by kernel_rfl) rfl (fun _ => rfl)) (.cons (At.acc (by kernel_rfl) rfl (fun _ => rfl)) (.nil _))) (.cons (Rn.accA (i' := 5) (Nat.le_of_ble_eq_true rfl) rfl) (.cons (Rn.any _ _ _ _ _ _ (Nat.le_of_ble_eq_true rfl) rfl rfl (by decide)) .nil)) (.flat (by kernel_rfl)) newflat_nil)
          refine TS.dp [⟨20, [accV 4 (List.length r6.1), .slice (some ⟨6, 0, none⟩) (List.length r8.1) ANY], (H3_8 p2 p0 p1 r4 r6 r8), .bool true, []⟩, ⟨20, [accV 5 (List.length r6.2.1), .slice (some ⟨7, 0, none⟩) (List.length r8.2.1) ANY], (H3_8 p2 p0 p1 r4 r6 r8), .bool true, []⟩] hT mixed 34 [2] [0] (st 83 [(2, .bool false)]) (H3_12 p2) ?_ ?_
          · refine QJ.rn (qs (S3_9 r6 r8 r10 r12) (H3_8 p2 p0 p1 r4 r6 r8) [] []) 2 (QJ.o { val := .bool true, new := [] } (qOf_call (g := 20) (args := [accV 4 (List.length r6.1), .slice (some ⟨6, 0, none⟩) (List.length r8.1) ANY]) (by kernel_rfl) lookC_hit) (QJ.rn (qs (S3_7 r6 r8 r10 r12) (H3_8 p2 p0 p1 r4 r6 r8) [] []) 3 ?_))
            exact QJ.o { val := .bool true, new := [] } (qOf_call (g := 20) (args := [accV 5 (List.length r6.2.1), .slice (some ⟨7, 0, none⟩) (List.length r8.2.1) ANY]) (by kernel_rfl) (lookC_skip (by intro _ ha _; have hq := h15; have hi := h17; clear hF; first | (exfalso; simp at ha; done) | ((try simp at ha); have hr := Option.some.inj (hq.symm.trans (Eq.trans (by first | rfl | (congr 1 <;> first | rfl | omega | simp_all)) hi)); subst hr; rfl)) lookC_hit)) (QJ.rn (qs (S3_6 r6 r8 r10 r12) (H3_8 p2 p0 p1 r4 r6 r8) [] []) 4 (QJ.o { val := .bool false } (q_conv (e := r6.2.2 == r8.2.2) (b := false) (by kernel_rfl) hc18) (QJ.rn (qs (st 83 [(1, pt 1 0), (3, pt 3 0), (4, accV 4 (List.length r6.1)), (5, accV 5 (List.length r6.2.1)), (6, iv r6.2.2), (7, .slice (some ⟨6, 0, none⟩) (List.length r8.1) ANY), (8, .slice (some ⟨7, 0, none⟩) (List.length r8.2.1) ANY), (9, iv r8.2.2), (10, iv r10.1), (11, iv r10.2), (12, iv r12.1), (13, iv r12.2), (43, accV 4 (List.length r6.1)), (44, .slice (some ⟨6, 0, none⟩) (List.length r8.1) ANY), (45, .bool true), (46, .bool true), (47, accV 5 (List.length r6.2.1)), (48, .slice (some ⟨7, 0, none⟩) (List.length r8.2.1) ANY), (49, .bool true), (50, .bool true), (51, .bool true), (52, iv r6.2.2), (53, iv r8.2.2), (54, .bool false), (55, .bool false), (56, .bool false), (57, undef), (58, undef), (59, undef), (60, .bool false), (61, .bool false), (62, undef), (63, undef), (64, undef), (65, .bool false), (66, .bool false), (67, undef), (68, undef), (69, undef), (70, undef), (71, undef), (72, .bool false), (73, .bool false), (74, undef), (75, undef), (76, undef)]) (H3_8 p2 p0 p1 r4 r6 r8) [] []) 22 (QJ.dn ⟨rfl, SJ.la⟩))))
          exact hK
      | false =>
        replace hm34 := of_neg hm34 rfl
        have hm34 := Option.some.inj hm34
        subst hm34
        have hT : ∀ e ∈ ([⟨20, [accV 4 (List.length r6.1), .slice (some ⟨6, 0, none⟩) (List.length r8.1) ANY], (H3_8 p2 p0 p1 r4 r6 r8), .bool true, []⟩, ⟨20, [accV 5 (List.length r6.2.1), .slice (some ⟨7, 0, none⟩) (List.length r8.2.1) ANY], (H3_8 p2 p0 p1 r4 r6 r8), .bool false, []⟩] : List Entry), PureSim Try.prog e.g e.args e.h e.v e.new := by
          intro e he
          simp only [List.mem_cons, List.not_mem_nil, or_false] at he
          rcases he with rfl | rfl
          · exact (PureSim.ren (hc := (H3_11 r6 r8)) (fun i => List.getD [(4, 0), (6, 0)] i (0, 0)) (C20 _ _ _ h15) (.cons (At.acc (by kernel_rfl) rfl (fun _ => rfl)) (.cons (At.acc (by kernel_rfl) rfl (fun _ => rfl)) (.nil _))) (.cons (Rn.accA (i' := 4) (Nat.le_of_ble_eq_true rfl) rfl) (.cons (Rn.any _ _ _ _ _ _ (Nat.le_of_ble_eq_true rfl) rfl rfl (by decide)) .nil)) (.flat (by kernel_rfl)) newflat_nil)
          · exact (PureSim.ren (hc := (H3_10 r6 r8)) (fun i => List.getD [(5, 0), (7, 0)] i (0, 0)) (C20 _ _ _ h17) (.cons (At.acc (by kernel_rfl) rfl (fun _ => rfl)) (.cons (At.acc (by kernel_rfl) rfl (fun _ => rfl)) (.nil _))) (.cons (Rn.accA (i' := 5) (Nat.le_of_ble_eq_true rfl) rfl) (.cons (Rn.any _ _ _ _ _ _ (Nat.le_of_ble_eq_true rfl) rfl rfl (by decide)) .nil)) (.flat (by kernel_rfl)) newflat_nil)
        refine TS.dp [⟨20, [accV 4 (List.length r6.1), .slice (some ⟨6, 0, none⟩) (List.length r8.1) ANY], (H3_8 p2 p0 p1 r4 r6 r8), .bool true, []⟩, ⟨20, [accV 5 (List.length r6.2.1), .slice (some ⟨7, 0, none⟩) (List.length r8.2.1) ANY], (H3_8 p2 p0 p1 r4 r6 r8), .bool false, []⟩] hT mixed 34 [2] [0] (st 83 [(2, .bool false)]) (H3_12 p2) ?_ ?_
        · refine QJ.rn (qs (S3_9 r6 r8 r10 r12) (H3_8 p2 p0 p1 r4 r6 r8) [] []) 2 (QJ.o { val := .bool true, new := [] } (qOf_call (g := 20) (args := [accV 4 (List.length r6.1), .slice (some ⟨6, 0, none⟩) (List.length r8.1) ANY]) (by kernel_rfl) lookC_hit) (QJ.rn (qs (S3_7 r6 r8 r10 r12) (H3_8 p2 p0 p1 r4 r6 r8) [] []) 3 ?_))
          exact QJ.o { val := .bool false, new := [] } (qOf_call (g := 20) (args := [accV 5 (List.length r6.2.1), .slice (some ⟨7, 0, none⟩) (List.length r8.2.1) ANY]) (by kernel_rfl) (lookC_skip (by intro _ ha _; have hq := h15; have hi := h17; clear hF; first | (exfalso; simp at ha; done) | ((try simp at ha); have hr := Option.some.inj (hq.symm.trans (Eq.trans (by first | rfl | (congr 1 <;> first | rfl | omega | simp_all)) hi)); subst hr; rfl)) lookC_hit)) (QJ.rn (qs (st 83 [(1, pt 1 0), (3, pt 3 0), (4, accV 4 (List.length r6.1)), (5, accV 5 (List.length r6.2.1)), (6, iv r6.2.2), (7, .slice (some ⟨6, 0, none⟩) (List.length r8.1) ANY), (8, .slice (some ⟨7, 0, none⟩) (List.length r8.2.1) ANY), (9, iv r8.2.2), (10, iv r10.1), (11, iv r10.2), (12, iv r12.1), (13, iv r12.2), (43, accV 4 (List.length r6.1)), (44, .slice (some ⟨6, 0, none⟩) (List.length r8.1) ANY), (45, .bool true), (46, .bool true), (47, accV 5 (List.length r6.2.1)), (48, .slice (some ⟨7, 0, none⟩) (List.length r8.2.1) ANY), (49, .bool false), (50, .bool false), (51, .bool false), (52, undef), (53, undef), (54, undef), (55, .bool false), (56, .bool false), (57, undef), (58, undef), (59, undef), (60, .bool false), (61, .bool false), (62, undef), (63, undef), (64, undef), (65, .bool false), (66, .bool false), (67, undef), (68, undef), (69, undef), (70, undef), (71, undef), (72, .bool false), (73, .bool false), (74, undef), (75, undef), (76, undef)]) (H3_8 p2 p0 p1 r4 r6 r8) [] []) 27 (QJ.dn ⟨rfl, SJ.la⟩))
        exact hK
    | false =>
      replace hm34 := of_neg hm34 rfl
      have hm34 := Option.some.inj hm34
      subst hm34
      have hT : ∀ e ∈ ([⟨20, [accV 4 (List.length r6.1), .slice (some ⟨6, 0, none⟩) (List.length r8.1) ANY], (H3_8 p2 p0 p1 r4 r6 r8), .bool false, []⟩] : List Entry), PureSim Try.prog e.g e.args e.h e.v e.new := by
        intro e he
        simp only [List.mem_cons, List.not_mem_nil, or_false] at he
        rcases he with rfl
        · exact (PureSim.ren (hc := (H3_11 r6 r8)) (fun i => List.getD [(4, 0), (6, 0)] i (0, 0)) (C20 _ _ _ h15) (.cons (At.acc (by kernel_rfl) rfl (fun _ => rfl)) (.cons (At.acc (by kernel_rfl) rfl (fun _ => rfl)) (.nil _))) (.cons (Rn.accA (i' := 4) (Nat.le_of_ble_eq_true rfl) rfl) (.cons (Rn.any _ _ _ _ _ _ (Nat.le_of_ble_eq_true rfl) rfl rfl (by decide)) .nil)) (.flat (by kernel_rfl)) newflat_nil)
      refine TS.dp [⟨20, [accV 4 (List.length r6.1), .slice (some ⟨6, 0, none⟩) (List.length r8.1) ANY], (H3_8 p2 p0 p1 r4 r6 r8), .bool false, []⟩] hT mixed 34 [2] [0] (st 83 [(2, .bool false)]) (H3_12 p2) ?_ ?_
      · exact QJ.rn (qs (S3_9 r6 r8 r10 r12) (H3_8 p2 p0 p1 r4 r6 r8) [] []) 2 (QJ.o { val := .bool false, new := [] } (qOf_call (g := 20) (args := [accV 4 (List.length r6.1), .slice (some ⟨6, 0, none⟩) (List.length r8.1) ANY]) (by kernel_rfl) lookC_hit) (QJ.rn (qs (st 83 [(1, pt 1 0), (3, pt 3 0), (4, accV 4 (List.length r6.1)), (5, accV 5 (List.length r6.2.1)), (6, iv r6.2.2), (7, .slice (some ⟨6, 0, none⟩) (List.length r8.1) ANY), (8, .slice (some ⟨7, 0, none⟩) (List.length r8.2.1) ANY), (9, iv r8.2.2), (10, iv r10.1), (11, iv r10.2), (12, iv r12.1), (13, iv r12.2), (43, accV 4 (List.length r6.1)), (44, .slice (some ⟨6, 0, none⟩) (List.length r8.1) ANY), (45, .bool false), (46, .bool false), (47, undef), (48, undef), (49, undef), (50, .bool false), (51, .bool false), (52, undef), (53, undef), (54, undef), (55, .bool false), (56, .bool false), (57, undef), (58, undef), (59, undef), (60, .bool false), (61, .bool false), (62, undef), (63, undef), (64, undef), (65, .bool false), (66, .bool false), (67, undef), (68, undef), (69, undef), (70, undef), (71, undef), (72, .bool false), (73, .bool false), (74, undef), (75, undef), (76, undef)]) (H3_8 p2 p0 p1 r4 r6 r8) [] []) 31 (QJ.dn ⟨rfl, SJ.la⟩)))
      exact hK
theorem C3 (p0 : Int) (p1 : Int) (p2 : (List (Int × Int))) (r : Bool) (hF : F3 p0 p1 p2 = some r) : PureSim Try.prog 3 [ag [iv p0, iv p1, .slice (some ⟨0, 0, none⟩) (List.length p2) ANY]] [accB 57 (List.length p2) (List.flatMap e57 p2)] (V3 1 r) (N3 1 r) :=
  PureSim.of_Fin Try.func3 (c := c3) (by kernel_rfl) (by kernel_rfl) 1 rfl [0] [0] (by kernel_rfl) (B3 p0 p1 p2 r hF)

end
end Go.Proofs.Ytdekbjfjbbdjgaa
