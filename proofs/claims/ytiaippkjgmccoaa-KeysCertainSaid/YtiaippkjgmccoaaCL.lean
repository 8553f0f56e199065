/- slices.Clone: what is copied, nil or not if it is empty. -/
import Derived.Test.YtiaippkjgmccoaaTsZ
import Derived.Test.YtiaippkjgmccoaaProg
import Derived.KernelRfl
set_option linter.unusedVariables false
set_option maxRecDepth 100000
set_option maxHeartbeats 4000000
namespace Go.Proofs.Ytiaippkjgmccoaa
open Go Go.Cl
noncomputable section
theorem mixed : Try.prog.follows .mixedOrders = true := by kernel_rfl
def e50 (x : (Int × Bool)) : List Value := [.int .i64 x.1, .bool x.2]
noncomputable def c56 : Code := Try.f56.code
def F56 (p0 : List (Int × Bool)) : Option (List (Int × Bool)) := if p0.length ≤ 1000000000 then some p0 else none
theorem B56 (p0 : List (Int × Bool)) (hg : p0.length ≤ 1000000000) : TS Try.prog 1 1 c56 (st 8 [(0, sv 0 p0.length ANY)]) [ab 50 e50 p0] (NX Try.prog 1 1 [] (FinP Try.prog Try.f56 1 (zq 2 1 0 p0) [ab 50 e50 p0])) := by
 refine TS.sq (TS.rg (TI.ra 1 [0] (st 8 [(0, sv 0 p0.length ANY)]) (TI.dn (NX.sq (TS.sq (TS.sq (TS.rg ?_)))))))
 refine TI.ra 1 [0, 3] (st 8 [(0, sv 0 p0.length ANY), (3, sv 0 p0.length ANY)]) ?_
 refine TI.cmpNil (o := (c56.s2.s1.s1.rops.toList.getD 1 default)) (t := 25) (e := 50) (z := 25) (ad := ⟨0, 0, none⟩) (l := p0.length) (c := ANY) (.tmp 3) (.const (.slice none 0 0)) (by kernel_rfl) (by kernel_rfl) (by kernel_rfl) (by kernel_rfl) (by kernel_rfl) (by kernel_rfl) (fun b hb => ?_)
 refine TI.ra 0 [0, 4] (st 8 [(0, sv 0 p0.length ANY), (4, .bool b)]) (TI.dn (NX.sq ?_))
 cases b with
 | true =>
  have h0 : p0 = [] := List.length_eq_zero_iff.1 (hb rfl)
  subst h0
  refine TS.cdT (.tmp 4) (TS.sq (TS.rg (TI.ra 1 [2] (st 8 [(2, .slice none 0 0)]) (TI.dn (NX.sq (TS.rt ?_))))))
  refine NX.sqR ?_
  exact ⟨.inr rfl, rfl, .slice none 0 0, by kernel_rfl, WkV.made (L := 1) (f := [1]) (by decide) (by decide) rfl (.cons At.accN (.nil _)) Rn.zE⟩
 | false =>
  refine TS.cdF (.tmp 4) (TS.sk (NX.sq (TS.sq (TS.rg ?_))))
  refine TI.rn 2 [0, 5, 6] [0, 1] (st 8 [(0, sv 0 p0.length ANY), (5, sv 1 0 0), (6, sv 0 p0.length ANY)]) [ab 50 e50 p0, .cells 50 []] ?_
  by_cases h0 : p0.length = 0
  · have h0 : p0 = [] := List.length_eq_zero_iff.1 h0
    subst h0
    refine TI.rn 0 [5, 6] [0] (st 8 [(5, sv 1 0 0), (6, sv 0 0 ANY)]) [.dead, .dead] ?_
    refine TI.rn 2 [2] [] (st 8 [(2, sv 1 0 0)]) [.dead, .dead] ?_
    refine TI.dn (NX.sq (TS.rt ?_))
    exact ⟨.inr rfl, rfl, sv 1 0 0, by kernel_rfl, WkV.made (L := 1) (f := [1]) (by decide) (by decide) rfl (.cons At.accN (.nil _)) (Rn.slice0 _ _ _ _ (Nat.le_of_ble_eq_true rfl) rfl)⟩
  refine TI.op (q := { val := ownV 2 p0.length, new := [.cells 50 (List.flatMap e50 p0)], upd := some (1, .dead) }) (q_appL (P := Try.prog) (base := 1) (hp := [ab 50 e50 p0, .cells 50 []]) (n := 2) (s := 2) (enc := e50) (ts := #[25, 25]) (e := 50) (bytes := 16) (z := .agg ⟨[.int .i64 0, .bool false]⟩) (y := sv 0 p0.length ANY) (ys := p0) (b := 1) (t := 50) (by kernel_rfl) (by kernel_rfl) (by decide) (by kernel_rfl) (by kernel_rfl) (by kernel_rfl) (by kernel_rfl) (by kernel_rfl) (by kernel_rfl) (arg_win (e := 50) (off := 0) (L := p0) (ys := p0) win_all (holds_acc (hp := [ab 50 e50 p0, .cells 50 []]) (b := 0) (T := 50) (enc := e50) (L := p0) (by kernel_rfl)) (fun _ => rfl) (by kernel_rfl)) (by omega)) [7] [2] (a2 := st 8 [(7, ownV 2 p0.length)]) (h2 := [.dead, .dead, .cells 50 (List.flatMap e50 p0)]) (by kernel_rfl) ?_
  refine TI.ra 1 [2] (st 8 [(2, ownV 2 p0.length)]) (TI.dn (NX.sq (TS.rt ?_)))
  exact ⟨.inr rfl, rfl, ownV 2 p0.length, by kernel_rfl, WkV.made (L := 1) (f := [2]) (by decide) (by decide) rfl (.cons (At.accU (by kernel_rfl) rfl (fun _ => rfl)) (.nil _)) (Rn.zU (Nat.le_of_ble_eq_true rfl) rfl h0)⟩
theorem C56 (p0 : List (Int × Bool)) (r : List (Int × Bool)) (hF : F56 p0 = some r) : PureSim Try.prog 56 [sv 0 p0.length ANY] [ab 50 e50 p0] (zq 2 1 0 r) [ab 50 e50 r] := by
 unfold F56 at hF
 have hX := of_guard hF
 obtain ⟨hg, hF⟩ := hX
 have hF := Option.some.inj hF
 subst hF
 exact PureSim.of_Fin Try.func56 (c := c56) (by kernel_rfl) (by kernel_rfl) 1 rfl [0] [0] (by kernel_rfl) (B56 p0 hg)
noncomputable def c58 : Code := Try.f58.code
theorem B58 (p0 : List (Int × Bool)) (hI : p0.length ≤ 1000000000) : TS Try.prog 1 1 c58 (st 9 [(0, sv 0 p0.length ANY)]) [ab 50 e50 p0] (NX Try.prog 1 1 [] (FinP Try.prog Try.f58 1 (fl 0 0 p0) [])) := by
 refine TS.sq (TS.rg (TI.ra 1 [0] (st 9 [(0, sv 0 p0.length ANY)]) (TI.dn (NX.sq (TS.sq (TS.rg ?_))))))
 refine TI.ra 5 [3, 5, 7] (st 9 [(3, sv 0 p0.length ANY), (5, iv (p0.length : Int)), (7, iv (p0.length : Int))]) ?_
 refine TI.op (q := { val := fl 0 0 p0 }) (q_clip (c := ANY) (b := 0) (off := 0) (P := Try.prog) (t := 25) (e := 50) (s := 2) (k := .i64) (k' := .i64) (l := p0) (.inl (by decide)) (by kernel_rfl) (by kernel_rfl) (by kernel_rfl)) [8] [] (a2 := st 9 [(8, fl 0 0 p0)]) (h2 := [.dead]) (by kernel_rfl) ?_
 refine TI.ra 1 [2] (st 9 [(2, fl 0 0 p0)]) (TI.dn (NX.sq (TS.rt ?_)))
 exact ⟨.inr rfl, rfl, fl 0 0 p0, by kernel_rfl, WkV.made (L := 1) (f := []) (by decide) (by decide) rfl (.nil _) (Rn.flr (Nat.le_of_ble_eq_true rfl) rfl hI)⟩
theorem C58 (p0 : List (Int × Bool)) (hI : p0.length ≤ 1000000000) : PureSim Try.prog 58 [sv 0 p0.length ANY] [ab 50 e50 p0] (fl 0 0 p0) [] :=
 PureSim.of_Fin Try.func58 (c := c58) (by kernel_rfl) (by kernel_rfl) 1 rfl [0] [0] (by kernel_rfl) (B58 p0 hI)
def e4 (x : Bool) : List Value := [.bool x]
noncomputable def c86 : Code := Try.f86.code
theorem B86 (p0 : List Bool) (hI : p0.length ≤ 1000000000) : TS Try.prog 1 1 c86 (st 9 [(0, sv 0 p0.length ANY)]) [ab 4 e4 p0] (NX Try.prog 1 1 [] (FinP Try.prog Try.f86 1 (fl 0 0 p0) [])) := by
 refine TS.sq (TS.rg (TI.ra 1 [0] (st 9 [(0, sv 0 p0.length ANY)]) (TI.dn (NX.sq (TS.sq (TS.rg ?_))))))
 refine TI.ra 5 [3, 5, 7] (st 9 [(3, sv 0 p0.length ANY), (5, iv (p0.length : Int)), (7, iv (p0.length : Int))]) ?_
 refine TI.op (q := { val := fl 0 0 p0 }) (q_clip (c := ANY) (b := 0) (off := 0) (P := Try.prog) (t := 26) (e := 4) (s := 1) (k := .i64) (k' := .i64) (l := p0) (.inl (by decide)) (by kernel_rfl) (by kernel_rfl) (by kernel_rfl)) [8] [] (a2 := st 9 [(8, fl 0 0 p0)]) (h2 := [.dead]) (by kernel_rfl) ?_
 refine TI.ra 1 [2] (st 9 [(2, fl 0 0 p0)]) (TI.dn (NX.sq (TS.rt ?_)))
 exact ⟨.inr rfl, rfl, fl 0 0 p0, by kernel_rfl, WkV.made (L := 1) (f := []) (by decide) (by decide) rfl (.nil _) (Rn.flr (Nat.le_of_ble_eq_true rfl) rfl hI)⟩
theorem C86 (p0 : List Bool) (hI : p0.length ≤ 1000000000) : PureSim Try.prog 86 [sv 0 p0.length ANY] [ab 4 e4 p0] (fl 0 0 p0) [] :=
 PureSim.of_Fin Try.func86 (c := c86) (by kernel_rfl) (by kernel_rfl) 1 rfl [0] [0] (by kernel_rfl) (B86 p0 hI)
end
end Go.Proofs.Ytiaippkjgmccoaa
