/- What wave.Parts returns of the records of the examples. -/
import Derived.Test.YtdekbjfjbbdjgaaTs14
import Derived.Test.YtdekbjfjbbdjgaaTs10
import Derived.Test.YtdekbjfjbbdjgaaCl28
import Derived.Test.YtdekbjfjbbdjgaaProg
import Derived.KernelRfl
set_option linter.unusedVariables false
set_option maxRecDepth 100000
set_option maxHeartbeats 4000000
namespace Go.Proofs.Ytdekbjfjbbdjgaa.parts
open Go Go.Cl
noncomputable def c18 : Code := Try.f18.code
noncomputable def env0 : Cl.Env := { P := Try.prog, sum := fun _ => none, imp := fun f => [57,60,61].contains f, strict := true }
theorem mixed : env0.P.follows .mixedOrders = true := by kernel_rfl
def rootP (p : Value × Value) : Bool := match p with | (.agg ⟨[a, b]⟩, .agg ⟨c :: d :: _⟩) => eqLeaf a c && eqLeaf b d | _ => false
def root (e : MapEntry) : Bool := rootP (e.key, e.val)
namespace R
def p23 : Entry := ⟨23, [.agg ⟨[.int .i64 3, .int .i64 2, .slice (some (Addr.mk 0 0 none)) 4 18446744073709551616]⟩], [.cells 57 [(.int .i64 0), (.int .i64 15), (.int .i64 1), (.int .i64 23), (.int .i64 2), (.int .i64 16), (.int .i64 3), (.int .i64 24)], .cells 24 [.int .i64 3, .int .i64 2, .slice (some (Addr.mk 0 0 none)) 4 18446744073709551616]], .int .i64 0, []⟩
def p49 : Entry := ⟨49, [.agg ⟨[.int .i64 3, .int .i64 2, .slice (some (Addr.mk 0 0 none)) 4 18446744073709551616]⟩], [.cells 57 [(.int .i64 0), (.int .i64 15), (.int .i64 1), (.int .i64 23), (.int .i64 2), (.int .i64 16), (.int .i64 3), (.int .i64 24)], .cells 24 [.int .i64 3, .int .i64 2, .slice (some (Addr.mk 0 0 none)) 4 18446744073709551616]], .map (some 2), [.map 83 [(.agg ⟨[.int .i64 0, .int .i64 0]⟩, .agg ⟨[.int .i64 0, .int .i64 0, .int .i64 0, .int .i64 (-1), .int .i64 0, .int .i64 0]⟩), (.agg ⟨[.int .i64 1, .int .i64 0]⟩, .agg ⟨[.int .i64 0, .int .i64 0, .int .i64 15, .int .i64 0, .int .i64 0, .int .i64 0]⟩), (.agg ⟨[.int .i64 0, .int .i64 2]⟩, .agg ⟨[.int .i64 0, .int .i64 0, .int .i64 1, .int .i64 2, .int .i64 1, .int .i64 0]⟩), (.agg ⟨[.int .i64 1, .int .i64 1]⟩, .agg ⟨[.int .i64 0, .int .i64 0, .int .i64 24, .int .i64 3, .int .i64 0, .int .i64 0]⟩), (.agg ⟨[.int .i64 0, .int .i64 1]⟩, .agg ⟨[.int .i64 0, .int .i64 0, .int .i64 (-1), .int .i64 1, .int .i64 1, .int .i64 1]⟩)]]⟩
theorem p23_gives : gives ((run env0 3000).pcall p23.g p23.args p23.h) p23.v p23.new = true := by kernel_rfl
theorem p49_gives : gives ((run env0 3000).pcall p49.g p49.args p49.h) p49.v p49.new = true := by kernel_rfl
abbrev ES : List (Value × Value) := [(.agg ⟨[.int .i64 0, .int .i64 0]⟩, .agg ⟨[.int .i64 0, .int .i64 0, .int .i64 0, .int .i64 (-1), .int .i64 0, .int .i64 0]⟩), (.agg ⟨[.int .i64 1, .int .i64 0]⟩, .agg ⟨[.int .i64 0, .int .i64 0, .int .i64 15, .int .i64 0, .int .i64 0, .int .i64 0]⟩), (.agg ⟨[.int .i64 0, .int .i64 2]⟩, .agg ⟨[.int .i64 0, .int .i64 0, .int .i64 1, .int .i64 2, .int .i64 1, .int .i64 0]⟩), (.agg ⟨[.int .i64 1, .int .i64 1]⟩, .agg ⟨[.int .i64 0, .int .i64 0, .int .i64 24, .int .i64 3, .int .i64 0, .int .i64 0]⟩), (.agg ⟨[.int .i64 0, .int .i64 1]⟩, .agg ⟨[.int .i64 0, .int .i64 0, .int .i64 (-1), .int .i64 1, .int .i64 1, .int .i64 1]⟩)]
theorem loop (arr : Array MapEntry) (clock : Nat) (hkv : arr.toList.map (fun e => (e.key, e.val)) = ES) (hst : Stamped arr clock) : ∀ (m : Nat) (seen : Array Nat) (c : Int), (leftOf arr seen).size < m → c + (leftOf arr seen).toList.countP root = 1 → 0 ≤ c →
 TL Try.prog 1 1 c18.s2.s2.s2.s1.s2.bd.bd (st 28 [(5, .int .i64 c), (15, .pointer (some ⟨3, 0, none⟩))]) [.dead, .dead, .mapS 83 arr clock, .iter 2 clock seen clock] fun e a h => e = .exit 0 ∧ Wk Try.prog 1 1 a h (st 28 [(5, .int .i64 1)]) [.dead] := by
 intro m
 induction m with
 | zero => intro seen c hm; omega
 | succ m ih =>
  intro seen c hm hc h0c
  refine TL.round ?_
  refine TS.seq' (x := c18.s2.s2.s2.s1.s2.bd.bd.s1) (y := c18.s2.s2.s2.s1.s2.bd.bd.s2) (by kernel_rfl) ?_
  refine TS.region' (id := 6) (b := false) (ops := c18.s2.s2.s2.s1.s2.bd.bd.s1.rops) (by kernel_rfl) rfl ?_
  refine TI.next (it := .tmp 15) (i := 3) (m := 2) (since := clock) (last := clock) (seen := seen) (arr := arr) (clock := clock) (kt := 83) (by kernel_rfl) (by kernel_rfl) (by decide) (by kernel_rfl) (by kernel_rfl) hst.1 (Nat.le_refl _) (fun h0 => ?_) (fun e he => ?_)
  · have hz : (leftOf arr seen).toList.countP root = 0 := by
     have : (leftOf arr seen).toList = [] := List.length_eq_zero_iff.1 (by rw [Array.length_toList]; exact h0)
     rw [this]; rfl
    have hcc : c = 1 := by omega
    subst hcc
    refine TI.run 1 [5, 17] [] (a2 := (st 28 [(5, .int .i64 1), (17, .bool false)])) (h2 := [.dead, .dead, .dead, .dead]) (by kernel_rfl) ?_
    refine TI.done (by kernel_rfl) ?_
    refine NX.sq ?_
    refine TS.seq' (x := c18.s2.s2.s2.s1.s2.bd.bd.s2.s1) (y := c18.s2.s2.s2.s1.s2.bd.bd.s2.s2) (by kernel_rfl) ?_
    refine TS.condF' (o := (.tmp 17)) (x := c18.s2.s2.s2.s1.s2.bd.bd.s2.s1.th) (y := c18.s2.s2.s2.s1.s2.bd.bd.s2.s1.el) (by kernel_rfl) (by kernel_rfl) ?_
    refine TS.exit' (id := 0) (by kernel_rfl) ?_
    refine NX.sqX ?_
    exact Rd.out (e := .exit 0) (by intro h; cases h) (And.intro rfl (Wk.anew (base := 1) (L := 1) (f := []) (by decide) (by decide) (Nat.le_of_ble_eq_true rfl) rfl (.cons (.inl rfl) (.nil _)) (LRn.stx [5] [.int .i64 1] [.int .i64 1] (.cons (.flat (by kernel_rfl)) .nil) (by kernel_rfl) (by kernel_rfl) rfl) rfl rfl))
  have hem := left_mem he
  have hcnt := left_count (p := root) hst.2 he
  have hless := left_less he
  have hin : (e.key, e.val) ∈ ES := by rw [← hkv]; exact List.mem_map.2 ⟨e, hem, rfl⟩
  simp only [ES, List.mem_cons, List.not_mem_nil, or_false, Prod.mk.injEq] at hin
  have hcb : c ≤ 1 := by omega
  rcases hin with ⟨hk, hv⟩ | ⟨hk, hv⟩ | ⟨hk, hv⟩ | ⟨hk, hv⟩ | ⟨hk, hv⟩
  · have hr : root e = true := by rw [root, hk, hv]; kernel_rfl
    refine TI.run 1 [5, 15, 17] [2, 3] (a2 := (st 28 [(5, .int .i64 c), (15, .pointer (some ⟨3, 0, none⟩)), (17, .bool true)])) (h2 := [.dead, .dead, .mapS 83 arr clock, .iter 2 clock (seen.push e.born) clock]) (by kernel_rfl) ?_
    refine TI.done (by kernel_rfl) ?_
    refine NX.sq ?_
    refine TS.seq' (x := c18.s2.s2.s2.s1.s2.bd.bd.s2.s1) (y := c18.s2.s2.s2.s1.s2.bd.bd.s2.s2) (by kernel_rfl) ?_
    refine TS.condT' (o := (.tmp 17)) (x := c18.s2.s2.s2.s1.s2.bd.bd.s2.s1.th) (y := c18.s2.s2.s2.s1.s2.bd.bd.s2.s1.el) (by kernel_rfl) (by kernel_rfl) ?_
    refine TS.skip' (by kernel_rfl) ?_
    refine NX.sq ?_
    refine TS.block' (id := 1) (x := c18.s2.s2.s2.s1.s2.bd.bd.s2.s2.bd) (by kernel_rfl) ?_
    refine TS.seq' (x := c18.s2.s2.s2.s1.s2.bd.bd.s2.s2.bd.s1) (y := c18.s2.s2.s2.s1.s2.bd.bd.s2.s2.bd.s2) (by kernel_rfl) ?_
    refine TS.region' (id := 7) (b := false) (ops := c18.s2.s2.s2.s1.s2.bd.bd.s2.s2.bd.s1.rops) (by kernel_rfl) rfl ?_
    refine TI.entry (it := .tmp 15) (i := 3) (m := 2) (since := clock) (seen := seen) (arr := arr) (clock := clock) (kt := 83) (e := e) (by kernel_rfl) (by kernel_rfl) (by kernel_rfl) (by kernel_rfl) hem hst.2 (a1 := putAt c18.s2.s2.s2.s1.s2.bd.bd.s2.s2.bd.s1.rops 0 (st 28 [(5, .int .i64 c), (15, .pointer (some ⟨3, 0, none⟩)), (17, .bool true)]) (.tuple #[.agg ⟨[.int .i64 0, .int .i64 0]⟩, .agg ⟨[.int .i64 0, .int .i64 0, .int .i64 0, .int .i64 (-1), .int .i64 0, .int .i64 0]⟩])) (by rw [hk, hv]) ?_
    refine TI.run 6 [5, 6, 7, 15] [2, 3, 4, 5] (a2 := (st 28 [(5, .int .i64 c), (6, .pointer (some ⟨4, 0, none⟩)), (7, .pointer (some ⟨5, 0, none⟩)), (15, .pointer (some ⟨3, 0, none⟩))])) (h2 := [.dead, .dead, .mapS 83 arr clock, .iter 2 clock (seen.push e.born) clock, .cells 83 [.int .i64 0, .int .i64 0], .cells 85 [.int .i64 0, .int .i64 0, .int .i64 0, .int .i64 (-1), .int .i64 0, .int .i64 0]]) (by kernel_rfl) ?_
    refine TI.done (by kernel_rfl) ?_
    refine NX.sq ?_
    refine TS.seq' (x := c18.s2.s2.s2.s1.s2.bd.bd.s2.s2.bd.s2.s1) (y := c18.s2.s2.s2.s1.s2.bd.bd.s2.s2.bd.s2.s2) (by kernel_rfl) ?_
    refine TS.region' (id := 8) (b := false) (ops := c18.s2.s2.s2.s1.s2.bd.bd.s2.s2.bd.s2.s1.rops) (by kernel_rfl) rfl ?_
    refine TI.run 4 [5, 15, 24] [2, 3] (a2 := (st 28 [(5, .int .i64 c), (15, .pointer (some ⟨3, 0, none⟩)), (24, .bool true)])) (h2 := [.dead, .dead, .mapS 83 arr clock, .iter 2 clock (seen.push e.born) clock, .dead, .dead]) (by kernel_rfl) ?_
    refine TI.done (by kernel_rfl) ?_
    refine NX.sq ?_
    refine TS.condT' (o := (.tmp 24)) (x := c18.s2.s2.s2.s1.s2.bd.bd.s2.s2.bd.s2.s2.th) (y := c18.s2.s2.s2.s1.s2.bd.bd.s2.s2.bd.s2.s2.el) (by kernel_rfl) (by kernel_rfl) ?_
    refine TS.region' (id := 9) (b := false) (ops := c18.s2.s2.s2.s1.s2.bd.bd.s2.s2.bd.s2.s2.th.rops) (by kernel_rfl) rfl ?_
    refine TI.run 3 [5, 15] [2, 3] (a2 := (st 28 [(5, .int .i64 (w64 (c + 1))), (15, .pointer (some ⟨3, 0, none⟩))])) (h2 := [.dead, .dead, .mapS 83 arr clock, .iter 2 clock (seen.push e.born) clock, .dead, .dead]) (by kernel_rfl) ?_
    refine TI.done (by kernel_rfl) ?_
    refine NX.bk ?_
    exact Rd.again (Wk.anew (base := 1) (L := 1) (f := [1, 2, 3]) (by decide) (by decide) (Nat.le_of_ble_eq_true rfl) rfl (.cons (.inl rfl) (.cons (.inl rfl) (.cons (At.blk (by kernel_rfl) (RnB.mapS _ _ _)) (.cons (At.blk (by kernel_rfl) (RnB.iter _ _ _ _ (Nat.le_of_ble_eq_true rfl))) (.nil _))))) (LRn.stx [5, 15] [.int .i64 (w64 (c + 1)), .pointer (some ⟨3, 0, none⟩)] [.int .i64 (w64 (c + 1)), .pointer (some ⟨3, 0, none⟩)] (.cons (.flat (by kernel_rfl)) (.cons (Rn.ptr _ _ _ (Nat.le_of_ble_eq_true rfl) rfl) .nil)) (by kernel_rfl) (by kernel_rfl) rfl) rfl rfl) (ih (seen.push e.born) (w64 (c + 1)) (by omega) (by rw [w64_in (by omega) (by omega)]; rw [hr] at hcnt; simp only [if_true] at hcnt; omega) (by rw [w64_in (by omega) (by omega)]; omega))
  · have hr : root e = false := by rw [root, hk, hv]; kernel_rfl
    refine TI.run 1 [5, 15, 17] [2, 3] (a2 := (st 28 [(5, .int .i64 c), (15, .pointer (some ⟨3, 0, none⟩)), (17, .bool true)])) (h2 := [.dead, .dead, .mapS 83 arr clock, .iter 2 clock (seen.push e.born) clock]) (by kernel_rfl) ?_
    refine TI.done (by kernel_rfl) ?_
    refine NX.sq ?_
    refine TS.seq' (x := c18.s2.s2.s2.s1.s2.bd.bd.s2.s1) (y := c18.s2.s2.s2.s1.s2.bd.bd.s2.s2) (by kernel_rfl) ?_
    refine TS.condT' (o := (.tmp 17)) (x := c18.s2.s2.s2.s1.s2.bd.bd.s2.s1.th) (y := c18.s2.s2.s2.s1.s2.bd.bd.s2.s1.el) (by kernel_rfl) (by kernel_rfl) ?_
    refine TS.skip' (by kernel_rfl) ?_
    refine NX.sq ?_
    refine TS.block' (id := 1) (x := c18.s2.s2.s2.s1.s2.bd.bd.s2.s2.bd) (by kernel_rfl) ?_
    refine TS.seq' (x := c18.s2.s2.s2.s1.s2.bd.bd.s2.s2.bd.s1) (y := c18.s2.s2.s2.s1.s2.bd.bd.s2.s2.bd.s2) (by kernel_rfl) ?_
    refine TS.region' (id := 7) (b := false) (ops := c18.s2.s2.s2.s1.s2.bd.bd.s2.s2.bd.s1.rops) (by kernel_rfl) rfl ?_
    refine TI.entry (it := .tmp 15) (i := 3) (m := 2) (since := clock) (seen := seen) (arr := arr) (clock := clock) (kt := 83) (e := e) (by kernel_rfl) (by kernel_rfl) (by kernel_rfl) (by kernel_rfl) hem hst.2 (a1 := putAt c18.s2.s2.s2.s1.s2.bd.bd.s2.s2.bd.s1.rops 0 (st 28 [(5, .int .i64 c), (15, .pointer (some ⟨3, 0, none⟩)), (17, .bool true)]) (.tuple #[.agg ⟨[.int .i64 1, .int .i64 0]⟩, .agg ⟨[.int .i64 0, .int .i64 0, .int .i64 15, .int .i64 0, .int .i64 0, .int .i64 0]⟩])) (by rw [hk, hv]) ?_
    refine TI.run 6 [5, 6, 7, 15] [2, 3, 4, 5] (a2 := (st 28 [(5, .int .i64 c), (6, .pointer (some ⟨4, 0, none⟩)), (7, .pointer (some ⟨5, 0, none⟩)), (15, .pointer (some ⟨3, 0, none⟩))])) (h2 := [.dead, .dead, .mapS 83 arr clock, .iter 2 clock (seen.push e.born) clock, .cells 83 [.int .i64 1, .int .i64 0], .cells 85 [.int .i64 0, .int .i64 0, .int .i64 15, .int .i64 0, .int .i64 0, .int .i64 0]]) (by kernel_rfl) ?_
    refine TI.done (by kernel_rfl) ?_
    refine NX.sq ?_
    refine TS.seq' (x := c18.s2.s2.s2.s1.s2.bd.bd.s2.s2.bd.s2.s1) (y := c18.s2.s2.s2.s1.s2.bd.bd.s2.s2.bd.s2.s2) (by kernel_rfl) ?_
    refine TS.region' (id := 8) (b := false) (ops := c18.s2.s2.s2.s1.s2.bd.bd.s2.s2.bd.s2.s1.rops) (by kernel_rfl) rfl ?_
    refine TI.run 4 [5, 15, 24] [2, 3] (a2 := (st 28 [(5, .int .i64 c), (15, .pointer (some ⟨3, 0, none⟩)), (24, .bool false)])) (h2 := [.dead, .dead, .mapS 83 arr clock, .iter 2 clock (seen.push e.born) clock, .dead, .dead]) (by kernel_rfl) ?_
    refine TI.done (by kernel_rfl) ?_
    refine NX.sq ?_
    refine TS.condF' (o := (.tmp 24)) (x := c18.s2.s2.s2.s1.s2.bd.bd.s2.s2.bd.s2.s2.th) (y := c18.s2.s2.s2.s1.s2.bd.bd.s2.s2.bd.s2.s2.el) (by kernel_rfl) (by kernel_rfl) ?_
    refine TS.skip' (by kernel_rfl) ?_
    refine NX.bk ?_
    exact Rd.again (Wk.anew (base := 1) (L := 1) (f := [1, 2, 3]) (by decide) (by decide) (Nat.le_of_ble_eq_true rfl) rfl (.cons (.inl rfl) (.cons (.inl rfl) (.cons (At.blk (by kernel_rfl) (RnB.mapS _ _ _)) (.cons (At.blk (by kernel_rfl) (RnB.iter _ _ _ _ (Nat.le_of_ble_eq_true rfl))) (.nil _))))) (LRn.stx [5, 15] [.int .i64 c, .pointer (some ⟨3, 0, none⟩)] [.int .i64 c, .pointer (some ⟨3, 0, none⟩)] (.cons (.flat (by kernel_rfl)) (.cons (Rn.ptr _ _ _ (Nat.le_of_ble_eq_true rfl) rfl) .nil)) (by kernel_rfl) (by kernel_rfl) rfl) rfl rfl) (ih (seen.push e.born) c (by omega) (by rw [hr] at hcnt; simp only [Bool.false_eq_true, if_false] at hcnt; omega) h0c)
  · have hr : root e = false := by rw [root, hk, hv]; kernel_rfl
    refine TI.run 1 [5, 15, 17] [2, 3] (a2 := (st 28 [(5, .int .i64 c), (15, .pointer (some ⟨3, 0, none⟩)), (17, .bool true)])) (h2 := [.dead, .dead, .mapS 83 arr clock, .iter 2 clock (seen.push e.born) clock]) (by kernel_rfl) ?_
    refine TI.done (by kernel_rfl) ?_
    refine NX.sq ?_
    refine TS.seq' (x := c18.s2.s2.s2.s1.s2.bd.bd.s2.s1) (y := c18.s2.s2.s2.s1.s2.bd.bd.s2.s2) (by kernel_rfl) ?_
    refine TS.condT' (o := (.tmp 17)) (x := c18.s2.s2.s2.s1.s2.bd.bd.s2.s1.th) (y := c18.s2.s2.s2.s1.s2.bd.bd.s2.s1.el) (by kernel_rfl) (by kernel_rfl) ?_
    refine TS.skip' (by kernel_rfl) ?_
    refine NX.sq ?_
    refine TS.block' (id := 1) (x := c18.s2.s2.s2.s1.s2.bd.bd.s2.s2.bd) (by kernel_rfl) ?_
    refine TS.seq' (x := c18.s2.s2.s2.s1.s2.bd.bd.s2.s2.bd.s1) (y := c18.s2.s2.s2.s1.s2.bd.bd.s2.s2.bd.s2) (by kernel_rfl) ?_
    refine TS.region' (id := 7) (b := false) (ops := c18.s2.s2.s2.s1.s2.bd.bd.s2.s2.bd.s1.rops) (by kernel_rfl) rfl ?_
    refine TI.entry (it := .tmp 15) (i := 3) (m := 2) (since := clock) (seen := seen) (arr := arr) (clock := clock) (kt := 83) (e := e) (by kernel_rfl) (by kernel_rfl) (by kernel_rfl) (by kernel_rfl) hem hst.2 (a1 := putAt c18.s2.s2.s2.s1.s2.bd.bd.s2.s2.bd.s1.rops 0 (st 28 [(5, .int .i64 c), (15, .pointer (some ⟨3, 0, none⟩)), (17, .bool true)]) (.tuple #[.agg ⟨[.int .i64 0, .int .i64 2]⟩, .agg ⟨[.int .i64 0, .int .i64 0, .int .i64 1, .int .i64 2, .int .i64 1, .int .i64 0]⟩])) (by rw [hk, hv]) ?_
    refine TI.run 6 [5, 6, 7, 15] [2, 3, 4, 5] (a2 := (st 28 [(5, .int .i64 c), (6, .pointer (some ⟨4, 0, none⟩)), (7, .pointer (some ⟨5, 0, none⟩)), (15, .pointer (some ⟨3, 0, none⟩))])) (h2 := [.dead, .dead, .mapS 83 arr clock, .iter 2 clock (seen.push e.born) clock, .cells 83 [.int .i64 0, .int .i64 2], .cells 85 [.int .i64 0, .int .i64 0, .int .i64 1, .int .i64 2, .int .i64 1, .int .i64 0]]) (by kernel_rfl) ?_
    refine TI.done (by kernel_rfl) ?_
    refine NX.sq ?_
    refine TS.seq' (x := c18.s2.s2.s2.s1.s2.bd.bd.s2.s2.bd.s2.s1) (y := c18.s2.s2.s2.s1.s2.bd.bd.s2.s2.bd.s2.s2) (by kernel_rfl) ?_
    refine TS.region' (id := 8) (b := false) (ops := c18.s2.s2.s2.s1.s2.bd.bd.s2.s2.bd.s2.s1.rops) (by kernel_rfl) rfl ?_
    refine TI.run 4 [5, 15, 24] [2, 3] (a2 := (st 28 [(5, .int .i64 c), (15, .pointer (some ⟨3, 0, none⟩)), (24, .bool false)])) (h2 := [.dead, .dead, .mapS 83 arr clock, .iter 2 clock (seen.push e.born) clock, .dead, .dead]) (by kernel_rfl) ?_
    refine TI.done (by kernel_rfl) ?_
    refine NX.sq ?_
    refine TS.condF' (o := (.tmp 24)) (x := c18.s2.s2.s2.s1.s2.bd.bd.s2.s2.bd.s2.s2.th) (y := c18.s2.s2.s2.s1.s2.bd.bd.s2.s2.bd.s2.s2.el) (by kernel_rfl) (by kernel_rfl) ?_
    refine TS.skip' (by kernel_rfl) ?_
    refine NX.bk ?_
    exact Rd.again (Wk.anew (base := 1) (L := 1) (f := [1, 2, 3]) (by decide) (by decide) (Nat.le_of_ble_eq_true rfl) rfl (.cons (.inl rfl) (.cons (.inl rfl) (.cons (At.blk (by kernel_rfl) (RnB.mapS _ _ _)) (.cons (At.blk (by kernel_rfl) (RnB.iter _ _ _ _ (Nat.le_of_ble_eq_true rfl))) (.nil _))))) (LRn.stx [5, 15] [.int .i64 c, .pointer (some ⟨3, 0, none⟩)] [.int .i64 c, .pointer (some ⟨3, 0, none⟩)] (.cons (.flat (by kernel_rfl)) (.cons (Rn.ptr _ _ _ (Nat.le_of_ble_eq_true rfl) rfl) .nil)) (by kernel_rfl) (by kernel_rfl) rfl) rfl rfl) (ih (seen.push e.born) c (by omega) (by rw [hr] at hcnt; simp only [Bool.false_eq_true, if_false] at hcnt; omega) h0c)
  · have hr : root e = false := by rw [root, hk, hv]; kernel_rfl
    refine TI.run 1 [5, 15, 17] [2, 3] (a2 := (st 28 [(5, .int .i64 c), (15, .pointer (some ⟨3, 0, none⟩)), (17, .bool true)])) (h2 := [.dead, .dead, .mapS 83 arr clock, .iter 2 clock (seen.push e.born) clock]) (by kernel_rfl) ?_
    refine TI.done (by kernel_rfl) ?_
    refine NX.sq ?_
    refine TS.seq' (x := c18.s2.s2.s2.s1.s2.bd.bd.s2.s1) (y := c18.s2.s2.s2.s1.s2.bd.bd.s2.s2) (by kernel_rfl) ?_
    refine TS.condT' (o := (.tmp 17)) (x := c18.s2.s2.s2.s1.s2.bd.bd.s2.s1.th) (y := c18.s2.s2.s2.s1.s2.bd.bd.s2.s1.el) (by kernel_rfl) (by kernel_rfl) ?_
    refine TS.skip' (by kernel_rfl) ?_
    refine NX.sq ?_
    refine TS.block' (id := 1) (x := c18.s2.s2.s2.s1.s2.bd.bd.s2.s2.bd) (by kernel_rfl) ?_
    refine TS.seq' (x := c18.s2.s2.s2.s1.s2.bd.bd.s2.s2.bd.s1) (y := c18.s2.s2.s2.s1.s2.bd.bd.s2.s2.bd.s2) (by kernel_rfl) ?_
    refine TS.region' (id := 7) (b := false) (ops := c18.s2.s2.s2.s1.s2.bd.bd.s2.s2.bd.s1.rops) (by kernel_rfl) rfl ?_
    refine TI.entry (it := .tmp 15) (i := 3) (m := 2) (since := clock) (seen := seen) (arr := arr) (clock := clock) (kt := 83) (e := e) (by kernel_rfl) (by kernel_rfl) (by kernel_rfl) (by kernel_rfl) hem hst.2 (a1 := putAt c18.s2.s2.s2.s1.s2.bd.bd.s2.s2.bd.s1.rops 0 (st 28 [(5, .int .i64 c), (15, .pointer (some ⟨3, 0, none⟩)), (17, .bool true)]) (.tuple #[.agg ⟨[.int .i64 1, .int .i64 1]⟩, .agg ⟨[.int .i64 0, .int .i64 0, .int .i64 24, .int .i64 3, .int .i64 0, .int .i64 0]⟩])) (by rw [hk, hv]) ?_
    refine TI.run 6 [5, 6, 7, 15] [2, 3, 4, 5] (a2 := (st 28 [(5, .int .i64 c), (6, .pointer (some ⟨4, 0, none⟩)), (7, .pointer (some ⟨5, 0, none⟩)), (15, .pointer (some ⟨3, 0, none⟩))])) (h2 := [.dead, .dead, .mapS 83 arr clock, .iter 2 clock (seen.push e.born) clock, .cells 83 [.int .i64 1, .int .i64 1], .cells 85 [.int .i64 0, .int .i64 0, .int .i64 24, .int .i64 3, .int .i64 0, .int .i64 0]]) (by kernel_rfl) ?_
    refine TI.done (by kernel_rfl) ?_
    refine NX.sq ?_
    refine TS.seq' (x := c18.s2.s2.s2.s1.s2.bd.bd.s2.s2.bd.s2.s1) (y := c18.s2.s2.s2.s1.s2.bd.bd.s2.s2.bd.s2.s2) (by kernel_rfl) ?_
    refine TS.region' (id := 8) (b := false) (ops := c18.s2.s2.s2.s1.s2.bd.bd.s2.s2.bd.s2.s1.rops) (by kernel_rfl) rfl ?_
    refine TI.run 4 [5, 15, 24] [2, 3] (a2 := (st 28 [(5, .int .i64 c), (15, .pointer (some ⟨3, 0, none⟩)), (24, .bool false)])) (h2 := [.dead, .dead, .mapS 83 arr clock, .iter 2 clock (seen.push e.born) clock, .dead, .dead]) (by kernel_rfl) ?_
    refine TI.done (by kernel_rfl) ?_
    refine NX.sq ?_
    refine TS.condF' (o := (.tmp 24)) (x := c18.s2.s2.s2.s1.s2.bd.bd.s2.s2.bd.s2.s2.th) (y := c18.s2.s2.s2.s1.s2.bd.bd.s2.s2.bd.s2.s2.el) (by kernel_rfl) (by kernel_rfl) ?_
    refine TS.skip' (by kernel_rfl) ?_
    refine NX.bk ?_
    exact Rd.again (Wk.anew (base := 1) (L := 1) (f := [1, 2, 3]) (by decide) (by decide) (Nat.le_of_ble_eq_true rfl) rfl (.cons (.inl rfl) (.cons (.inl rfl) (.cons (At.blk (by kernel_rfl) (RnB.mapS _ _ _)) (.cons (At.blk (by kernel_rfl) (RnB.iter _ _ _ _ (Nat.le_of_ble_eq_true rfl))) (.nil _))))) (LRn.stx [5, 15] [.int .i64 c, .pointer (some ⟨3, 0, none⟩)] [.int .i64 c, .pointer (some ⟨3, 0, none⟩)] (.cons (.flat (by kernel_rfl)) (.cons (Rn.ptr _ _ _ (Nat.le_of_ble_eq_true rfl) rfl) .nil)) (by kernel_rfl) (by kernel_rfl) rfl) rfl rfl) (ih (seen.push e.born) c (by omega) (by rw [hr] at hcnt; simp only [Bool.false_eq_true, if_false] at hcnt; omega) h0c)
  have hr : root e = false := by rw [root, hk, hv]; kernel_rfl
  refine TI.run 1 [5, 15, 17] [2, 3] (a2 := (st 28 [(5, .int .i64 c), (15, .pointer (some ⟨3, 0, none⟩)), (17, .bool true)])) (h2 := [.dead, .dead, .mapS 83 arr clock, .iter 2 clock (seen.push e.born) clock]) (by kernel_rfl) ?_
  refine TI.done (by kernel_rfl) ?_
  refine NX.sq ?_
  refine TS.seq' (x := c18.s2.s2.s2.s1.s2.bd.bd.s2.s1) (y := c18.s2.s2.s2.s1.s2.bd.bd.s2.s2) (by kernel_rfl) ?_
  refine TS.condT' (o := (.tmp 17)) (x := c18.s2.s2.s2.s1.s2.bd.bd.s2.s1.th) (y := c18.s2.s2.s2.s1.s2.bd.bd.s2.s1.el) (by kernel_rfl) (by kernel_rfl) ?_
  refine TS.skip' (by kernel_rfl) ?_
  refine NX.sq ?_
  refine TS.block' (id := 1) (x := c18.s2.s2.s2.s1.s2.bd.bd.s2.s2.bd) (by kernel_rfl) ?_
  refine TS.seq' (x := c18.s2.s2.s2.s1.s2.bd.bd.s2.s2.bd.s1) (y := c18.s2.s2.s2.s1.s2.bd.bd.s2.s2.bd.s2) (by kernel_rfl) ?_
  refine TS.region' (id := 7) (b := false) (ops := c18.s2.s2.s2.s1.s2.bd.bd.s2.s2.bd.s1.rops) (by kernel_rfl) rfl ?_
  refine TI.entry (it := .tmp 15) (i := 3) (m := 2) (since := clock) (seen := seen) (arr := arr) (clock := clock) (kt := 83) (e := e) (by kernel_rfl) (by kernel_rfl) (by kernel_rfl) (by kernel_rfl) hem hst.2 (a1 := putAt c18.s2.s2.s2.s1.s2.bd.bd.s2.s2.bd.s1.rops 0 (st 28 [(5, .int .i64 c), (15, .pointer (some ⟨3, 0, none⟩)), (17, .bool true)]) (.tuple #[.agg ⟨[.int .i64 0, .int .i64 1]⟩, .agg ⟨[.int .i64 0, .int .i64 0, .int .i64 (-1), .int .i64 1, .int .i64 1, .int .i64 1]⟩])) (by rw [hk, hv]) ?_
  refine TI.run 6 [5, 6, 7, 15] [2, 3, 4, 5] (a2 := (st 28 [(5, .int .i64 c), (6, .pointer (some ⟨4, 0, none⟩)), (7, .pointer (some ⟨5, 0, none⟩)), (15, .pointer (some ⟨3, 0, none⟩))])) (h2 := [.dead, .dead, .mapS 83 arr clock, .iter 2 clock (seen.push e.born) clock, .cells 83 [.int .i64 0, .int .i64 1], .cells 85 [.int .i64 0, .int .i64 0, .int .i64 (-1), .int .i64 1, .int .i64 1, .int .i64 1]]) (by kernel_rfl) ?_
  refine TI.done (by kernel_rfl) ?_
  refine NX.sq ?_
  refine TS.seq' (x := c18.s2.s2.s2.s1.s2.bd.bd.s2.s2.bd.s2.s1) (y := c18.s2.s2.s2.s1.s2.bd.bd.s2.s2.bd.s2.s2) (by kernel_rfl) ?_
  refine TS.region' (id := 8) (b := false) (ops := c18.s2.s2.s2.s1.s2.bd.bd.s2.s2.bd.s2.s1.rops) (by kernel_rfl) rfl ?_
  refine TI.run 4 [5, 15, 24] [2, 3] (a2 := (st 28 [(5, .int .i64 c), (15, .pointer (some ⟨3, 0, none⟩)), (24, .bool false)])) (h2 := [.dead, .dead, .mapS 83 arr clock, .iter 2 clock (seen.push e.born) clock, .dead, .dead]) (by kernel_rfl) ?_
  refine TI.done (by kernel_rfl) ?_
  refine NX.sq ?_
  refine TS.condF' (o := (.tmp 24)) (x := c18.s2.s2.s2.s1.s2.bd.bd.s2.s2.bd.s2.s2.th) (y := c18.s2.s2.s2.s1.s2.bd.bd.s2.s2.bd.s2.s2.el) (by kernel_rfl) (by kernel_rfl) ?_
  refine TS.skip' (by kernel_rfl) ?_
  refine NX.bk ?_
  exact Rd.again (Wk.anew (base := 1) (L := 1) (f := [1, 2, 3]) (by decide) (by decide) (Nat.le_of_ble_eq_true rfl) rfl (.cons (.inl rfl) (.cons (.inl rfl) (.cons (At.blk (by kernel_rfl) (RnB.mapS _ _ _)) (.cons (At.blk (by kernel_rfl) (RnB.iter _ _ _ _ (Nat.le_of_ble_eq_true rfl))) (.nil _))))) (LRn.stx [5, 15] [.int .i64 c, .pointer (some ⟨3, 0, none⟩)] [.int .i64 c, .pointer (some ⟨3, 0, none⟩)] (.cons (.flat (by kernel_rfl)) (.cons (Rn.ptr _ _ _ (Nat.le_of_ble_eq_true rfl) rfl) .nil)) (by kernel_rfl) (by kernel_rfl) rfl) rfl rfl) (ih (seen.push e.born) c (by omega) (by rw [hr] at hcnt; simp only [Bool.false_eq_true, if_false] at hcnt; omega) h0c)
theorem body : TS Try.prog 1 1 c18 (st 28 [(0, .agg ⟨[.int .i64 3, .int .i64 2, .slice (some (Addr.mk 0 0 none)) 4 18446744073709551616]⟩)]) [.cells 57 [(.int .i64 0), (.int .i64 15), (.int .i64 1), (.int .i64 23), (.int .i64 2), (.int .i64 16), (.int .i64 3), (.int .i64 24)]] (NX Try.prog 1 1 [] (FinP Try.prog Try.f18 1 (.tuple ⟨[.int .i64 1, .int .i64 0]⟩) [])) := by
 refine TS.seq' (x := c18.s1) (y := c18.s2) (by kernel_rfl) ?_
 refine TS.region' (id := 0) (b := false) (ops := c18.s1.rops) (by kernel_rfl) rfl ?_
 refine TI.run 3 [1] [0, 1] (a2 := (st 28 [(1, .pointer (some ⟨1, 0, none⟩))])) (h2 := [.cells 57 [(.int .i64 0), (.int .i64 15), (.int .i64 1), (.int .i64 23), (.int .i64 2), (.int .i64 16), (.int .i64 3), (.int .i64 24)], .cells 24 [.int .i64 3, .int .i64 2, .slice (some (Addr.mk 0 0 none)) 4 18446744073709551616]]) (by kernel_rfl) ?_
 refine TI.done (by kernel_rfl) ?_
 refine NX.sq ?_
 refine TS.seq' (x := c18.s2.s1) (y := c18.s2.s2) (by kernel_rfl) ?_
 refine TS.seq' (x := c18.s2.s1.s1) (y := c18.s2.s1.s2) (by kernel_rfl) ?_
 refine TS.region' (id := 1) (b := false) (ops := c18.s2.s1.s1.rops) (by kernel_rfl) rfl ?_
 refine TI.run 1 [1, 8] [0, 1] (a2 := (st 28 [(1, .pointer (some ⟨1, 0, none⟩)), (8, .agg ⟨[.int .i64 3, .int .i64 2, .slice (some (Addr.mk 0 0 none)) 4 18446744073709551616]⟩)])) (h2 := [.cells 57 [(.int .i64 0), (.int .i64 15), (.int .i64 1), (.int .i64 23), (.int .i64 2), (.int .i64 16), (.int .i64 3), (.int .i64 24)], .cells 24 [.int .i64 3, .int .i64 2, .slice (some (Addr.mk 0 0 none)) 4 18446744073709551616]]) (by kernel_rfl) ?_
 refine TI.callM (g := 23) (args := [.agg ⟨[.int .i64 3, .int .i64 2, .slice (some (Addr.mk 0 0 none)) 4 18446744073709551616]⟩]) (v := .int .i64 0) (new := []) (by kernel_rfl) (entry_ok (Cl.sumOk_none fun _ => rfl) mixed p23_gives) [1, 9] [0, 1] (a2 := (st 28 [(1, .pointer (some ⟨1, 0, none⟩)), (9, .int .i64 0)])) (h2 := [.cells 57 [(.int .i64 0), (.int .i64 15), (.int .i64 1), (.int .i64 23), (.int .i64 2), (.int .i64 16), (.int .i64 3), (.int .i64 24)], .cells 24 [.int .i64 3, .int .i64 2, .slice (some (Addr.mk 0 0 none)) 4 18446744073709551616]]) (by kernel_rfl) ?_
 refine TI.run 1 [1, 4] [0, 1] (a2 := (st 28 [(1, .pointer (some ⟨1, 0, none⟩)), (4, .int .i64 0)])) (h2 := [.cells 57 [(.int .i64 0), (.int .i64 15), (.int .i64 1), (.int .i64 23), (.int .i64 2), (.int .i64 16), (.int .i64 3), (.int .i64 24)], .cells 24 [.int .i64 3, .int .i64 2, .slice (some (Addr.mk 0 0 none)) 4 18446744073709551616]]) (by kernel_rfl) ?_
 refine TI.done (by kernel_rfl) ?_
 refine NX.sq ?_
 refine TS.seq' (x := c18.s2.s1.s2.s1) (y := c18.s2.s1.s2.s2) (by kernel_rfl) ?_
 refine TS.region' (id := 2) (b := false) (ops := c18.s2.s1.s2.s1.rops) (by kernel_rfl) rfl ?_
 refine TI.run 2 [1, 11] [0, 1] (a2 := (st 28 [(1, .pointer (some ⟨1, 0, none⟩)), (11, .bool false)])) (h2 := [.cells 57 [(.int .i64 0), (.int .i64 15), (.int .i64 1), (.int .i64 23), (.int .i64 2), (.int .i64 16), (.int .i64 3), (.int .i64 24)], .cells 24 [.int .i64 3, .int .i64 2, .slice (some (Addr.mk 0 0 none)) 4 18446744073709551616]]) (by kernel_rfl) ?_
 refine TI.done (by kernel_rfl) ?_
 refine NX.sq ?_
 refine TS.condF' (o := (.tmp 11)) (x := c18.s2.s1.s2.s2.th) (y := c18.s2.s1.s2.s2.el) (by kernel_rfl) (by kernel_rfl) ?_
 refine TS.skip' (by kernel_rfl) ?_
 refine NX.sq ?_
 refine TS.seq' (x := c18.s2.s2.s1) (y := c18.s2.s2.s2) (by kernel_rfl) ?_
 refine TS.region' (id := 4) (b := false) (ops := c18.s2.s2.s1.rops) (by kernel_rfl) rfl ?_
 refine TI.run 1 [1, 5] [0, 1] (a2 := (st 28 [(1, .pointer (some ⟨1, 0, none⟩)), (5, .int .i64 0)])) (h2 := [.cells 57 [(.int .i64 0), (.int .i64 15), (.int .i64 1), (.int .i64 23), (.int .i64 2), (.int .i64 16), (.int .i64 3), (.int .i64 24)], .cells 24 [.int .i64 3, .int .i64 2, .slice (some (Addr.mk 0 0 none)) 4 18446744073709551616]]) (by kernel_rfl) ?_
 refine TI.done (by kernel_rfl) ?_
 refine NX.sq ?_
 refine TS.seq' (x := c18.s2.s2.s2.s1) (y := c18.s2.s2.s2.s2) (by kernel_rfl) ?_
 refine TS.seq' (x := c18.s2.s2.s2.s1.s1) (y := c18.s2.s2.s2.s1.s2) (by kernel_rfl) ?_
 refine TS.region' (id := 5) (b := false) (ops := c18.s2.s2.s2.s1.s1.rops) (by kernel_rfl) rfl ?_
 refine TI.run 1 [5, 13] [0, 1] (a2 := (st 28 [(5, .int .i64 0), (13, .agg ⟨[.int .i64 3, .int .i64 2, .slice (some (Addr.mk 0 0 none)) 4 18446744073709551616]⟩)])) (h2 := [.cells 57 [(.int .i64 0), (.int .i64 15), (.int .i64 1), (.int .i64 23), (.int .i64 2), (.int .i64 16), (.int .i64 3), (.int .i64 24)], .cells 24 [.int .i64 3, .int .i64 2, .slice (some (Addr.mk 0 0 none)) 4 18446744073709551616]]) (by kernel_rfl) ?_
 refine TI.callM (g := 49) (args := [.agg ⟨[.int .i64 3, .int .i64 2, .slice (some (Addr.mk 0 0 none)) 4 18446744073709551616]⟩]) (v := .map (some 2)) (new := [.map 83 [(.agg ⟨[.int .i64 0, .int .i64 0]⟩, .agg ⟨[.int .i64 0, .int .i64 0, .int .i64 0, .int .i64 (-1), .int .i64 0, .int .i64 0]⟩), (.agg ⟨[.int .i64 1, .int .i64 0]⟩, .agg ⟨[.int .i64 0, .int .i64 0, .int .i64 15, .int .i64 0, .int .i64 0, .int .i64 0]⟩), (.agg ⟨[.int .i64 0, .int .i64 2]⟩, .agg ⟨[.int .i64 0, .int .i64 0, .int .i64 1, .int .i64 2, .int .i64 1, .int .i64 0]⟩), (.agg ⟨[.int .i64 1, .int .i64 1]⟩, .agg ⟨[.int .i64 0, .int .i64 0, .int .i64 24, .int .i64 3, .int .i64 0, .int .i64 0]⟩), (.agg ⟨[.int .i64 0, .int .i64 1]⟩, .agg ⟨[.int .i64 0, .int .i64 0, .int .i64 (-1), .int .i64 1, .int .i64 1, .int .i64 1]⟩)]]) (by kernel_rfl) (entry_ok (Cl.sumOk_none fun _ => rfl) mixed p49_gives) [5, 14] [2] (a2 := (st 28 [(5, .int .i64 0), (14, .map (some 2))])) (h2 := [.dead, .dead, .map 83 [(.agg ⟨[.int .i64 0, .int .i64 0]⟩, .agg ⟨[.int .i64 0, .int .i64 0, .int .i64 0, .int .i64 (-1), .int .i64 0, .int .i64 0]⟩), (.agg ⟨[.int .i64 1, .int .i64 0]⟩, .agg ⟨[.int .i64 0, .int .i64 0, .int .i64 15, .int .i64 0, .int .i64 0, .int .i64 0]⟩), (.agg ⟨[.int .i64 0, .int .i64 2]⟩, .agg ⟨[.int .i64 0, .int .i64 0, .int .i64 1, .int .i64 2, .int .i64 1, .int .i64 0]⟩), (.agg ⟨[.int .i64 1, .int .i64 1]⟩, .agg ⟨[.int .i64 0, .int .i64 0, .int .i64 24, .int .i64 3, .int .i64 0, .int .i64 0]⟩), (.agg ⟨[.int .i64 0, .int .i64 1]⟩, .agg ⟨[.int .i64 0, .int .i64 0, .int .i64 (-1), .int .i64 1, .int .i64 1, .int .i64 1]⟩)]]) (by kernel_rfl) ?_
 refine TO.stamp (k := 2) (kt := 83) (es := ES) (by kernel_rfl) fun arr clock hkv hfit hst => ?_
 refine TI.range (t := 76) (x := .tmp 14) (k := 83) (e := 85) (m := 2) (kt := 83) (arr := arr) (clock := clock) (by kernel_rfl) (by kernel_rfl) (by kernel_rfl) (by kernel_rfl) (h1 := [.dead, .dead, .mapS 83 arr clock, .iter 2 clock #[] clock]) rfl (by kernel_rfl) ?_
 refine TI.run 0 [5, 15] [2, 3] (a2 := (st 28 [(5, .int .i64 0), (15, .pointer (some ⟨3, 0, none⟩))])) (h2 := [.dead, .dead, .mapS 83 arr clock, .iter 2 clock #[] clock]) (by kernel_rfl) ?_
 refine TI.done (by kernel_rfl) ?_
 refine NX.sq ?_
 refine TS.block' (id := 0) (x := c18.s2.s2.s2.s1.s2.bd) (by kernel_rfl) ?_
 have hcount : (leftOf arr #[]).toList.countP root = 1 := by
  rw [left_all]
  have : arr.toList.countP root = (arr.toList.map (fun e => (e.key, e.val))).countP rootP := by rw [List.countP_map]; rfl
  exact this.trans ((congrArg (List.countP rootP) hkv).trans (by kernel_rfl : List.countP rootP ES = 1))
 refine TS.loop' (x := c18.s2.s2.s2.s1.s2.bd.bd) (by kernel_rfl) (TL.post (loop arr clock hkv hst ((leftOf arr #[]).size + 1) #[] 0 (Nat.lt_succ_self _) (by rw [hcount]; rfl) (Int.le_refl 0)) ?_)
 rintro e a1 h1 hp
 obtain ⟨rfl, hw⟩ := hp
 refine ⟨(st 28 [(5, .int .i64 1)]), [.dead], ?_, hw⟩
 refine NX.bkX ?_
 refine NX.sq ?_
 refine TS.seq' (x := c18.s2.s2.s2.s2.s1) (y := c18.s2.s2.s2.s2.s2) (by kernel_rfl) ?_
 refine TS.region' (id := 10) (b := false) (ops := c18.s2.s2.s2.s2.s1.rops) (by kernel_rfl) rfl ?_
 refine TI.run 3 [2, 3] [] (a2 := (st 28 [(2, .int .i64 1), (3, .int .i64 0)])) (h2 := [.dead]) (by kernel_rfl) ?_
 refine TI.done (by kernel_rfl) ?_
 refine NX.sq ?_
 refine TS.ret' (by kernel_rfl) ?_
 exact ⟨.inr rfl, rfl, .tuple ⟨[.int .i64 1, .int .i64 0]⟩, by kernel_rfl, WkV.flat0 (by kernel_rfl) (Nat.le_of_ble_eq_true rfl)⟩
theorem ok : PureSim Try.prog 18 [.agg ⟨[.int .i64 3, .int .i64 2, .slice (some (Addr.mk 0 0 none)) 4 18446744073709551616]⟩] [.cells 57 [(.int .i64 0), (.int .i64 15), (.int .i64 1), (.int .i64 23), (.int .i64 2), (.int .i64 16), (.int .i64 3), (.int .i64 24)]] (.tuple ⟨[.int .i64 1, .int .i64 0]⟩) [] :=
 PureSim.of_Fin Try.func18 (c := c18) (by kernel_rfl) (by kernel_rfl) 1 rfl [0] [0] (by kernel_rfl) body
end R
namespace U
def p23 : Entry := ⟨23, [.agg ⟨[.int .i64 3, .int .i64 2, .slice (some (Addr.mk 0 0 none)) 4 18446744073709551616]⟩], [.cells 57 [(.int .i64 0), (.int .i64 15), (.int .i64 1), (.int .i64 23), (.int .i64 2), (.int .i64 16), (.int .i64 5), (.int .i64 99)], .cells 24 [.int .i64 3, .int .i64 2, .slice (some (Addr.mk 0 0 none)) 4 18446744073709551616]], .int .i64 0, []⟩
def p49 : Entry := ⟨49, [.agg ⟨[.int .i64 3, .int .i64 2, .slice (some (Addr.mk 0 0 none)) 4 18446744073709551616]⟩], [.cells 57 [(.int .i64 0), (.int .i64 15), (.int .i64 1), (.int .i64 23), (.int .i64 2), (.int .i64 16), (.int .i64 5), (.int .i64 99)], .cells 24 [.int .i64 3, .int .i64 2, .slice (some (Addr.mk 0 0 none)) 4 18446744073709551616]], .map (some 2), [.map 83 [(.agg ⟨[.int .i64 0, .int .i64 0]⟩, .agg ⟨[.int .i64 0, .int .i64 0, .int .i64 0, .int .i64 (-1), .int .i64 0, .int .i64 0]⟩), (.agg ⟨[.int .i64 1, .int .i64 0]⟩, .agg ⟨[.int .i64 0, .int .i64 0, .int .i64 15, .int .i64 0, .int .i64 0, .int .i64 0]⟩), (.agg ⟨[.int .i64 0, .int .i64 2]⟩, .agg ⟨[.int .i64 0, .int .i64 0, .int .i64 1, .int .i64 2, .int .i64 1, .int .i64 0]⟩), (.agg ⟨[.int .i64 1, .int .i64 1]⟩, .agg ⟨[.int .i64 0, .int .i64 0, .int .i64 98, .int .i64 3, .int .i64 0, .int .i64 2]⟩), (.agg ⟨[.int .i64 0, .int .i64 1]⟩, .agg ⟨[.int .i64 0, .int .i64 0, .int .i64 (-75), .int .i64 1, .int .i64 1, .int .i64 1]⟩)]]⟩
theorem p23_gives : gives ((run env0 3000).pcall p23.g p23.args p23.h) p23.v p23.new = true := by kernel_rfl
theorem p49_gives : gives ((run env0 3000).pcall p49.g p49.args p49.h) p49.v p49.new = true := by kernel_rfl
abbrev ES : List (Value × Value) := [(.agg ⟨[.int .i64 0, .int .i64 0]⟩, .agg ⟨[.int .i64 0, .int .i64 0, .int .i64 0, .int .i64 (-1), .int .i64 0, .int .i64 0]⟩), (.agg ⟨[.int .i64 1, .int .i64 0]⟩, .agg ⟨[.int .i64 0, .int .i64 0, .int .i64 15, .int .i64 0, .int .i64 0, .int .i64 0]⟩), (.agg ⟨[.int .i64 0, .int .i64 2]⟩, .agg ⟨[.int .i64 0, .int .i64 0, .int .i64 1, .int .i64 2, .int .i64 1, .int .i64 0]⟩), (.agg ⟨[.int .i64 1, .int .i64 1]⟩, .agg ⟨[.int .i64 0, .int .i64 0, .int .i64 98, .int .i64 3, .int .i64 0, .int .i64 2]⟩), (.agg ⟨[.int .i64 0, .int .i64 1]⟩, .agg ⟨[.int .i64 0, .int .i64 0, .int .i64 (-75), .int .i64 1, .int .i64 1, .int .i64 1]⟩)]
theorem loop (arr : Array MapEntry) (clock : Nat) (hkv : arr.toList.map (fun e => (e.key, e.val)) = ES) (hst : Stamped arr clock) : ∀ (m : Nat) (seen : Array Nat) (c : Int), (leftOf arr seen).size < m → c + (leftOf arr seen).toList.countP root = 1 → 0 ≤ c →
 TL Try.prog 1 1 c18.s2.s2.s2.s1.s2.bd.bd (st 28 [(5, .int .i64 c), (15, .pointer (some ⟨3, 0, none⟩))]) [.dead, .dead, .mapS 83 arr clock, .iter 2 clock seen clock] fun e a h => e = .exit 0 ∧ Wk Try.prog 1 1 a h (st 28 [(5, .int .i64 1)]) [.dead] := by
 intro m
 induction m with
 | zero => intro seen c hm; omega
 | succ m ih =>
  intro seen c hm hc h0c
  refine TL.round ?_
  refine TS.seq' (x := c18.s2.s2.s2.s1.s2.bd.bd.s1) (y := c18.s2.s2.s2.s1.s2.bd.bd.s2) (by kernel_rfl) ?_
  refine TS.region' (id := 6) (b := false) (ops := c18.s2.s2.s2.s1.s2.bd.bd.s1.rops) (by kernel_rfl) rfl ?_
  refine TI.next (it := .tmp 15) (i := 3) (m := 2) (since := clock) (last := clock) (seen := seen) (arr := arr) (clock := clock) (kt := 83) (by kernel_rfl) (by kernel_rfl) (by decide) (by kernel_rfl) (by kernel_rfl) hst.1 (Nat.le_refl _) (fun h0 => ?_) (fun e he => ?_)
  · have hz : (leftOf arr seen).toList.countP root = 0 := by
     have : (leftOf arr seen).toList = [] := List.length_eq_zero_iff.1 (by rw [Array.length_toList]; exact h0)
     rw [this]; rfl
    have hcc : c = 1 := by omega
    subst hcc
    refine TI.run 1 [5, 17] [] (a2 := (st 28 [(5, .int .i64 1), (17, .bool false)])) (h2 := [.dead, .dead, .dead, .dead]) (by kernel_rfl) ?_
    refine TI.done (by kernel_rfl) ?_
    refine NX.sq ?_
    refine TS.seq' (x := c18.s2.s2.s2.s1.s2.bd.bd.s2.s1) (y := c18.s2.s2.s2.s1.s2.bd.bd.s2.s2) (by kernel_rfl) ?_
    refine TS.condF' (o := (.tmp 17)) (x := c18.s2.s2.s2.s1.s2.bd.bd.s2.s1.th) (y := c18.s2.s2.s2.s1.s2.bd.bd.s2.s1.el) (by kernel_rfl) (by kernel_rfl) ?_
    refine TS.exit' (id := 0) (by kernel_rfl) ?_
    refine NX.sqX ?_
    exact Rd.out (e := .exit 0) (by intro h; cases h) (And.intro rfl (Wk.anew (base := 1) (L := 1) (f := []) (by decide) (by decide) (Nat.le_of_ble_eq_true rfl) rfl (.cons (.inl rfl) (.nil _)) (LRn.stx [5] [.int .i64 1] [.int .i64 1] (.cons (.flat (by kernel_rfl)) .nil) (by kernel_rfl) (by kernel_rfl) rfl) rfl rfl))
  have hem := left_mem he
  have hcnt := left_count (p := root) hst.2 he
  have hless := left_less he
  have hin : (e.key, e.val) ∈ ES := by rw [← hkv]; exact List.mem_map.2 ⟨e, hem, rfl⟩
  simp only [ES, List.mem_cons, List.not_mem_nil, or_false, Prod.mk.injEq] at hin
  have hcb : c ≤ 1 := by omega
  rcases hin with ⟨hk, hv⟩ | ⟨hk, hv⟩ | ⟨hk, hv⟩ | ⟨hk, hv⟩ | ⟨hk, hv⟩
  · have hr : root e = true := by rw [root, hk, hv]; kernel_rfl
    refine TI.run 1 [5, 15, 17] [2, 3] (a2 := (st 28 [(5, .int .i64 c), (15, .pointer (some ⟨3, 0, none⟩)), (17, .bool true)])) (h2 := [.dead, .dead, .mapS 83 arr clock, .iter 2 clock (seen.push e.born) clock]) (by kernel_rfl) ?_
    refine TI.done (by kernel_rfl) ?_
    refine NX.sq ?_
    refine TS.seq' (x := c18.s2.s2.s2.s1.s2.bd.bd.s2.s1) (y := c18.s2.s2.s2.s1.s2.bd.bd.s2.s2) (by kernel_rfl) ?_
    refine TS.condT' (o := (.tmp 17)) (x := c18.s2.s2.s2.s1.s2.bd.bd.s2.s1.th) (y := c18.s2.s2.s2.s1.s2.bd.bd.s2.s1.el) (by kernel_rfl) (by kernel_rfl) ?_
    refine TS.skip' (by kernel_rfl) ?_
    refine NX.sq ?_
    refine TS.block' (id := 1) (x := c18.s2.s2.s2.s1.s2.bd.bd.s2.s2.bd) (by kernel_rfl) ?_
    refine TS.seq' (x := c18.s2.s2.s2.s1.s2.bd.bd.s2.s2.bd.s1) (y := c18.s2.s2.s2.s1.s2.bd.bd.s2.s2.bd.s2) (by kernel_rfl) ?_
    refine TS.region' (id := 7) (b := false) (ops := c18.s2.s2.s2.s1.s2.bd.bd.s2.s2.bd.s1.rops) (by kernel_rfl) rfl ?_
    refine TI.entry (it := .tmp 15) (i := 3) (m := 2) (since := clock) (seen := seen) (arr := arr) (clock := clock) (kt := 83) (e := e) (by kernel_rfl) (by kernel_rfl) (by kernel_rfl) (by kernel_rfl) hem hst.2 (a1 := putAt c18.s2.s2.s2.s1.s2.bd.bd.s2.s2.bd.s1.rops 0 (st 28 [(5, .int .i64 c), (15, .pointer (some ⟨3, 0, none⟩)), (17, .bool true)]) (.tuple #[.agg ⟨[.int .i64 0, .int .i64 0]⟩, .agg ⟨[.int .i64 0, .int .i64 0, .int .i64 0, .int .i64 (-1), .int .i64 0, .int .i64 0]⟩])) (by rw [hk, hv]) ?_
    refine TI.run 6 [5, 6, 7, 15] [2, 3, 4, 5] (a2 := (st 28 [(5, .int .i64 c), (6, .pointer (some ⟨4, 0, none⟩)), (7, .pointer (some ⟨5, 0, none⟩)), (15, .pointer (some ⟨3, 0, none⟩))])) (h2 := [.dead, .dead, .mapS 83 arr clock, .iter 2 clock (seen.push e.born) clock, .cells 83 [.int .i64 0, .int .i64 0], .cells 85 [.int .i64 0, .int .i64 0, .int .i64 0, .int .i64 (-1), .int .i64 0, .int .i64 0]]) (by kernel_rfl) ?_
    refine TI.done (by kernel_rfl) ?_
    refine NX.sq ?_
    refine TS.seq' (x := c18.s2.s2.s2.s1.s2.bd.bd.s2.s2.bd.s2.s1) (y := c18.s2.s2.s2.s1.s2.bd.bd.s2.s2.bd.s2.s2) (by kernel_rfl) ?_
    refine TS.region' (id := 8) (b := false) (ops := c18.s2.s2.s2.s1.s2.bd.bd.s2.s2.bd.s2.s1.rops) (by kernel_rfl) rfl ?_
    refine TI.run 4 [5, 15, 24] [2, 3] (a2 := (st 28 [(5, .int .i64 c), (15, .pointer (some ⟨3, 0, none⟩)), (24, .bool true)])) (h2 := [.dead, .dead, .mapS 83 arr clock, .iter 2 clock (seen.push e.born) clock, .dead, .dead]) (by kernel_rfl) ?_
    refine TI.done (by kernel_rfl) ?_
    refine NX.sq ?_
    refine TS.condT' (o := (.tmp 24)) (x := c18.s2.s2.s2.s1.s2.bd.bd.s2.s2.bd.s2.s2.th) (y := c18.s2.s2.s2.s1.s2.bd.bd.s2.s2.bd.s2.s2.el) (by kernel_rfl) (by kernel_rfl) ?_
    refine TS.region' (id := 9) (b := false) (ops := c18.s2.s2.s2.s1.s2.bd.bd.s2.s2.bd.s2.s2.th.rops) (by kernel_rfl) rfl ?_
    refine TI.run 3 [5, 15] [2, 3] (a2 := (st 28 [(5, .int .i64 (w64 (c + 1))), (15, .pointer (some ⟨3, 0, none⟩))])) (h2 := [.dead, .dead, .mapS 83 arr clock, .iter 2 clock (seen.push e.born) clock, .dead, .dead]) (by kernel_rfl) ?_
    refine TI.done (by kernel_rfl) ?_
    refine NX.bk ?_
    exact Rd.again (Wk.anew (base := 1) (L := 1) (f := [1, 2, 3]) (by decide) (by decide) (Nat.le_of_ble_eq_true rfl) rfl (.cons (.inl rfl) (.cons (.inl rfl) (.cons (At.blk (by kernel_rfl) (RnB.mapS _ _ _)) (.cons (At.blk (by kernel_rfl) (RnB.iter _ _ _ _ (Nat.le_of_ble_eq_true rfl))) (.nil _))))) (LRn.stx [5, 15] [.int .i64 (w64 (c + 1)), .pointer (some ⟨3, 0, none⟩)] [.int .i64 (w64 (c + 1)), .pointer (some ⟨3, 0, none⟩)] (.cons (.flat (by kernel_rfl)) (.cons (Rn.ptr _ _ _ (Nat.le_of_ble_eq_true rfl) rfl) .nil)) (by kernel_rfl) (by kernel_rfl) rfl) rfl rfl) (ih (seen.push e.born) (w64 (c + 1)) (by omega) (by rw [w64_in (by omega) (by omega)]; rw [hr] at hcnt; simp only [if_true] at hcnt; omega) (by rw [w64_in (by omega) (by omega)]; omega))
  · have hr : root e = false := by rw [root, hk, hv]; kernel_rfl
    refine TI.run 1 [5, 15, 17] [2, 3] (a2 := (st 28 [(5, .int .i64 c), (15, .pointer (some ⟨3, 0, none⟩)), (17, .bool true)])) (h2 := [.dead, .dead, .mapS 83 arr clock, .iter 2 clock (seen.push e.born) clock]) (by kernel_rfl) ?_
    refine TI.done (by kernel_rfl) ?_
    refine NX.sq ?_
    refine TS.seq' (x := c18.s2.s2.s2.s1.s2.bd.bd.s2.s1) (y := c18.s2.s2.s2.s1.s2.bd.bd.s2.s2) (by kernel_rfl) ?_
    refine TS.condT' (o := (.tmp 17)) (x := c18.s2.s2.s2.s1.s2.bd.bd.s2.s1.th) (y := c18.s2.s2.s2.s1.s2.bd.bd.s2.s1.el) (by kernel_rfl) (by kernel_rfl) ?_
    refine TS.skip' (by kernel_rfl) ?_
    refine NX.sq ?_
    refine TS.block' (id := 1) (x := c18.s2.s2.s2.s1.s2.bd.bd.s2.s2.bd) (by kernel_rfl) ?_
    refine TS.seq' (x := c18.s2.s2.s2.s1.s2.bd.bd.s2.s2.bd.s1) (y := c18.s2.s2.s2.s1.s2.bd.bd.s2.s2.bd.s2) (by kernel_rfl) ?_
    refine TS.region' (id := 7) (b := false) (ops := c18.s2.s2.s2.s1.s2.bd.bd.s2.s2.bd.s1.rops) (by kernel_rfl) rfl ?_
    refine TI.entry (it := .tmp 15) (i := 3) (m := 2) (since := clock) (seen := seen) (arr := arr) (clock := clock) (kt := 83) (e := e) (by kernel_rfl) (by kernel_rfl) (by kernel_rfl) (by kernel_rfl) hem hst.2 (a1 := putAt c18.s2.s2.s2.s1.s2.bd.bd.s2.s2.bd.s1.rops 0 (st 28 [(5, .int .i64 c), (15, .pointer (some ⟨3, 0, none⟩)), (17, .bool true)]) (.tuple #[.agg ⟨[.int .i64 1, .int .i64 0]⟩, .agg ⟨[.int .i64 0, .int .i64 0, .int .i64 15, .int .i64 0, .int .i64 0, .int .i64 0]⟩])) (by rw [hk, hv]) ?_
    refine TI.run 6 [5, 6, 7, 15] [2, 3, 4, 5] (a2 := (st 28 [(5, .int .i64 c), (6, .pointer (some ⟨4, 0, none⟩)), (7, .pointer (some ⟨5, 0, none⟩)), (15, .pointer (some ⟨3, 0, none⟩))])) (h2 := [.dead, .dead, .mapS 83 arr clock, .iter 2 clock (seen.push e.born) clock, .cells 83 [.int .i64 1, .int .i64 0], .cells 85 [.int .i64 0, .int .i64 0, .int .i64 15, .int .i64 0, .int .i64 0, .int .i64 0]]) (by kernel_rfl) ?_
    refine TI.done (by kernel_rfl) ?_
    refine NX.sq ?_
    refine TS.seq' (x := c18.s2.s2.s2.s1.s2.bd.bd.s2.s2.bd.s2.s1) (y := c18.s2.s2.s2.s1.s2.bd.bd.s2.s2.bd.s2.s2) (by kernel_rfl) ?_
    refine TS.region' (id := 8) (b := false) (ops := c18.s2.s2.s2.s1.s2.bd.bd.s2.s2.bd.s2.s1.rops) (by kernel_rfl) rfl ?_
    refine TI.run 4 [5, 15, 24] [2, 3] (a2 := (st 28 [(5, .int .i64 c), (15, .pointer (some ⟨3, 0, none⟩)), (24, .bool false)])) (h2 := [.dead, .dead, .mapS 83 arr clock, .iter 2 clock (seen.push e.born) clock, .dead, .dead]) (by kernel_rfl) ?_
    refine TI.done (by kernel_rfl) ?_
    refine NX.sq ?_
    refine TS.condF' (o := (.tmp 24)) (x := c18.s2.s2.s2.s1.s2.bd.bd.s2.s2.bd.s2.s2.th) (y := c18.s2.s2.s2.s1.s2.bd.bd.s2.s2.bd.s2.s2.el) (by kernel_rfl) (by kernel_rfl) ?_
    refine TS.skip' (by kernel_rfl) ?_
    refine NX.bk ?_
    exact Rd.again (Wk.anew (base := 1) (L := 1) (f := [1, 2, 3]) (by decide) (by decide) (Nat.le_of_ble_eq_true rfl) rfl (.cons (.inl rfl) (.cons (.inl rfl) (.cons (At.blk (by kernel_rfl) (RnB.mapS _ _ _)) (.cons (At.blk (by kernel_rfl) (RnB.iter _ _ _ _ (Nat.le_of_ble_eq_true rfl))) (.nil _))))) (LRn.stx [5, 15] [.int .i64 c, .pointer (some ⟨3, 0, none⟩)] [.int .i64 c, .pointer (some ⟨3, 0, none⟩)] (.cons (.flat (by kernel_rfl)) (.cons (Rn.ptr _ _ _ (Nat.le_of_ble_eq_true rfl) rfl) .nil)) (by kernel_rfl) (by kernel_rfl) rfl) rfl rfl) (ih (seen.push e.born) c (by omega) (by rw [hr] at hcnt; simp only [Bool.false_eq_true, if_false] at hcnt; omega) h0c)
  · have hr : root e = false := by rw [root, hk, hv]; kernel_rfl
    refine TI.run 1 [5, 15, 17] [2, 3] (a2 := (st 28 [(5, .int .i64 c), (15, .pointer (some ⟨3, 0, none⟩)), (17, .bool true)])) (h2 := [.dead, .dead, .mapS 83 arr clock, .iter 2 clock (seen.push e.born) clock]) (by kernel_rfl) ?_
    refine TI.done (by kernel_rfl) ?_
    refine NX.sq ?_
    refine TS.seq' (x := c18.s2.s2.s2.s1.s2.bd.bd.s2.s1) (y := c18.s2.s2.s2.s1.s2.bd.bd.s2.s2) (by kernel_rfl) ?_
    refine TS.condT' (o := (.tmp 17)) (x := c18.s2.s2.s2.s1.s2.bd.bd.s2.s1.th) (y := c18.s2.s2.s2.s1.s2.bd.bd.s2.s1.el) (by kernel_rfl) (by kernel_rfl) ?_
    refine TS.skip' (by kernel_rfl) ?_
    refine NX.sq ?_
    refine TS.block' (id := 1) (x := c18.s2.s2.s2.s1.s2.bd.bd.s2.s2.bd) (by kernel_rfl) ?_
    refine TS.seq' (x := c18.s2.s2.s2.s1.s2.bd.bd.s2.s2.bd.s1) (y := c18.s2.s2.s2.s1.s2.bd.bd.s2.s2.bd.s2) (by kernel_rfl) ?_
    refine TS.region' (id := 7) (b := false) (ops := c18.s2.s2.s2.s1.s2.bd.bd.s2.s2.bd.s1.rops) (by kernel_rfl) rfl ?_
    refine TI.entry (it := .tmp 15) (i := 3) (m := 2) (since := clock) (seen := seen) (arr := arr) (clock := clock) (kt := 83) (e := e) (by kernel_rfl) (by kernel_rfl) (by kernel_rfl) (by kernel_rfl) hem hst.2 (a1 := putAt c18.s2.s2.s2.s1.s2.bd.bd.s2.s2.bd.s1.rops 0 (st 28 [(5, .int .i64 c), (15, .pointer (some ⟨3, 0, none⟩)), (17, .bool true)]) (.tuple #[.agg ⟨[.int .i64 0, .int .i64 2]⟩, .agg ⟨[.int .i64 0, .int .i64 0, .int .i64 1, .int .i64 2, .int .i64 1, .int .i64 0]⟩])) (by rw [hk, hv]) ?_
    refine TI.run 6 [5, 6, 7, 15] [2, 3, 4, 5] (a2 := (st 28 [(5, .int .i64 c), (6, .pointer (some ⟨4, 0, none⟩)), (7, .pointer (some ⟨5, 0, none⟩)), (15, .pointer (some ⟨3, 0, none⟩))])) (h2 := [.dead, .dead, .mapS 83 arr clock, .iter 2 clock (seen.push e.born) clock, .cells 83 [.int .i64 0, .int .i64 2], .cells 85 [.int .i64 0, .int .i64 0, .int .i64 1, .int .i64 2, .int .i64 1, .int .i64 0]]) (by kernel_rfl) ?_
    refine TI.done (by kernel_rfl) ?_
    refine NX.sq ?_
    refine TS.seq' (x := c18.s2.s2.s2.s1.s2.bd.bd.s2.s2.bd.s2.s1) (y := c18.s2.s2.s2.s1.s2.bd.bd.s2.s2.bd.s2.s2) (by kernel_rfl) ?_
    refine TS.region' (id := 8) (b := false) (ops := c18.s2.s2.s2.s1.s2.bd.bd.s2.s2.bd.s2.s1.rops) (by kernel_rfl) rfl ?_
    refine TI.run 4 [5, 15, 24] [2, 3] (a2 := (st 28 [(5, .int .i64 c), (15, .pointer (some ⟨3, 0, none⟩)), (24, .bool false)])) (h2 := [.dead, .dead, .mapS 83 arr clock, .iter 2 clock (seen.push e.born) clock, .dead, .dead]) (by kernel_rfl) ?_
    refine TI.done (by kernel_rfl) ?_
    refine NX.sq ?_
    refine TS.condF' (o := (.tmp 24)) (x := c18.s2.s2.s2.s1.s2.bd.bd.s2.s2.bd.s2.s2.th) (y := c18.s2.s2.s2.s1.s2.bd.bd.s2.s2.bd.s2.s2.el) (by kernel_rfl) (by kernel_rfl) ?_
    refine TS.skip' (by kernel_rfl) ?_
    refine NX.bk ?_
    exact Rd.again (Wk.anew (base := 1) (L := 1) (f := [1, 2, 3]) (by decide) (by decide) (Nat.le_of_ble_eq_true rfl) rfl (.cons (.inl rfl) (.cons (.inl rfl) (.cons (At.blk (by kernel_rfl) (RnB.mapS _ _ _)) (.cons (At.blk (by kernel_rfl) (RnB.iter _ _ _ _ (Nat.le_of_ble_eq_true rfl))) (.nil _))))) (LRn.stx [5, 15] [.int .i64 c, .pointer (some ⟨3, 0, none⟩)] [.int .i64 c, .pointer (some ⟨3, 0, none⟩)] (.cons (.flat (by kernel_rfl)) (.cons (Rn.ptr _ _ _ (Nat.le_of_ble_eq_true rfl) rfl) .nil)) (by kernel_rfl) (by kernel_rfl) rfl) rfl rfl) (ih (seen.push e.born) c (by omega) (by rw [hr] at hcnt; simp only [Bool.false_eq_true, if_false] at hcnt; omega) h0c)
  · have hr : root e = false := by rw [root, hk, hv]; kernel_rfl
    refine TI.run 1 [5, 15, 17] [2, 3] (a2 := (st 28 [(5, .int .i64 c), (15, .pointer (some ⟨3, 0, none⟩)), (17, .bool true)])) (h2 := [.dead, .dead, .mapS 83 arr clock, .iter 2 clock (seen.push e.born) clock]) (by kernel_rfl) ?_
    refine TI.done (by kernel_rfl) ?_
    refine NX.sq ?_
    refine TS.seq' (x := c18.s2.s2.s2.s1.s2.bd.bd.s2.s1) (y := c18.s2.s2.s2.s1.s2.bd.bd.s2.s2) (by kernel_rfl) ?_
    refine TS.condT' (o := (.tmp 17)) (x := c18.s2.s2.s2.s1.s2.bd.bd.s2.s1.th) (y := c18.s2.s2.s2.s1.s2.bd.bd.s2.s1.el) (by kernel_rfl) (by kernel_rfl) ?_
    refine TS.skip' (by kernel_rfl) ?_
    refine NX.sq ?_
    refine TS.block' (id := 1) (x := c18.s2.s2.s2.s1.s2.bd.bd.s2.s2.bd) (by kernel_rfl) ?_
    refine TS.seq' (x := c18.s2.s2.s2.s1.s2.bd.bd.s2.s2.bd.s1) (y := c18.s2.s2.s2.s1.s2.bd.bd.s2.s2.bd.s2) (by kernel_rfl) ?_
    refine TS.region' (id := 7) (b := false) (ops := c18.s2.s2.s2.s1.s2.bd.bd.s2.s2.bd.s1.rops) (by kernel_rfl) rfl ?_
    refine TI.entry (it := .tmp 15) (i := 3) (m := 2) (since := clock) (seen := seen) (arr := arr) (clock := clock) (kt := 83) (e := e) (by kernel_rfl) (by kernel_rfl) (by kernel_rfl) (by kernel_rfl) hem hst.2 (a1 := putAt c18.s2.s2.s2.s1.s2.bd.bd.s2.s2.bd.s1.rops 0 (st 28 [(5, .int .i64 c), (15, .pointer (some ⟨3, 0, none⟩)), (17, .bool true)]) (.tuple #[.agg ⟨[.int .i64 1, .int .i64 1]⟩, .agg ⟨[.int .i64 0, .int .i64 0, .int .i64 98, .int .i64 3, .int .i64 0, .int .i64 2]⟩])) (by rw [hk, hv]) ?_
    refine TI.run 6 [5, 6, 7, 15] [2, 3, 4, 5] (a2 := (st 28 [(5, .int .i64 c), (6, .pointer (some ⟨4, 0, none⟩)), (7, .pointer (some ⟨5, 0, none⟩)), (15, .pointer (some ⟨3, 0, none⟩))])) (h2 := [.dead, .dead, .mapS 83 arr clock, .iter 2 clock (seen.push e.born) clock, .cells 83 [.int .i64 1, .int .i64 1], .cells 85 [.int .i64 0, .int .i64 0, .int .i64 98, .int .i64 3, .int .i64 0, .int .i64 2]]) (by kernel_rfl) ?_
    refine TI.done (by kernel_rfl) ?_
    refine NX.sq ?_
    refine TS.seq' (x := c18.s2.s2.s2.s1.s2.bd.bd.s2.s2.bd.s2.s1) (y := c18.s2.s2.s2.s1.s2.bd.bd.s2.s2.bd.s2.s2) (by kernel_rfl) ?_
    refine TS.region' (id := 8) (b := false) (ops := c18.s2.s2.s2.s1.s2.bd.bd.s2.s2.bd.s2.s1.rops) (by kernel_rfl) rfl ?_
    refine TI.run 4 [5, 15, 24] [2, 3] (a2 := (st 28 [(5, .int .i64 c), (15, .pointer (some ⟨3, 0, none⟩)), (24, .bool false)])) (h2 := [.dead, .dead, .mapS 83 arr clock, .iter 2 clock (seen.push e.born) clock, .dead, .dead]) (by kernel_rfl) ?_
    refine TI.done (by kernel_rfl) ?_
    refine NX.sq ?_
    refine TS.condF' (o := (.tmp 24)) (x := c18.s2.s2.s2.s1.s2.bd.bd.s2.s2.bd.s2.s2.th) (y := c18.s2.s2.s2.s1.s2.bd.bd.s2.s2.bd.s2.s2.el) (by kernel_rfl) (by kernel_rfl) ?_
    refine TS.skip' (by kernel_rfl) ?_
    refine NX.bk ?_
    exact Rd.again (Wk.anew (base := 1) (L := 1) (f := [1, 2, 3]) (by decide) (by decide) (Nat.le_of_ble_eq_true rfl) rfl (.cons (.inl rfl) (.cons (.inl rfl) (.cons (At.blk (by kernel_rfl) (RnB.mapS _ _ _)) (.cons (At.blk (by kernel_rfl) (RnB.iter _ _ _ _ (Nat.le_of_ble_eq_true rfl))) (.nil _))))) (LRn.stx [5, 15] [.int .i64 c, .pointer (some ⟨3, 0, none⟩)] [.int .i64 c, .pointer (some ⟨3, 0, none⟩)] (.cons (.flat (by kernel_rfl)) (.cons (Rn.ptr _ _ _ (Nat.le_of_ble_eq_true rfl) rfl) .nil)) (by kernel_rfl) (by kernel_rfl) rfl) rfl rfl) (ih (seen.push e.born) c (by omega) (by rw [hr] at hcnt; simp only [Bool.false_eq_true, if_false] at hcnt; omega) h0c)
  have hr : root e = false := by rw [root, hk, hv]; kernel_rfl
  refine TI.run 1 [5, 15, 17] [2, 3] (a2 := (st 28 [(5, .int .i64 c), (15, .pointer (some ⟨3, 0, none⟩)), (17, .bool true)])) (h2 := [.dead, .dead, .mapS 83 arr clock, .iter 2 clock (seen.push e.born) clock]) (by kernel_rfl) ?_
  refine TI.done (by kernel_rfl) ?_
  refine NX.sq ?_
  refine TS.seq' (x := c18.s2.s2.s2.s1.s2.bd.bd.s2.s1) (y := c18.s2.s2.s2.s1.s2.bd.bd.s2.s2) (by kernel_rfl) ?_
  refine TS.condT' (o := (.tmp 17)) (x := c18.s2.s2.s2.s1.s2.bd.bd.s2.s1.th) (y := c18.s2.s2.s2.s1.s2.bd.bd.s2.s1.el) (by kernel_rfl) (by kernel_rfl) ?_
  refine TS.skip' (by kernel_rfl) ?_
  refine NX.sq ?_
  refine TS.block' (id := 1) (x := c18.s2.s2.s2.s1.s2.bd.bd.s2.s2.bd) (by kernel_rfl) ?_
  refine TS.seq' (x := c18.s2.s2.s2.s1.s2.bd.bd.s2.s2.bd.s1) (y := c18.s2.s2.s2.s1.s2.bd.bd.s2.s2.bd.s2) (by kernel_rfl) ?_
  refine TS.region' (id := 7) (b := false) (ops := c18.s2.s2.s2.s1.s2.bd.bd.s2.s2.bd.s1.rops) (by kernel_rfl) rfl ?_
  refine TI.entry (it := .tmp 15) (i := 3) (m := 2) (since := clock) (seen := seen) (arr := arr) (clock := clock) (kt := 83) (e := e) (by kernel_rfl) (by kernel_rfl) (by kernel_rfl) (by kernel_rfl) hem hst.2 (a1 := putAt c18.s2.s2.s2.s1.s2.bd.bd.s2.s2.bd.s1.rops 0 (st 28 [(5, .int .i64 c), (15, .pointer (some ⟨3, 0, none⟩)), (17, .bool true)]) (.tuple #[.agg ⟨[.int .i64 0, .int .i64 1]⟩, .agg ⟨[.int .i64 0, .int .i64 0, .int .i64 (-75), .int .i64 1, .int .i64 1, .int .i64 1]⟩])) (by rw [hk, hv]) ?_
  refine TI.run 6 [5, 6, 7, 15] [2, 3, 4, 5] (a2 := (st 28 [(5, .int .i64 c), (6, .pointer (some ⟨4, 0, none⟩)), (7, .pointer (some ⟨5, 0, none⟩)), (15, .pointer (some ⟨3, 0, none⟩))])) (h2 := [.dead, .dead, .mapS 83 arr clock, .iter 2 clock (seen.push e.born) clock, .cells 83 [.int .i64 0, .int .i64 1], .cells 85 [.int .i64 0, .int .i64 0, .int .i64 (-75), .int .i64 1, .int .i64 1, .int .i64 1]]) (by kernel_rfl) ?_
  refine TI.done (by kernel_rfl) ?_
  refine NX.sq ?_
  refine TS.seq' (x := c18.s2.s2.s2.s1.s2.bd.bd.s2.s2.bd.s2.s1) (y := c18.s2.s2.s2.s1.s2.bd.bd.s2.s2.bd.s2.s2) (by kernel_rfl) ?_
  refine TS.region' (id := 8) (b := false) (ops := c18.s2.s2.s2.s1.s2.bd.bd.s2.s2.bd.s2.s1.rops) (by kernel_rfl) rfl ?_
  refine TI.run 4 [5, 15, 24] [2, 3] (a2 := (st 28 [(5, .int .i64 c), (15, .pointer (some ⟨3, 0, none⟩)), (24, .bool false)])) (h2 := [.dead, .dead, .mapS 83 arr clock, .iter 2 clock (seen.push e.born) clock, .dead, .dead]) (by kernel_rfl) ?_
  refine TI.done (by kernel_rfl) ?_
  refine NX.sq ?_
  refine TS.condF' (o := (.tmp 24)) (x := c18.s2.s2.s2.s1.s2.bd.bd.s2.s2.bd.s2.s2.th) (y := c18.s2.s2.s2.s1.s2.bd.bd.s2.s2.bd.s2.s2.el) (by kernel_rfl) (by kernel_rfl) ?_
  refine TS.skip' (by kernel_rfl) ?_
  refine NX.bk ?_
  exact Rd.again (Wk.anew (base := 1) (L := 1) (f := [1, 2, 3]) (by decide) (by decide) (Nat.le_of_ble_eq_true rfl) rfl (.cons (.inl rfl) (.cons (.inl rfl) (.cons (At.blk (by kernel_rfl) (RnB.mapS _ _ _)) (.cons (At.blk (by kernel_rfl) (RnB.iter _ _ _ _ (Nat.le_of_ble_eq_true rfl))) (.nil _))))) (LRn.stx [5, 15] [.int .i64 c, .pointer (some ⟨3, 0, none⟩)] [.int .i64 c, .pointer (some ⟨3, 0, none⟩)] (.cons (.flat (by kernel_rfl)) (.cons (Rn.ptr _ _ _ (Nat.le_of_ble_eq_true rfl) rfl) .nil)) (by kernel_rfl) (by kernel_rfl) rfl) rfl rfl) (ih (seen.push e.born) c (by omega) (by rw [hr] at hcnt; simp only [Bool.false_eq_true, if_false] at hcnt; omega) h0c)
theorem body : TS Try.prog 1 1 c18 (st 28 [(0, .agg ⟨[.int .i64 3, .int .i64 2, .slice (some (Addr.mk 0 0 none)) 4 18446744073709551616]⟩)]) [.cells 57 [(.int .i64 0), (.int .i64 15), (.int .i64 1), (.int .i64 23), (.int .i64 2), (.int .i64 16), (.int .i64 5), (.int .i64 99)]] (NX Try.prog 1 1 [] (FinP Try.prog Try.f18 1 (.tuple ⟨[.int .i64 1, .int .i64 0]⟩) [])) := by
 refine TS.seq' (x := c18.s1) (y := c18.s2) (by kernel_rfl) ?_
 refine TS.region' (id := 0) (b := false) (ops := c18.s1.rops) (by kernel_rfl) rfl ?_
 refine TI.run 3 [1] [0, 1] (a2 := (st 28 [(1, .pointer (some ⟨1, 0, none⟩))])) (h2 := [.cells 57 [(.int .i64 0), (.int .i64 15), (.int .i64 1), (.int .i64 23), (.int .i64 2), (.int .i64 16), (.int .i64 5), (.int .i64 99)], .cells 24 [.int .i64 3, .int .i64 2, .slice (some (Addr.mk 0 0 none)) 4 18446744073709551616]]) (by kernel_rfl) ?_
 refine TI.done (by kernel_rfl) ?_
 refine NX.sq ?_
 refine TS.seq' (x := c18.s2.s1) (y := c18.s2.s2) (by kernel_rfl) ?_
 refine TS.seq' (x := c18.s2.s1.s1) (y := c18.s2.s1.s2) (by kernel_rfl) ?_
 refine TS.region' (id := 1) (b := false) (ops := c18.s2.s1.s1.rops) (by kernel_rfl) rfl ?_
 refine TI.run 1 [1, 8] [0, 1] (a2 := (st 28 [(1, .pointer (some ⟨1, 0, none⟩)), (8, .agg ⟨[.int .i64 3, .int .i64 2, .slice (some (Addr.mk 0 0 none)) 4 18446744073709551616]⟩)])) (h2 := [.cells 57 [(.int .i64 0), (.int .i64 15), (.int .i64 1), (.int .i64 23), (.int .i64 2), (.int .i64 16), (.int .i64 5), (.int .i64 99)], .cells 24 [.int .i64 3, .int .i64 2, .slice (some (Addr.mk 0 0 none)) 4 18446744073709551616]]) (by kernel_rfl) ?_
 refine TI.callM (g := 23) (args := [.agg ⟨[.int .i64 3, .int .i64 2, .slice (some (Addr.mk 0 0 none)) 4 18446744073709551616]⟩]) (v := .int .i64 0) (new := []) (by kernel_rfl) (entry_ok (Cl.sumOk_none fun _ => rfl) mixed p23_gives) [1, 9] [0, 1] (a2 := (st 28 [(1, .pointer (some ⟨1, 0, none⟩)), (9, .int .i64 0)])) (h2 := [.cells 57 [(.int .i64 0), (.int .i64 15), (.int .i64 1), (.int .i64 23), (.int .i64 2), (.int .i64 16), (.int .i64 5), (.int .i64 99)], .cells 24 [.int .i64 3, .int .i64 2, .slice (some (Addr.mk 0 0 none)) 4 18446744073709551616]]) (by kernel_rfl) ?_
 refine TI.run 1 [1, 4] [0, 1] (a2 := (st 28 [(1, .pointer (some ⟨1, 0, none⟩)), (4, .int .i64 0)])) (h2 := [.cells 57 [(.int .i64 0), (.int .i64 15), (.int .i64 1), (.int .i64 23), (.int .i64 2), (.int .i64 16), (.int .i64 5), (.int .i64 99)], .cells 24 [.int .i64 3, .int .i64 2, .slice (some (Addr.mk 0 0 none)) 4 18446744073709551616]]) (by kernel_rfl) ?_
 refine TI.done (by kernel_rfl) ?_
 refine NX.sq ?_
 refine TS.seq' (x := c18.s2.s1.s2.s1) (y := c18.s2.s1.s2.s2) (by kernel_rfl) ?_
 refine TS.region' (id := 2) (b := false) (ops := c18.s2.s1.s2.s1.rops) (by kernel_rfl) rfl ?_
 refine TI.run 2 [1, 11] [0, 1] (a2 := (st 28 [(1, .pointer (some ⟨1, 0, none⟩)), (11, .bool false)])) (h2 := [.cells 57 [(.int .i64 0), (.int .i64 15), (.int .i64 1), (.int .i64 23), (.int .i64 2), (.int .i64 16), (.int .i64 5), (.int .i64 99)], .cells 24 [.int .i64 3, .int .i64 2, .slice (some (Addr.mk 0 0 none)) 4 18446744073709551616]]) (by kernel_rfl) ?_
 refine TI.done (by kernel_rfl) ?_
 refine NX.sq ?_
 refine TS.condF' (o := (.tmp 11)) (x := c18.s2.s1.s2.s2.th) (y := c18.s2.s1.s2.s2.el) (by kernel_rfl) (by kernel_rfl) ?_
 refine TS.skip' (by kernel_rfl) ?_
 refine NX.sq ?_
 refine TS.seq' (x := c18.s2.s2.s1) (y := c18.s2.s2.s2) (by kernel_rfl) ?_
 refine TS.region' (id := 4) (b := false) (ops := c18.s2.s2.s1.rops) (by kernel_rfl) rfl ?_
 refine TI.run 1 [1, 5] [0, 1] (a2 := (st 28 [(1, .pointer (some ⟨1, 0, none⟩)), (5, .int .i64 0)])) (h2 := [.cells 57 [(.int .i64 0), (.int .i64 15), (.int .i64 1), (.int .i64 23), (.int .i64 2), (.int .i64 16), (.int .i64 5), (.int .i64 99)], .cells 24 [.int .i64 3, .int .i64 2, .slice (some (Addr.mk 0 0 none)) 4 18446744073709551616]]) (by kernel_rfl) ?_
 refine TI.done (by kernel_rfl) ?_
 refine NX.sq ?_
 refine TS.seq' (x := c18.s2.s2.s2.s1) (y := c18.s2.s2.s2.s2) (by kernel_rfl) ?_
 refine TS.seq' (x := c18.s2.s2.s2.s1.s1) (y := c18.s2.s2.s2.s1.s2) (by kernel_rfl) ?_
 refine TS.region' (id := 5) (b := false) (ops := c18.s2.s2.s2.s1.s1.rops) (by kernel_rfl) rfl ?_
 refine TI.run 1 [5, 13] [0, 1] (a2 := (st 28 [(5, .int .i64 0), (13, .agg ⟨[.int .i64 3, .int .i64 2, .slice (some (Addr.mk 0 0 none)) 4 18446744073709551616]⟩)])) (h2 := [.cells 57 [(.int .i64 0), (.int .i64 15), (.int .i64 1), (.int .i64 23), (.int .i64 2), (.int .i64 16), (.int .i64 5), (.int .i64 99)], .cells 24 [.int .i64 3, .int .i64 2, .slice (some (Addr.mk 0 0 none)) 4 18446744073709551616]]) (by kernel_rfl) ?_
 refine TI.callM (g := 49) (args := [.agg ⟨[.int .i64 3, .int .i64 2, .slice (some (Addr.mk 0 0 none)) 4 18446744073709551616]⟩]) (v := .map (some 2)) (new := [.map 83 [(.agg ⟨[.int .i64 0, .int .i64 0]⟩, .agg ⟨[.int .i64 0, .int .i64 0, .int .i64 0, .int .i64 (-1), .int .i64 0, .int .i64 0]⟩), (.agg ⟨[.int .i64 1, .int .i64 0]⟩, .agg ⟨[.int .i64 0, .int .i64 0, .int .i64 15, .int .i64 0, .int .i64 0, .int .i64 0]⟩), (.agg ⟨[.int .i64 0, .int .i64 2]⟩, .agg ⟨[.int .i64 0, .int .i64 0, .int .i64 1, .int .i64 2, .int .i64 1, .int .i64 0]⟩), (.agg ⟨[.int .i64 1, .int .i64 1]⟩, .agg ⟨[.int .i64 0, .int .i64 0, .int .i64 98, .int .i64 3, .int .i64 0, .int .i64 2]⟩), (.agg ⟨[.int .i64 0, .int .i64 1]⟩, .agg ⟨[.int .i64 0, .int .i64 0, .int .i64 (-75), .int .i64 1, .int .i64 1, .int .i64 1]⟩)]]) (by kernel_rfl) (entry_ok (Cl.sumOk_none fun _ => rfl) mixed p49_gives) [5, 14] [2] (a2 := (st 28 [(5, .int .i64 0), (14, .map (some 2))])) (h2 := [.dead, .dead, .map 83 [(.agg ⟨[.int .i64 0, .int .i64 0]⟩, .agg ⟨[.int .i64 0, .int .i64 0, .int .i64 0, .int .i64 (-1), .int .i64 0, .int .i64 0]⟩), (.agg ⟨[.int .i64 1, .int .i64 0]⟩, .agg ⟨[.int .i64 0, .int .i64 0, .int .i64 15, .int .i64 0, .int .i64 0, .int .i64 0]⟩), (.agg ⟨[.int .i64 0, .int .i64 2]⟩, .agg ⟨[.int .i64 0, .int .i64 0, .int .i64 1, .int .i64 2, .int .i64 1, .int .i64 0]⟩), (.agg ⟨[.int .i64 1, .int .i64 1]⟩, .agg ⟨[.int .i64 0, .int .i64 0, .int .i64 98, .int .i64 3, .int .i64 0, .int .i64 2]⟩), (.agg ⟨[.int .i64 0, .int .i64 1]⟩, .agg ⟨[.int .i64 0, .int .i64 0, .int .i64 (-75), .int .i64 1, .int .i64 1, .int .i64 1]⟩)]]) (by kernel_rfl) ?_
 refine TO.stamp (k := 2) (kt := 83) (es := ES) (by kernel_rfl) fun arr clock hkv hfit hst => ?_
 refine TI.range (t := 76) (x := .tmp 14) (k := 83) (e := 85) (m := 2) (kt := 83) (arr := arr) (clock := clock) (by kernel_rfl) (by kernel_rfl) (by kernel_rfl) (by kernel_rfl) (h1 := [.dead, .dead, .mapS 83 arr clock, .iter 2 clock #[] clock]) rfl (by kernel_rfl) ?_
 refine TI.run 0 [5, 15] [2, 3] (a2 := (st 28 [(5, .int .i64 0), (15, .pointer (some ⟨3, 0, none⟩))])) (h2 := [.dead, .dead, .mapS 83 arr clock, .iter 2 clock #[] clock]) (by kernel_rfl) ?_
 refine TI.done (by kernel_rfl) ?_
 refine NX.sq ?_
 refine TS.block' (id := 0) (x := c18.s2.s2.s2.s1.s2.bd) (by kernel_rfl) ?_
 have hcount : (leftOf arr #[]).toList.countP root = 1 := by
  rw [left_all]
  have : arr.toList.countP root = (arr.toList.map (fun e => (e.key, e.val))).countP rootP := by rw [List.countP_map]; rfl
  exact this.trans ((congrArg (List.countP rootP) hkv).trans (by kernel_rfl : List.countP rootP ES = 1))
 refine TS.loop' (x := c18.s2.s2.s2.s1.s2.bd.bd) (by kernel_rfl) (TL.post (loop arr clock hkv hst ((leftOf arr #[]).size + 1) #[] 0 (Nat.lt_succ_self _) (by rw [hcount]; rfl) (Int.le_refl 0)) ?_)
 rintro e a1 h1 hp
 obtain ⟨rfl, hw⟩ := hp
 refine ⟨(st 28 [(5, .int .i64 1)]), [.dead], ?_, hw⟩
 refine NX.bkX ?_
 refine NX.sq ?_
 refine TS.seq' (x := c18.s2.s2.s2.s2.s1) (y := c18.s2.s2.s2.s2.s2) (by kernel_rfl) ?_
 refine TS.region' (id := 10) (b := false) (ops := c18.s2.s2.s2.s2.s1.rops) (by kernel_rfl) rfl ?_
 refine TI.run 3 [2, 3] [] (a2 := (st 28 [(2, .int .i64 1), (3, .int .i64 0)])) (h2 := [.dead]) (by kernel_rfl) ?_
 refine TI.done (by kernel_rfl) ?_
 refine NX.sq ?_
 refine TS.ret' (by kernel_rfl) ?_
 exact ⟨.inr rfl, rfl, .tuple ⟨[.int .i64 1, .int .i64 0]⟩, by kernel_rfl, WkV.flat0 (by kernel_rfl) (Nat.le_of_ble_eq_true rfl)⟩
theorem ok : PureSim Try.prog 18 [.agg ⟨[.int .i64 3, .int .i64 2, .slice (some (Addr.mk 0 0 none)) 4 18446744073709551616]⟩] [.cells 57 [(.int .i64 0), (.int .i64 15), (.int .i64 1), (.int .i64 23), (.int .i64 2), (.int .i64 16), (.int .i64 5), (.int .i64 99)]] (.tuple ⟨[.int .i64 1, .int .i64 0]⟩) [] :=
 PureSim.of_Fin Try.func18 (c := c18) (by kernel_rfl) (by kernel_rfl) 1 rfl [0] [0] (by kernel_rfl) body
end U
end Go.Proofs.Ytdekbjfjbbdjgaa.parts
