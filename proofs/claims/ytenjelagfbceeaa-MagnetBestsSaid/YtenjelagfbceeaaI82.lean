/- Sorting at most twelve choices. -/
import Derived.Test.YtenjelagfbceeaaI89
import Derived.Test.YtenjelagfbceeaaTs14
import Derived.KernelRfl
set_option linter.unusedVariables false
set_option maxRecDepth 100000
namespace Go.Proofs.Ytenjelagfbceeaa
open Go Go.Cl
theorem C89 (l : List (Int × Int)) (p1 p2 : Int) (r : List (Int × Int)) (hF : F89 l p1 p2 = some r) :
    ImpSim Try.prog 89 [anyV 0 (List.length l), .int .i64 p1, .int .i64 p2, .func (.func 83) ⟨[]⟩ ⟨[]⟩] 0 [.cells 27 (List.flatMap e27 l)] (.tuple #[]) [.cells 27 (List.flatMap e27 r)] := by
  refine ImpSim.of_TS (fn := Try.f89) (c := c89) (by kernel_rfl) (by kernel_rfl) (by kernel_rfl) (Nat.le_refl _) ?_
  exact TS.weak (a2 := st 53 [(0, anyV 0 (List.length l)), (1, .int .i64 p1), (2, .int .i64 p2), (3, .func (.func 83) ⟨[]⟩ ⟨[]⟩)]) (h2 := [.cells 27 (List.flatMap e27 l)])
    (Eq.mp (by kernel_rfl) (Wk.tm (P := Try.prog) (base := 0) (L := 1) (a := { tmps := [anyV 0 (List.length l), .int .i64 p1, .int .i64 p2, .func (.func 83) ⟨[]⟩ ⟨[]⟩] ++ List.replicate 49 undef }) (h := [.cells 27 (List.flatMap e27 l)]) [0, 1, 2, 3])) (B89 l p1 p2 r hF)
noncomputable def c85 : Code := Try.f85.code
theorem C85 (l : List (Int × Int)) (k : Nat) (hl : l.length = k) (hk : k ≤ 12) (x : Int) (r : List (Int × Int)) (hF : F89 l 0 k = some r) :
    ImpSim Try.prog 85 [anyV 0 k, .int .i64 0, .int .i64 k, .int .i64 x, .func (.func 83) ⟨[]⟩ ⟨[]⟩] 0 [.cells 27 (List.flatMap e27 l)] (.tuple #[]) [.cells 27 (List.flatMap e27 r)] := by
  have h89 := C89 l 0 k r hF
  rw [hl] at h89
  generalize hb : Blk.cells 27 (List.flatMap e27 l) = b at h89 ⊢
  generalize hb' : Blk.cells 27 (List.flatMap e27 r) = b' at h89 ⊢
  generalize hV : anyV 0 k = V at h89 ⊢
  have hw : IntKind.wrap .i64 ((k : Int) - 0) = (k : Int) := by
    have := w64_in (x := (k : Int) - 0) (by omega) (by omega)
    rw [show w64 ((k : Int) - 0) = IntKind.wrap .i64 ((k : Int) - 0) from rfl] at this
    omega
  have hw' : IntKind.wrap .i64 (k : Int) = (k : Int) := by simpa using hw
  refine ImpSim.of_TS (fn := Try.f85) (c := c85) (by kernel_rfl) (by kernel_rfl) (by kernel_rfl) (Nat.le_refl _) ?_
  refine TS.weak (a2 := st 148 [(0, V), (1, .int .i64 0), (2, .int .i64 k), (4, .func (.func 83) ⟨[]⟩ ⟨[]⟩)]) (h2 := [b])
    (Eq.mp (by kernel_rfl) (Wk.tm (P := Try.prog) (base := 0) (L := 1) (a := { tmps := [V, .int .i64 0, .int .i64 k, .int .i64 x, .func (.func 83) ⟨[]⟩ ⟨[]⟩] ++ List.replicate 143 undef }) (h := [b]) [0, 1, 2, 4])) ?_
  refine TS.start ?_
  refine TS.seq' (x := c85.s1) (y := c85.s2) (by kernel_rfl) ?_
  refine TS.region' (id := 0) (b := false) (ops := c85.s1.rops) (by kernel_rfl) rfl ?_
  refine TI.val [0, 1, 2, 4] (v := .bool true) (a2 := st 148 [(0, V), (1, .int .i64 0), (2, .int .i64 k), (4, .func (.func 83) ⟨[]⟩ ⟨[]⟩)]) (by kernel_rfl) (by kernel_rfl) ?_
  refine TI.done (by kernel_rfl) ?_
  refine NX.sq ?_
  refine TS.seq' (x := c85.s2.s1) (y := c85.s2.s2) (by kernel_rfl) ?_
  refine TS.region' (id := 1) (b := false) (ops := c85.s2.s1.rops) (by kernel_rfl) rfl ?_
  refine TI.val [0, 1, 2, 4] (v := .bool true) (a2 := st 148 [(0, V), (1, .int .i64 0), (2, .int .i64 k), (4, .func (.func 83) ⟨[]⟩ ⟨[]⟩)]) (by kernel_rfl) (by kernel_rfl) ?_
  refine TI.done (by kernel_rfl) ?_
  refine NX.sq ?_
  refine TS.block' (id := 0) (x := c85.s2.s2.bd) (by kernel_rfl) ?_
  refine TS.loop' (x := c85.s2.s2.bd.bd) (by kernel_rfl) ?_
  refine TL.round ?_
  refine TS.block' (id := 1) (x := c85.s2.s2.bd.bd.bd) (by kernel_rfl) ?_
  refine TS.seq' (x := c85.s2.s2.bd.bd.bd.s1) (y := c85.s2.s2.bd.bd.bd.s2) (by kernel_rfl) ?_
  refine TS.region' (id := 2) (b := false) (ops := c85.s2.s2.bd.bd.bd.s1.rops) (by kernel_rfl) rfl ?_
  refine TI.val [0, 1, 2, 4, 21] (v := .int .i64 k) (a2 := st 148 [(0, V), (1, .int .i64 0), (2, .int .i64 k), (4, .func (.func 83) ⟨[]⟩ ⟨[]⟩), (21, .int .i64 k)]) (by kernel_rfl) (by kernel_rfl) ?_
  refine TI.val [0, 1, 2, 4, 21, 22] (v := .int .i64 0) (a2 := st 148 [(0, V), (1, .int .i64 0), (2, .int .i64 k), (4, .func (.func 83) ⟨[]⟩ ⟨[]⟩), (21, .int .i64 k), (22, .int .i64 0)]) (by kernel_rfl) (by kernel_rfl) ?_
  refine TI.val [0, 1, 2, 4, 23] (v := .int .i64 k) (a2 := st 148 [(0, V), (1, .int .i64 0), (2, .int .i64 k), (4, .func (.func 83) ⟨[]⟩ ⟨[]⟩), (23, .int .i64 k)]) (q_int (op := .sub) (ty := 3) (ox := .tmp 21) (oy := .tmp 22) (k := .i64) (k' := .i64) (y := k) (z := 0) (P := Try.prog) (by kernel_rfl) (by simp [intBin, hw'])) (by kernel_rfl) ?_
  refine TI.val [0, 1, 2, 4, 12] (v := .int .i64 k) (a2 := st 148 [(0, V), (1, .int .i64 0), (2, .int .i64 k), (4, .func (.func 83) ⟨[]⟩ ⟨[]⟩), (12, .int .i64 k)]) (by kernel_rfl) (by kernel_rfl) ?_
  refine TI.done (by kernel_rfl) ?_
  refine NX.sq ?_
  refine TS.seq' (x := c85.s2.s2.bd.bd.bd.s2.s1) (y := c85.s2.s2.bd.bd.bd.s2.s2) (by kernel_rfl) ?_
  refine TS.seq' (x := c85.s2.s2.bd.bd.bd.s2.s1.s1) (y := c85.s2.s2.bd.bd.bd.s2.s1.s2) (by kernel_rfl) ?_
  refine TS.region' (id := 3) (b := false) (ops := c85.s2.s2.bd.bd.bd.s2.s1.s1.rops) (by kernel_rfl) rfl ?_
  refine TI.val [0, 1, 2, 4, 24] (v := .int .i64 k) (a2 := st 148 [(0, V), (1, .int .i64 0), (2, .int .i64 k), (4, .func (.func 83) ⟨[]⟩ ⟨[]⟩), (24, .int .i64 k)]) (by kernel_rfl) (by kernel_rfl) ?_
  refine TI.val [0, 1, 2, 4, 25] (v := .bool true) (a2 := st 148 [(0, V), (1, .int .i64 0), (2, .int .i64 k), (4, .func (.func 83) ⟨[]⟩ ⟨[]⟩), (25, .bool true)]) (q_int (op := .leq) (ty := 3) (ox := .tmp 24) (oy := .const (.int .i64 12)) (k := .i64) (k' := .i64) (y := k) (z := 12) (P := Try.prog) (by kernel_rfl) (by simp [intBin]; omega)) (by kernel_rfl) ?_
  refine TI.done (by kernel_rfl) ?_
  refine NX.sq ?_
  refine TS.condT' (o := (.tmp 25)) (x := c85.s2.s2.bd.bd.bd.s2.s1.s2.th) (y := c85.s2.s2.bd.bd.bd.s2.s1.s2.el) (by kernel_rfl) (by kernel_rfl) ?_
  refine TS.seq' (x := c85.s2.s2.bd.bd.bd.s2.s1.s2.th.s1) (y := c85.s2.s2.bd.bd.bd.s2.s1.s2.th.s2) (by kernel_rfl) ?_
  refine TS.region' (id := 4) (b := false) (ops := c85.s2.s2.bd.bd.bd.s2.s1.s2.th.s1.rops) (by kernel_rfl) rfl ?_
  refine TI.val [1, 2, 4, 26] (v := V) (a2 := st 148 [(1, .int .i64 0), (2, .int .i64 k), (4, .func (.func 83) ⟨[]⟩ ⟨[]⟩), (26, V)]) (by kernel_rfl) (by kernel_rfl) ?_
  refine TI.val [2, 4, 26, 27] (v := .int .i64 0) (a2 := st 148 [(2, .int .i64 k), (4, .func (.func 83) ⟨[]⟩ ⟨[]⟩), (26, V), (27, .int .i64 0)]) (by kernel_rfl) (by kernel_rfl) ?_
  refine TI.val [4, 26, 27, 28] (v := .int .i64 k) (a2 := st 148 [(4, .func (.func 83) ⟨[]⟩ ⟨[]⟩), (26, V), (27, .int .i64 0), (28, .int .i64 k)]) (by kernel_rfl) (by kernel_rfl) ?_
  refine TI.val [26, 27, 28, 29] (v := .func (.func 83) ⟨[]⟩ ⟨[]⟩) (a2 := st 148 [(26, V), (27, .int .i64 0), (28, .int .i64 k), (29, .func (.func 83) ⟨[]⟩ ⟨[]⟩)]) (by kernel_rfl) (by kernel_rfl) ?_
  refine TI.icallT [] (a2 := st 148 []) (by kernel_rfl) h89 (by kernel_rfl) ?_
  refine TI.done (by kernel_rfl) ?_
  refine NX.sq ?_
  refine TS.ret' (by kernel_rfl) ?_
  refine NX.sqR ?_
  refine NX.bkR ?_
  refine Rd.out (by simp) ?_
  refine NX.bkR ?_
  exact ⟨.inr rfl, rfl, rfl, by kernel_rfl⟩
noncomputable def c82 : Code := Try.f82.code
noncomputable def env82 : Cl.Env := { P := Try.prog, sum := fun _ => none, imp := fun _ => false, strict := true }
theorem cases12 {k : Nat} (hk : k ≤ 12) : k = 0 ∨ k = 1 ∨ k = 2 ∨ k = 3 ∨ k = 4 ∨ k = 5 ∨ k = 6 ∨ k = 7 ∨ k = 8 ∨ k = 9 ∨ k = 10 ∨ k = 11 ∨ k = 12 := by omega
theorem conv82 {k : Nat} (hk : k ≤ 12) : qConvert Try.prog 3 132 (.int .i64 k) = some { val := .int .u64 k } := by
  rcases cases12 hk with rfl | rfl | rfl | rfl | rfl | rfl | rfl | rfl | rfl | rfl | rfl | rfl | rfl
  all_goals kernel_rfl
theorem len86 {k : Nat} (hk : k ≤ 12) : ∃ y, PureSim Try.prog 86 [.int .u64 k] [] (.int .i64 y) [] := by
  have ok : SumOk env82 := Cl.sumOk_none fun _ => rfl
  rcases cases12 hk with rfl | rfl | rfl | rfl | rfl | rfl | rfl | rfl | rfl | rfl | rfl | rfl | rfl
  · exact ⟨0, answer ok mixed (by kernel_rfl : (run env82 3000).pcall 86 [.int .u64 (0 : Nat)] [] = some (.int .i64 0, []))⟩
  · exact ⟨1, answer ok mixed (by kernel_rfl : (run env82 3000).pcall 86 [.int .u64 (1 : Nat)] [] = some (.int .i64 1, []))⟩
  · exact ⟨2, answer ok mixed (by kernel_rfl : (run env82 3000).pcall 86 [.int .u64 (2 : Nat)] [] = some (.int .i64 2, []))⟩
  · exact ⟨2, answer ok mixed (by kernel_rfl : (run env82 3000).pcall 86 [.int .u64 (3 : Nat)] [] = some (.int .i64 2, []))⟩
  · exact ⟨3, answer ok mixed (by kernel_rfl : (run env82 3000).pcall 86 [.int .u64 (4 : Nat)] [] = some (.int .i64 3, []))⟩
  · exact ⟨3, answer ok mixed (by kernel_rfl : (run env82 3000).pcall 86 [.int .u64 (5 : Nat)] [] = some (.int .i64 3, []))⟩
  · exact ⟨3, answer ok mixed (by kernel_rfl : (run env82 3000).pcall 86 [.int .u64 (6 : Nat)] [] = some (.int .i64 3, []))⟩
  · exact ⟨3, answer ok mixed (by kernel_rfl : (run env82 3000).pcall 86 [.int .u64 (7 : Nat)] [] = some (.int .i64 3, []))⟩
  · exact ⟨4, answer ok mixed (by kernel_rfl : (run env82 3000).pcall 86 [.int .u64 (8 : Nat)] [] = some (.int .i64 4, []))⟩
  · exact ⟨4, answer ok mixed (by kernel_rfl : (run env82 3000).pcall 86 [.int .u64 (9 : Nat)] [] = some (.int .i64 4, []))⟩
  · exact ⟨4, answer ok mixed (by kernel_rfl : (run env82 3000).pcall 86 [.int .u64 (10 : Nat)] [] = some (.int .i64 4, []))⟩
  · exact ⟨4, answer ok mixed (by kernel_rfl : (run env82 3000).pcall 86 [.int .u64 (11 : Nat)] [] = some (.int .i64 4, []))⟩
  · exact ⟨4, answer ok mixed (by kernel_rfl : (run env82 3000).pcall 86 [.int .u64 (12 : Nat)] [] = some (.int .i64 4, []))⟩
/-- slices.SortFunc of at most twelve choices. -/
theorem C82 (l : List (Int × Int)) (k : Nat) (hl : l.length = k) (hk : k ≤ 12) (r : List (Int × Int)) (hF : F89 l 0 k = some r) :
    ImpSim Try.prog 82 [anyV 0 k, .func (.func 83) ⟨[]⟩ ⟨[]⟩] 0 [.cells 27 (List.flatMap e27 l)] (.tuple #[]) [.cells 27 (List.flatMap e27 r)] := by
  obtain ⟨y, h86⟩ := len86 hk
  have h85 := C85 l k hl hk y r hF
  have hcv := conv82 hk
  generalize Blk.cells 27 (List.flatMap e27 l) = b at h85 ⊢
  generalize Blk.cells 27 (List.flatMap e27 r) = b' at h85 ⊢
  refine ImpSim.of_TS (fn := Try.f82) (c := c82) (by kernel_rfl) (by kernel_rfl) (by kernel_rfl) (Nat.le_refl _) ?_
  refine TS.weak (a2 := st 14 [(0, anyV 0 k), (1, .func (.func 83) ⟨[]⟩ ⟨[]⟩)]) (h2 := [b])
    (Eq.mp (by kernel_rfl) (Wk.tm (P := Try.prog) (base := 0) (L := 1) (a := { tmps := [anyV 0 k, .func (.func 83) ⟨[]⟩ ⟨[]⟩] ++ List.replicate 12 undef }) (h := [b]) [0, 1])) ?_
  refine TS.start ?_
  refine TS.seq' (x := c82.s1) (y := c82.s2) (by kernel_rfl) ?_
  refine TS.region' (id := 0) (b := false) (ops := c82.s1.rops) (by kernel_rfl) rfl ?_
  refine TI.val [0, 1, 5] (v := anyV 0 k) (a2 := st 14 [(0, anyV 0 k), (1, .func (.func 83) ⟨[]⟩ ⟨[]⟩), (5, anyV 0 k)]) (by kernel_rfl) (by kernel_rfl) ?_
  refine TI.val [0, 1, 6] (v := .int .i64 k) (a2 := st 14 [(0, anyV 0 k), (1, .func (.func 83) ⟨[]⟩ ⟨[]⟩), (6, .int .i64 k)]) (by kernel_rfl) (by kernel_rfl) ?_
  refine TI.val [0, 1, 4] (v := .int .i64 k) (a2 := st 14 [(0, anyV 0 k), (1, .func (.func 83) ⟨[]⟩ ⟨[]⟩), (4, .int .i64 k)]) (by kernel_rfl) (by kernel_rfl) ?_
  refine TI.done (by kernel_rfl) ?_
  refine NX.sq ?_
  refine TS.region' (id := 1) (b := false) (ops := c82.s2.rops) (by kernel_rfl) rfl ?_
  refine TI.val [1, 4, 7] (v := anyV 0 k) (a2 := st 14 [(1, .func (.func 83) ⟨[]⟩ ⟨[]⟩), (4, .int .i64 k), (7, anyV 0 k)]) (by kernel_rfl) (by kernel_rfl) ?_
  refine TI.val [1, 4, 7, 8] (v := .int .i64 k) (a2 := st 14 [(1, .func (.func 83) ⟨[]⟩ ⟨[]⟩), (4, .int .i64 k), (7, anyV 0 k), (8, .int .i64 k)]) (by kernel_rfl) (by kernel_rfl) ?_
  refine TI.val [1, 7, 8, 9] (v := .int .i64 k) (a2 := st 14 [(1, .func (.func 83) ⟨[]⟩ ⟨[]⟩), (7, anyV 0 k), (8, .int .i64 k), (9, .int .i64 k)]) (by kernel_rfl) (by kernel_rfl) ?_
  refine TI.val [1, 7, 8, 10] (v := .int .u64 k) (a2 := st 14 [(1, .func (.func 83) ⟨[]⟩ ⟨[]⟩), (7, anyV 0 k), (8, .int .i64 k), (10, .int .u64 k)]) (Eq.trans (b := qConvert Try.prog 3 132 (.int .i64 k)) (by kernel_rfl) hcv) (by kernel_rfl) ?_
  refine TI.pcall [1, 7, 8, 11] (g := 86) (args := [.int .u64 k]) (v := .int .i64 y) (a2 := st 14 [(1, .func (.func 83) ⟨[]⟩ ⟨[]⟩), (7, anyV 0 k), (8, .int .i64 k), (11, .int .i64 y)]) (by kernel_rfl) (PureSim.any h86 (flatL (by rfl)) rfl _) (by kernel_rfl) ?_
  refine TI.val [7, 8, 11, 12] (v := .func (.func 83) ⟨[]⟩ ⟨[]⟩) (a2 := st 14 [(7, anyV 0 k), (8, .int .i64 k), (11, .int .i64 y), (12, .func (.func 83) ⟨[]⟩ ⟨[]⟩)]) (by kernel_rfl) (by kernel_rfl) ?_
  refine TI.icallT [] (a2 := st 14 []) (by kernel_rfl) h85 (by kernel_rfl) ?_
  refine TI.done (by kernel_rfl) ?_
  exact ⟨.inl rfl, rfl, rfl, by kernel_rfl⟩
end Go.Proofs.Ytenjelagfbceeaa
