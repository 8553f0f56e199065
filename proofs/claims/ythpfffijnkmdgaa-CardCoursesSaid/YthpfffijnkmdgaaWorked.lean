/- The answers that the examples of the card's chapter ask for, each reckoned by one run. -/
import Derived.Test.YthpfffijnkmdgaaCl28
import Derived.Test.YthpfffijnkmdgaaProg
import Derived.KernelRfl
namespace Go.Proofs.Ythpfffijnkmdgaa.worked
open Go
set_option linter.unusedVariables false
abbrev V (n : Nat) : Value := .int .i64 (.ofNat n)
abbrev M (n : Nat) : Value := .int .i64 (.negSucc n)
def k0 : Cl.Blk := .cells 55 [(V 0), (V 0), (V 900), (V 90), (V 1800), (V 0), (V 2700), (M 89)]
def k1 : Cl.Blk := .cells 29 [(M 0), (V 10)]
def k2 : Cl.Blk := .cells 29 [(V 8200), (V 9)]
def k3 : Cl.Blk := .cells 55 [(V 0), (V 0), (V 100), (M 199)]
def k4 : Cl.Blk := .cells 29 [(V 50), (V 1), (V 5450), (V 37), (V 131450), (V 37)]
def k5 : Cl.Blk := .cells 3 [(V 0)]
def k6 : Cl.Blk := .cells 55 [(V 0), (V 0), (V 990), (M 89), (V 1800), (V 0), (V 2610), (V 90)]
def k7 : Cl.Blk := .cells 29 [(V 800), (V 9)]
def k8 : Cl.Blk := .cells 92 [(V 0), (V 0), (V 0), (V 900), (V 80), (V 100), (V 1800), (V 0), (V 0), (V 2700), (M 89), (M 89)]
def k9 : Cl.Blk := .cells 23 [(.slice (some (.mk 13 0 none)) 4 Cl.UNK), (.slice (some (.mk 9 0 none)) 4 Cl.UNK)]
def k10 : Cl.Blk := .cells 29 [(V 0), (V 1)]
def k11 : Cl.Blk := .cells 29 [(V 3240), (V 41)]
def k12 : Cl.Blk := .cells 29 [(V 99), (V 1)]
def k13 : Cl.Blk := .cells 3 [(V 0), (V 0), (V 990), (M 89), (V 1800), (V 0), (V 2610), (V 90)]
noncomputable def env0 : Cl.Env := { P := Try.prog, sum := fun _ => none, imp := fun f => [74,92,94,98,99,100,101,102,103,104,105,106,107,110,111,112,113,114,115,116,117,118,120,123].contains f, strict := true }
def e0 : Cl.Entry := ⟨49, [], [], (.slice (some (.mk 0 0 none)) 4 Cl.UNK), [k0]⟩
theorem e0_gives : Cl.gives ((Cl.run env0 3000).pcall e0.g e0.args e0.h) e0.v e0.new = true := by kernel_rfl
def e1 : Cl.Entry := ⟨17, [(.slice (some (.mk 0 0 none)) 4 Cl.UNK), (V 3599)], [k0], (.tuple (.mk [(.agg (.mk [(M 0), (V 10)])), (V 0)])), []⟩
theorem e1_gives : Cl.gives ((Cl.run env0 3000).pcall e1.g e1.args e1.h) e1.v e1.new = true := by kernel_rfl
def e2 : Cl.Entry := ⟨49, [], [k0, k1], (.slice (some (.mk 2 0 none)) 4 Cl.UNK), [k0]⟩
theorem e2_gives : Cl.gives ((Cl.run env0 3000).pcall e2.g e2.args e2.h) e2.v e2.new = true := by kernel_rfl
def e3 : Cl.Entry := ⟨24, [(.slice (some (.mk 2 0 none)) 4 Cl.UNK), (V 1000)], [k0, k1, k0], (.tuple (.mk [(.slice (some (.mk 3 0 none)) 1 Cl.UNK), (V 0)])), [k2]⟩
theorem e3_gives : Cl.gives ((Cl.run env0 3000).pcall e3.g e3.args e3.h) e3.v e3.new = true := by kernel_rfl
def e4 : Cl.Entry := ⟨50, [], [k0, k1, k0, k2], (.slice (some (.mk 4 0 none)) 2 Cl.UNK), [k3]⟩
theorem e4_gives : Cl.gives ((Cl.run env0 3000).pcall e4.g e4.args e4.h) e4.v e4.new = true := by kernel_rfl
def e5 : Cl.Entry := ⟨24, [(.slice (some (.mk 4 0 none)) 2 Cl.UNK), (V 3550)], [k0, k1, k0, k2, k3], (.tuple (.mk [(.slice (some (.mk 5 0 none)) 3 Cl.UNK), (V 0)])), [k4]⟩
theorem e5_gives : Cl.gives ((Cl.run env0 3000).pcall e5.g e5.args e5.h) e5.v e5.new = true := by kernel_rfl
def e6 : Cl.Entry := ⟨50, [], [k0, k1, k0, k2, k3, k4], (.slice (some (.mk 6 0 none)) 2 Cl.UNK), [k3]⟩
theorem e6_gives : Cl.gives ((Cl.run env0 3000).pcall e6.g e6.args e6.h) e6.v e6.new = true := by kernel_rfl
def e7 : Cl.Entry := ⟨19, [(.slice (some (.mk 6 0 none)) 2 Cl.UNK)], [k0, k1, k0, k2, k3, k4, k3], (.tuple (.mk [(.slice (some (.mk 7 0 none)) 1 Cl.UNK), (V 0)])), [k5]⟩
theorem e7_gives : Cl.gives ((Cl.run env0 3000).pcall e7.g e7.args e7.h) e7.v e7.new = true := by kernel_rfl
def e8 : Cl.Entry := ⟨49, [], [k0, k1, k0, k2, k3, k4, k3, k5], (.slice (some (.mk 8 0 none)) 4 Cl.UNK), [k0]⟩
theorem e8_gives : Cl.gives ((Cl.run env0 3000).pcall e8.g e8.args e8.h) e8.v e8.new = true := by kernel_rfl
def e9 : Cl.Entry := ⟨29, [(.slice (some (.mk 8 0 none)) 4 Cl.UNK)], [k0, k1, k0, k2, k3, k4, k3, k5, k0], (.tuple (.mk [(.slice (some (.mk 9 0 none)) 4 Cl.UNK), (V 0)])), [k6]⟩
theorem e9_gives : Cl.gives ((Cl.run env0 3000).pcall e9.g e9.args e9.h) e9.v e9.new = true := by kernel_rfl
def e10 : Cl.Entry := ⟨49, [], [k0, k1, k0, k2, k3, k4, k3, k5, k0, k6], (.slice (some (.mk 10 0 none)) 4 Cl.UNK), [k0]⟩
theorem e10_gives : Cl.gives ((Cl.run env0 3000).pcall e10.g e10.args e10.h) e10.v e10.new = true := by kernel_rfl
def e11 : Cl.Entry := ⟨26, [(.slice (some (.mk 10 0 none)) 4 Cl.UNK), (V 1000)], [k0, k1, k0, k2, k3, k4, k3, k5, k0, k6, k0], (.tuple (.mk [(.agg (.mk [(V 800), (V 9)])), (V 0)])), []⟩
theorem e11_gives : Cl.gives ((Cl.run env0 3000).pcall e11.g e11.args e11.h) e11.v e11.new = true := by kernel_rfl
def e12 : Cl.Entry := ⟨52, [], [k0, k1, k0, k2, k3, k4, k3, k5, k0, k6, k0, k7], (.slice (some (.mk 12 0 none)) 4 Cl.UNK), [k8]⟩
theorem e12_gives : Cl.gives ((Cl.run env0 3000).pcall e12.g e12.args e12.h) e12.v e12.new = true := by kernel_rfl
def e13 : Cl.Entry := ⟨36, [(.slice (some (.mk 12 0 none)) 4 Cl.UNK)], [k0, k1, k0, k2, k3, k4, k3, k5, k0, k6, k0, k7, k8], (V 0), []⟩
theorem e13_gives : Cl.gives ((Cl.run env0 3000).pcall e13.g e13.args e13.h) e13.v e13.new = true := by kernel_rfl
def e14 : Cl.Entry := ⟨49, [], [k0, k1, k0, k2, k3, k4, k3, k5, k0, k6, k0, k7, k8], (.slice (some (.mk 13 0 none)) 4 Cl.UNK), [k0]⟩
theorem e14_gives : Cl.gives ((Cl.run env0 3000).pcall e14.g e14.args e14.h) e14.v e14.new = true := by kernel_rfl
def e15 : Cl.Entry := ⟨31, [(.slice (some (.mk 14 0 none)) 2 2), (V 450)], [k0, k1, k0, k2, k3, k4, k3, k5, k0, k6, k0, k7, k8, k0, k9], (.tuple (.mk [(.agg (.mk [(V 0), (V 1)])), (V 0)])), []⟩
theorem e15_gives : Cl.gives ((Cl.run env0 3000).pcall e15.g e15.args e15.h) e15.v e15.new = true := by kernel_rfl
def e16 : Cl.Entry := ⟨52, [], [k0, k1, k0, k2, k3, k4, k3, k5, k0, k6, k0, k7, k8, k0, k9, k10], (.slice (some (.mk 16 0 none)) 4 Cl.UNK), [k8]⟩
theorem e16_gives : Cl.gives ((Cl.run env0 3000).pcall e16.g e16.args e16.h) e16.v e16.new = true := by kernel_rfl
def e17 : Cl.Entry := ⟨34, [(.slice (some (.mk 16 0 none)) 4 Cl.UNK), (V 990)], [k0, k1, k0, k2, k3, k4, k3, k5, k0, k6, k0, k7, k8, k0, k9, k10, k8], (.tuple (.mk [(.agg (.mk [(V 3240), (V 41)])), (.agg (.mk [(V 99), (V 1)])), (V 0)])), []⟩
theorem e17_gives : Cl.gives ((Cl.run env0 3000).pcall e17.g e17.args e17.h) e17.v e17.new = true := by kernel_rfl
def e18 : Cl.Entry := ⟨44, [(M 0), (V 10)], [k0, k1, k0, k2, k3, k4, k3, k5, k0, k6, k0, k7, k8, k0, k9, k10, k8, k11, k12], (.agg (.mk [(M 0), (V 10)])), []⟩
theorem e18_gives : Cl.gives ((Cl.run env0 3000).pcall e18.g e18.args e18.h) e18.v e18.new = true := by kernel_rfl
def e19 : Cl.Entry := ⟨44, [(V 8200), (V 9)], [k0, k1, k0, k2, k3, k4, k3, k5, k0, k6, k0, k7, k8, k0, k9, k10, k8, k11, k12], (.agg (.mk [(V 8200), (V 9)])), []⟩
theorem e19_gives : Cl.gives ((Cl.run env0 3000).pcall e19.g e19.args e19.h) e19.v e19.new = true := by kernel_rfl
def e20 : Cl.Entry := ⟨28, [(.slice (some (.mk 3 0 none)) 1 Cl.UNK), (.slice (some (.mk 19 0 none)) 1 1)], [k0, k1, k0, k2, k3, k4, k3, k5, k0, k6, k0, k7, k8, k0, k9, k10, k8, k11, k12, k2], (.bool Bool.true), []⟩
theorem e20_gives : Cl.gives ((Cl.run env0 3000).pcall e20.g e20.args e20.h) e20.v e20.new = true := by kernel_rfl
def e21 : Cl.Entry := ⟨44, [(V 50), (V 1)], [k0, k1, k0, k2, k3, k4, k3, k5, k0, k6, k0, k7, k8, k0, k9, k10, k8, k11, k12, k2], (.agg (.mk [(V 50), (V 1)])), []⟩
theorem e21_gives : Cl.gives ((Cl.run env0 3000).pcall e21.g e21.args e21.h) e21.v e21.new = true := by kernel_rfl
def e22 : Cl.Entry := ⟨44, [(V 5450), (V 37)], [k0, k1, k0, k2, k3, k4, k3, k5, k0, k6, k0, k7, k8, k0, k9, k10, k8, k11, k12, k2], (.agg (.mk [(V 5450), (V 37)])), []⟩
theorem e22_gives : Cl.gives ((Cl.run env0 3000).pcall e22.g e22.args e22.h) e22.v e22.new = true := by kernel_rfl
def e23 : Cl.Entry := ⟨44, [(V 131450), (V 37)], [k0, k1, k0, k2, k3, k4, k3, k5, k0, k6, k0, k7, k8, k0, k9, k10, k8, k11, k12, k2], (.agg (.mk [(V 131450), (V 37)])), []⟩
theorem e23_gives : Cl.gives ((Cl.run env0 3000).pcall e23.g e23.args e23.h) e23.v e23.new = true := by kernel_rfl
def e24 : Cl.Entry := ⟨28, [(.slice (some (.mk 5 0 none)) 3 Cl.UNK), (.slice (some (.mk 20 0 none)) 3 3)], [k0, k1, k0, k2, k3, k4, k3, k5, k0, k6, k0, k7, k8, k0, k9, k10, k8, k11, k12, k2, k4], (.bool Bool.true), []⟩
theorem e24_gives : Cl.gives ((Cl.run env0 3000).pcall e24.g e24.args e24.h) e24.v e24.new = true := by kernel_rfl
def e25 : Cl.Entry := ⟨21, [(.slice (some (.mk 7 0 none)) 1 Cl.UNK), (.slice (some (.mk 21 0 none)) 1 1)], [k0, k1, k0, k2, k3, k4, k3, k5, k0, k6, k0, k7, k8, k0, k9, k10, k8, k11, k12, k2, k4, k5], (.bool Bool.true), []⟩
theorem e25_gives : Cl.gives ((Cl.run env0 3000).pcall e25.g e25.args e25.h) e25.v e25.new = true := by kernel_rfl
def e26 : Cl.Entry := ⟨51, [(.slice (some (.mk 22 0 none)) 8 8)], [k0, k1, k0, k2, k3, k4, k3, k5, k0, k6, k0, k7, k8, k0, k9, k10, k8, k11, k12, k2, k4, k5, k13], (.slice (some (.mk 23 0 none)) 4 Cl.UNK), [k6]⟩
theorem e26_gives : Cl.gives ((Cl.run env0 3000).pcall e26.g e26.args e26.h) e26.v e26.new = true := by kernel_rfl
def e27 : Cl.Entry := ⟨45, [(.slice (some (.mk 9 0 none)) 4 Cl.UNK), (.slice (some (.mk 23 0 none)) 4 Cl.UNK)], [k0, k1, k0, k2, k3, k4, k3, k5, k0, k6, k0, k7, k8, k0, k9, k10, k8, k11, k12, k2, k4, k5, k13, k6], (.bool Bool.true), []⟩
theorem e27_gives : Cl.gives ((Cl.run env0 3000).pcall e27.g e27.args e27.h) e27.v e27.new = true := by kernel_rfl
def e28 : Cl.Entry := ⟨44, [(V 800), (V 9)], [k0, k1, k0, k2, k3, k4, k3, k5, k0, k6, k0, k7, k8, k0, k9, k10, k8, k11, k12, k2, k4, k5, k13, k6], (.agg (.mk [(V 800), (V 9)])), []⟩
theorem e28_gives : Cl.gives ((Cl.run env0 3000).pcall e28.g e28.args e28.h) e28.v e28.new = true := by kernel_rfl
def e29 : Cl.Entry := ⟨44, [(V 0), (V 1)], [k0, k1, k0, k2, k3, k4, k3, k5, k0, k6, k0, k7, k8, k0, k9, k10, k8, k11, k12, k2, k4, k5, k13, k6], (.agg (.mk [(V 0), (V 1)])), []⟩
theorem e29_gives : Cl.gives ((Cl.run env0 3000).pcall e29.g e29.args e29.h) e29.v e29.new = true := by kernel_rfl
def e30 : Cl.Entry := ⟨44, [(V 3240), (V 41)], [k0, k1, k0, k2, k3, k4, k3, k5, k0, k6, k0, k7, k8, k0, k9, k10, k8, k11, k12, k2, k4, k5, k13, k6], (.agg (.mk [(V 3240), (V 41)])), []⟩
theorem e30_gives : Cl.gives ((Cl.run env0 3000).pcall e30.g e30.args e30.h) e30.v e30.new = true := by kernel_rfl
def e31 : Cl.Entry := ⟨44, [(V 99), (V 1)], [k0, k1, k0, k2, k3, k4, k3, k5, k0, k6, k0, k7, k8, k0, k9, k10, k8, k11, k12, k2, k4, k5, k13, k6], (.agg (.mk [(V 99), (V 1)])), []⟩
theorem e31_gives : Cl.gives ((Cl.run env0 3000).pcall e31.g e31.args e31.h) e31.v e31.new = true := by kernel_rfl
def table : List Cl.Entry := [e0, e1, e2, e3, e4, e5, e6, e7, e8, e9, e10, e11, e12, e13, e14, e15, e16, e17, e18, e19, e20, e21, e22, e23, e24, e25, e26, e27, e28, e29, e30, e31]
theorem table_true (hS : Cl.SumOk env0) (hm : env0.P.follows .mixedOrders = true) : ∀ e ∈ table, Cl.PureSim env0.P e.g e.args e.h e.v e.new := by
 intro e he
 simp only [table, List.mem_cons, List.not_mem_nil, or_false] at he
 rcases he with rfl | rfl | rfl | rfl | rfl | rfl | rfl | rfl | rfl | rfl | rfl | rfl | rfl | rfl | rfl | rfl | rfl | rfl | rfl | rfl | rfl | rfl | rfl | rfl | rfl | rfl | rfl | rfl | rfl | rfl | rfl | rfl
 · exact Cl.entry_ok hS hm e0_gives
 · exact Cl.entry_ok hS hm e1_gives
 · exact Cl.entry_ok hS hm e2_gives
 · exact Cl.entry_ok hS hm e3_gives
 · exact Cl.entry_ok hS hm e4_gives
 · exact Cl.entry_ok hS hm e5_gives
 · exact Cl.entry_ok hS hm e6_gives
 · exact Cl.entry_ok hS hm e7_gives
 · exact Cl.entry_ok hS hm e8_gives
 · exact Cl.entry_ok hS hm e9_gives
 · exact Cl.entry_ok hS hm e10_gives
 · exact Cl.entry_ok hS hm e11_gives
 · exact Cl.entry_ok hS hm e12_gives
 · exact Cl.entry_ok hS hm e13_gives
 · exact Cl.entry_ok hS hm e14_gives
 · exact Cl.entry_ok hS hm e15_gives
 · exact Cl.entry_ok hS hm e16_gives
 · exact Cl.entry_ok hS hm e17_gives
 · exact Cl.entry_ok hS hm e18_gives
 · exact Cl.entry_ok hS hm e19_gives
 · exact Cl.entry_ok hS hm e20_gives
 · exact Cl.entry_ok hS hm e21_gives
 · exact Cl.entry_ok hS hm e22_gives
 · exact Cl.entry_ok hS hm e23_gives
 · exact Cl.entry_ok hS hm e24_gives
 · exact Cl.entry_ok hS hm e25_gives
 · exact Cl.entry_ok hS hm e26_gives
 · exact Cl.entry_ok hS hm e27_gives
 · exact Cl.entry_ok hS hm e28_gives
 · exact Cl.entry_ok hS hm e29_gives
 · exact Cl.entry_ok hS hm e30_gives
 exact Cl.entry_ok hS hm e31_gives
theorem mixed : env0.P.follows .mixedOrders = true := by kernel_rfl
noncomputable def env1 : Cl.Env := { env0 with sum := Cl.tableSum table }
theorem ok1 : Cl.SumOk env1 := Cl.table_ok rfl (table_true (Cl.sumOk_none fun _ => rfl) mixed)
theorem works : Cl.saysTrue ((Cl.run env1 3000).pcall 15 [] []) = true := by kernel_rfl
end Go.Proofs.Ythpfffijnkmdgaa.worked
