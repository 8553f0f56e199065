/- Answers of small functions that the examples of the chapter ask for. -/
import Derived.Test.YtnhcgbcmnhdocaaTs11
import Derived.Test.YtnhcgbcmnhdocaaProg
import Derived.KernelRfl
namespace Go.Proofs.Ytnhcgbcmnhdocaa.worked
open Go
set_option linter.unusedVariables false
set_option maxRecDepth 100000
noncomputable def env0 : Cl.Env := { P := Try.prog, sum := fun _ => none, imp := fun f => [73,83,86,88,92,93,94,95,96,97,98,99,100,104,105,106,107,108,109,111,112,113,115,116,117,118,119,120,121,122].contains f, strict := true }
def a0 : Cl.Entry := ⟨44, [.agg ⟨[.int .i64 (0), .int .i64 (0)]⟩, .agg ⟨[.int .i64 (10), .int .i64 (0)]⟩, .agg ⟨[.int .i64 (0), .int .i64 (10)]⟩], [], .int .i64 (100), []⟩
theorem a0_gives : Cl.gives ((Cl.run env0 3000).pcall a0.g a0.args a0.h) a0.v a0.new = true := by kernel_rfl
def a1 : Cl.Entry := ⟨44, [.agg ⟨[.int .i64 (0), .int .i64 (0)]⟩, .agg ⟨[.int .i64 (10), .int .i64 (0)]⟩, .agg ⟨[.int .i64 (9), .int .i64 (9)]⟩], [], .int .i64 (90), []⟩
theorem a1_gives : Cl.gives ((Cl.run env0 3000).pcall a1.g a1.args a1.h) a1.v a1.new = true := by kernel_rfl
def a2 : Cl.Entry := ⟨44, [.agg ⟨[.int .i64 (0), .int .i64 (0)]⟩, .agg ⟨[.int .i64 (10), .int .i64 (0)]⟩, .agg ⟨[.int .i64 (4), .int .i64 (3)]⟩], [], .int .i64 (30), []⟩
theorem a2_gives : Cl.gives ((Cl.run env0 3000).pcall a2.g a2.args a2.h) a2.v a2.new = true := by kernel_rfl
def a3 : Cl.Entry := ⟨44, [.agg ⟨[.int .i64 (0), .int .i64 (0)]⟩, .agg ⟨[.int .i64 (0), .int .i64 (10)]⟩, .agg ⟨[.int .i64 (9), .int .i64 (9)]⟩], [], .int .i64 (-90), []⟩
theorem a3_gives : Cl.gives ((Cl.run env0 3000).pcall a3.g a3.args a3.h) a3.v a3.new = true := by kernel_rfl
def a4 : Cl.Entry := ⟨44, [.agg ⟨[.int .i64 (0), .int .i64 (0)]⟩, .agg ⟨[.int .i64 (0), .int .i64 (10)]⟩, .agg ⟨[.int .i64 (4), .int .i64 (3)]⟩], [], .int .i64 (-40), []⟩
theorem a4_gives : Cl.gives ((Cl.run env0 3000).pcall a4.g a4.args a4.h) a4.v a4.new = true := by kernel_rfl
def a5 : Cl.Entry := ⟨44, [.agg ⟨[.int .i64 (0), .int .i64 (0)]⟩, .agg ⟨[.int .i64 (9), .int .i64 (9)]⟩, .agg ⟨[.int .i64 (4), .int .i64 (3)]⟩], [], .int .i64 (-9), []⟩
theorem a5_gives : Cl.gives ((Cl.run env0 3000).pcall a5.g a5.args a5.h) a5.v a5.new = true := by kernel_rfl
def a6 : Cl.Entry := ⟨44, [.agg ⟨[.int .i64 (10), .int .i64 (0)]⟩, .agg ⟨[.int .i64 (0), .int .i64 (10)]⟩, .agg ⟨[.int .i64 (9), .int .i64 (9)]⟩], [], .int .i64 (-80), []⟩
theorem a6_gives : Cl.gives ((Cl.run env0 3000).pcall a6.g a6.args a6.h) a6.v a6.new = true := by kernel_rfl
def a7 : Cl.Entry := ⟨44, [.agg ⟨[.int .i64 (10), .int .i64 (0)]⟩, .agg ⟨[.int .i64 (0), .int .i64 (10)]⟩, .agg ⟨[.int .i64 (4), .int .i64 (3)]⟩], [], .int .i64 (30), []⟩
theorem a7_gives : Cl.gives ((Cl.run env0 3000).pcall a7.g a7.args a7.h) a7.v a7.new = true := by kernel_rfl
def a8 : Cl.Entry := ⟨44, [.agg ⟨[.int .i64 (10), .int .i64 (0)]⟩, .agg ⟨[.int .i64 (9), .int .i64 (9)]⟩, .agg ⟨[.int .i64 (4), .int .i64 (3)]⟩], [], .int .i64 (51), []⟩
theorem a8_gives : Cl.gives ((Cl.run env0 3000).pcall a8.g a8.args a8.h) a8.v a8.new = true := by kernel_rfl
def a9 : Cl.Entry := ⟨44, [.agg ⟨[.int .i64 (0), .int .i64 (10)]⟩, .agg ⟨[.int .i64 (9), .int .i64 (9)]⟩, .agg ⟨[.int .i64 (4), .int .i64 (3)]⟩], [], .int .i64 (-59), []⟩
theorem a9_gives : Cl.gives ((Cl.run env0 3000).pcall a9.g a9.args a9.h) a9.v a9.new = true := by kernel_rfl
def a10 : Cl.Entry := ⟨44, [.agg ⟨[.int .i64 (0), .int .i64 (0)]⟩, .agg ⟨[.int .i64 (10), .int .i64 (0)]⟩, .agg ⟨[.int .i64 (0), .int .i64 (0)]⟩], [], .int .i64 (0), []⟩
theorem a10_gives : Cl.gives ((Cl.run env0 3000).pcall a10.g a10.args a10.h) a10.v a10.new = true := by kernel_rfl
def a11 : Cl.Entry := ⟨44, [.agg ⟨[.int .i64 (0), .int .i64 (0)]⟩, .agg ⟨[.int .i64 (10), .int .i64 (0)]⟩, .agg ⟨[.int .i64 (10), .int .i64 (0)]⟩], [], .int .i64 (0), []⟩
theorem a11_gives : Cl.gives ((Cl.run env0 3000).pcall a11.g a11.args a11.h) a11.v a11.new = true := by kernel_rfl
def a12 : Cl.Entry := ⟨44, [.agg ⟨[.int .i64 (4), .int .i64 (3)]⟩, .agg ⟨[.int .i64 (10), .int .i64 (0)]⟩, .agg ⟨[.int .i64 (0), .int .i64 (0)]⟩], [], .int .i64 (-30), []⟩
theorem a12_gives : Cl.gives ((Cl.run env0 3000).pcall a12.g a12.args a12.h) a12.v a12.new = true := by kernel_rfl
def a13 : Cl.Entry := ⟨44, [.agg ⟨[.int .i64 (4), .int .i64 (3)]⟩, .agg ⟨[.int .i64 (10), .int .i64 (0)]⟩, .agg ⟨[.int .i64 (10), .int .i64 (0)]⟩], [], .int .i64 (0), []⟩
theorem a13_gives : Cl.gives ((Cl.run env0 3000).pcall a13.g a13.args a13.h) a13.v a13.new = true := by kernel_rfl
def a14 : Cl.Entry := ⟨44, [.agg ⟨[.int .i64 (4), .int .i64 (3)]⟩, .agg ⟨[.int .i64 (10), .int .i64 (0)]⟩, .agg ⟨[.int .i64 (0), .int .i64 (10)]⟩], [], .int .i64 (30), []⟩
theorem a14_gives : Cl.gives ((Cl.run env0 3000).pcall a14.g a14.args a14.h) a14.v a14.new = true := by kernel_rfl
def a15 : Cl.Entry := ⟨44, [.agg ⟨[.int .i64 (4), .int .i64 (3)]⟩, .agg ⟨[.int .i64 (10), .int .i64 (0)]⟩, .agg ⟨[.int .i64 (9), .int .i64 (9)]⟩], [], .int .i64 (51), []⟩
theorem a15_gives : Cl.gives ((Cl.run env0 3000).pcall a15.g a15.args a15.h) a15.v a15.new = true := by kernel_rfl
def a16 : Cl.Entry := ⟨44, [.agg ⟨[.int .i64 (4), .int .i64 (3)]⟩, .agg ⟨[.int .i64 (10), .int .i64 (0)]⟩, .agg ⟨[.int .i64 (4), .int .i64 (3)]⟩], [], .int .i64 (0), []⟩
theorem a16_gives : Cl.gives ((Cl.run env0 3000).pcall a16.g a16.args a16.h) a16.v a16.new = true := by kernel_rfl
def a17 : Cl.Entry := ⟨44, [.agg ⟨[.int .i64 (9), .int .i64 (9)]⟩, .agg ⟨[.int .i64 (10), .int .i64 (0)]⟩, .agg ⟨[.int .i64 (0), .int .i64 (0)]⟩], [], .int .i64 (-90), []⟩
theorem a17_gives : Cl.gives ((Cl.run env0 3000).pcall a17.g a17.args a17.h) a17.v a17.new = true := by kernel_rfl
def a18 : Cl.Entry := ⟨44, [.agg ⟨[.int .i64 (9), .int .i64 (9)]⟩, .agg ⟨[.int .i64 (10), .int .i64 (0)]⟩, .agg ⟨[.int .i64 (10), .int .i64 (0)]⟩], [], .int .i64 (0), []⟩
theorem a18_gives : Cl.gives ((Cl.run env0 3000).pcall a18.g a18.args a18.h) a18.v a18.new = true := by kernel_rfl
def a19 : Cl.Entry := ⟨44, [.agg ⟨[.int .i64 (9), .int .i64 (9)]⟩, .agg ⟨[.int .i64 (10), .int .i64 (0)]⟩, .agg ⟨[.int .i64 (0), .int .i64 (10)]⟩], [], .int .i64 (-80), []⟩
theorem a19_gives : Cl.gives ((Cl.run env0 3000).pcall a19.g a19.args a19.h) a19.v a19.new = true := by kernel_rfl
def a20 : Cl.Entry := ⟨44, [.agg ⟨[.int .i64 (9), .int .i64 (9)]⟩, .agg ⟨[.int .i64 (10), .int .i64 (0)]⟩, .agg ⟨[.int .i64 (9), .int .i64 (9)]⟩], [], .int .i64 (0), []⟩
theorem a20_gives : Cl.gives ((Cl.run env0 3000).pcall a20.g a20.args a20.h) a20.v a20.new = true := by kernel_rfl
def a21 : Cl.Entry := ⟨44, [.agg ⟨[.int .i64 (9), .int .i64 (9)]⟩, .agg ⟨[.int .i64 (10), .int .i64 (0)]⟩, .agg ⟨[.int .i64 (4), .int .i64 (3)]⟩], [], .int .i64 (-51), []⟩
theorem a21_gives : Cl.gives ((Cl.run env0 3000).pcall a21.g a21.args a21.h) a21.v a21.new = true := by kernel_rfl
def a22 : Cl.Entry := ⟨44, [.agg ⟨[.int .i64 (4), .int .i64 (3)]⟩, .agg ⟨[.int .i64 (9), .int .i64 (9)]⟩, .agg ⟨[.int .i64 (0), .int .i64 (0)]⟩], [], .int .i64 (9), []⟩
theorem a22_gives : Cl.gives ((Cl.run env0 3000).pcall a22.g a22.args a22.h) a22.v a22.new = true := by kernel_rfl
def a23 : Cl.Entry := ⟨44, [.agg ⟨[.int .i64 (4), .int .i64 (3)]⟩, .agg ⟨[.int .i64 (9), .int .i64 (9)]⟩, .agg ⟨[.int .i64 (10), .int .i64 (0)]⟩], [], .int .i64 (-51), []⟩
theorem a23_gives : Cl.gives ((Cl.run env0 3000).pcall a23.g a23.args a23.h) a23.v a23.new = true := by kernel_rfl
def a24 : Cl.Entry := ⟨44, [.agg ⟨[.int .i64 (4), .int .i64 (3)]⟩, .agg ⟨[.int .i64 (9), .int .i64 (9)]⟩, .agg ⟨[.int .i64 (0), .int .i64 (10)]⟩], [], .int .i64 (59), []⟩
theorem a24_gives : Cl.gives ((Cl.run env0 3000).pcall a24.g a24.args a24.h) a24.v a24.new = true := by kernel_rfl
def a25 : Cl.Entry := ⟨44, [.agg ⟨[.int .i64 (4), .int .i64 (3)]⟩, .agg ⟨[.int .i64 (9), .int .i64 (9)]⟩, .agg ⟨[.int .i64 (9), .int .i64 (9)]⟩], [], .int .i64 (0), []⟩
theorem a25_gives : Cl.gives ((Cl.run env0 3000).pcall a25.g a25.args a25.h) a25.v a25.new = true := by kernel_rfl
def a26 : Cl.Entry := ⟨44, [.agg ⟨[.int .i64 (4), .int .i64 (3)]⟩, .agg ⟨[.int .i64 (9), .int .i64 (9)]⟩, .agg ⟨[.int .i64 (4), .int .i64 (3)]⟩], [], .int .i64 (0), []⟩
theorem a26_gives : Cl.gives ((Cl.run env0 3000).pcall a26.g a26.args a26.h) a26.v a26.new = true := by kernel_rfl
def a27 : Cl.Entry := ⟨44, [.agg ⟨[.int .i64 (0), .int .i64 (10)]⟩, .agg ⟨[.int .i64 (9), .int .i64 (9)]⟩, .agg ⟨[.int .i64 (0), .int .i64 (0)]⟩], [], .int .i64 (-90), []⟩
theorem a27_gives : Cl.gives ((Cl.run env0 3000).pcall a27.g a27.args a27.h) a27.v a27.new = true := by kernel_rfl
def a28 : Cl.Entry := ⟨44, [.agg ⟨[.int .i64 (0), .int .i64 (10)]⟩, .agg ⟨[.int .i64 (9), .int .i64 (9)]⟩, .agg ⟨[.int .i64 (10), .int .i64 (0)]⟩], [], .int .i64 (-80), []⟩
theorem a28_gives : Cl.gives ((Cl.run env0 3000).pcall a28.g a28.args a28.h) a28.v a28.new = true := by kernel_rfl
def a29 : Cl.Entry := ⟨44, [.agg ⟨[.int .i64 (0), .int .i64 (10)]⟩, .agg ⟨[.int .i64 (9), .int .i64 (9)]⟩, .agg ⟨[.int .i64 (0), .int .i64 (10)]⟩], [], .int .i64 (0), []⟩
theorem a29_gives : Cl.gives ((Cl.run env0 3000).pcall a29.g a29.args a29.h) a29.v a29.new = true := by kernel_rfl
def a30 : Cl.Entry := ⟨44, [.agg ⟨[.int .i64 (0), .int .i64 (10)]⟩, .agg ⟨[.int .i64 (9), .int .i64 (9)]⟩, .agg ⟨[.int .i64 (9), .int .i64 (9)]⟩], [], .int .i64 (0), []⟩
theorem a30_gives : Cl.gives ((Cl.run env0 3000).pcall a30.g a30.args a30.h) a30.v a30.new = true := by kernel_rfl
def a31 : Cl.Entry := ⟨44, [.agg ⟨[.int .i64 (4), .int .i64 (3)]⟩, .agg ⟨[.int .i64 (0), .int .i64 (10)]⟩, .agg ⟨[.int .i64 (0), .int .i64 (0)]⟩], [], .int .i64 (40), []⟩
theorem a31_gives : Cl.gives ((Cl.run env0 3000).pcall a31.g a31.args a31.h) a31.v a31.new = true := by kernel_rfl
def a32 : Cl.Entry := ⟨44, [.agg ⟨[.int .i64 (4), .int .i64 (3)]⟩, .agg ⟨[.int .i64 (0), .int .i64 (10)]⟩, .agg ⟨[.int .i64 (10), .int .i64 (0)]⟩], [], .int .i64 (-30), []⟩
theorem a32_gives : Cl.gives ((Cl.run env0 3000).pcall a32.g a32.args a32.h) a32.v a32.new = true := by kernel_rfl
def a33 : Cl.Entry := ⟨44, [.agg ⟨[.int .i64 (4), .int .i64 (3)]⟩, .agg ⟨[.int .i64 (0), .int .i64 (10)]⟩, .agg ⟨[.int .i64 (0), .int .i64 (10)]⟩], [], .int .i64 (0), []⟩
theorem a33_gives : Cl.gives ((Cl.run env0 3000).pcall a33.g a33.args a33.h) a33.v a33.new = true := by kernel_rfl
def a34 : Cl.Entry := ⟨44, [.agg ⟨[.int .i64 (4), .int .i64 (3)]⟩, .agg ⟨[.int .i64 (0), .int .i64 (10)]⟩, .agg ⟨[.int .i64 (9), .int .i64 (9)]⟩], [], .int .i64 (-59), []⟩
theorem a34_gives : Cl.gives ((Cl.run env0 3000).pcall a34.g a34.args a34.h) a34.v a34.new = true := by kernel_rfl
def a35 : Cl.Entry := ⟨44, [.agg ⟨[.int .i64 (4), .int .i64 (3)]⟩, .agg ⟨[.int .i64 (0), .int .i64 (10)]⟩, .agg ⟨[.int .i64 (4), .int .i64 (3)]⟩], [], .int .i64 (0), []⟩
theorem a35_gives : Cl.gives ((Cl.run env0 3000).pcall a35.g a35.args a35.h) a35.v a35.new = true := by kernel_rfl
def a36 : Cl.Entry := ⟨44, [.agg ⟨[.int .i64 (0), .int .i64 (0)]⟩, .agg ⟨[.int .i64 (0), .int .i64 (10)]⟩, .agg ⟨[.int .i64 (0), .int .i64 (0)]⟩], [], .int .i64 (0), []⟩
theorem a36_gives : Cl.gives ((Cl.run env0 3000).pcall a36.g a36.args a36.h) a36.v a36.new = true := by kernel_rfl
def a37 : Cl.Entry := ⟨44, [.agg ⟨[.int .i64 (0), .int .i64 (0)]⟩, .agg ⟨[.int .i64 (0), .int .i64 (10)]⟩, .agg ⟨[.int .i64 (10), .int .i64 (0)]⟩], [], .int .i64 (-100), []⟩
theorem a37_gives : Cl.gives ((Cl.run env0 3000).pcall a37.g a37.args a37.h) a37.v a37.new = true := by kernel_rfl
def a38 : Cl.Entry := ⟨44, [.agg ⟨[.int .i64 (0), .int .i64 (0)]⟩, .agg ⟨[.int .i64 (0), .int .i64 (10)]⟩, .agg ⟨[.int .i64 (0), .int .i64 (10)]⟩], [], .int .i64 (0), []⟩
theorem a38_gives : Cl.gives ((Cl.run env0 3000).pcall a38.g a38.args a38.h) a38.v a38.new = true := by kernel_rfl
def a39 : Cl.Entry := ⟨44, [.agg ⟨[.int .i64 (4), .int .i64 (3)]⟩, .agg ⟨[.int .i64 (0), .int .i64 (0)]⟩, .agg ⟨[.int .i64 (0), .int .i64 (0)]⟩], [], .int .i64 (0), []⟩
theorem a39_gives : Cl.gives ((Cl.run env0 3000).pcall a39.g a39.args a39.h) a39.v a39.new = true := by kernel_rfl
def a40 : Cl.Entry := ⟨44, [.agg ⟨[.int .i64 (4), .int .i64 (3)]⟩, .agg ⟨[.int .i64 (0), .int .i64 (0)]⟩, .agg ⟨[.int .i64 (10), .int .i64 (0)]⟩], [], .int .i64 (30), []⟩
theorem a40_gives : Cl.gives ((Cl.run env0 3000).pcall a40.g a40.args a40.h) a40.v a40.new = true := by kernel_rfl
def a41 : Cl.Entry := ⟨44, [.agg ⟨[.int .i64 (4), .int .i64 (3)]⟩, .agg ⟨[.int .i64 (0), .int .i64 (0)]⟩, .agg ⟨[.int .i64 (0), .int .i64 (10)]⟩], [], .int .i64 (-40), []⟩
theorem a41_gives : Cl.gives ((Cl.run env0 3000).pcall a41.g a41.args a41.h) a41.v a41.new = true := by kernel_rfl
def a42 : Cl.Entry := ⟨44, [.agg ⟨[.int .i64 (4), .int .i64 (3)]⟩, .agg ⟨[.int .i64 (0), .int .i64 (0)]⟩, .agg ⟨[.int .i64 (9), .int .i64 (9)]⟩], [], .int .i64 (-9), []⟩
theorem a42_gives : Cl.gives ((Cl.run env0 3000).pcall a42.g a42.args a42.h) a42.v a42.new = true := by kernel_rfl
def a43 : Cl.Entry := ⟨44, [.agg ⟨[.int .i64 (4), .int .i64 (3)]⟩, .agg ⟨[.int .i64 (0), .int .i64 (0)]⟩, .agg ⟨[.int .i64 (4), .int .i64 (3)]⟩], [], .int .i64 (0), []⟩
theorem a43_gives : Cl.gives ((Cl.run env0 3000).pcall a43.g a43.args a43.h) a43.v a43.new = true := by kernel_rfl
def a44 : Cl.Entry := ⟨44, [.agg ⟨[.int .i64 (10), .int .i64 (0)]⟩, .agg ⟨[.int .i64 (0), .int .i64 (0)]⟩, .agg ⟨[.int .i64 (0), .int .i64 (0)]⟩], [], .int .i64 (0), []⟩
theorem a44_gives : Cl.gives ((Cl.run env0 3000).pcall a44.g a44.args a44.h) a44.v a44.new = true := by kernel_rfl
def a45 : Cl.Entry := ⟨44, [.agg ⟨[.int .i64 (10), .int .i64 (0)]⟩, .agg ⟨[.int .i64 (0), .int .i64 (0)]⟩, .agg ⟨[.int .i64 (10), .int .i64 (0)]⟩], [], .int .i64 (0), []⟩
theorem a45_gives : Cl.gives ((Cl.run env0 3000).pcall a45.g a45.args a45.h) a45.v a45.new = true := by kernel_rfl
def a46 : Cl.Entry := ⟨44, [.agg ⟨[.int .i64 (10), .int .i64 (0)]⟩, .agg ⟨[.int .i64 (0), .int .i64 (0)]⟩, .agg ⟨[.int .i64 (0), .int .i64 (10)]⟩], [], .int .i64 (-100), []⟩
theorem a46_gives : Cl.gives ((Cl.run env0 3000).pcall a46.g a46.args a46.h) a46.v a46.new = true := by kernel_rfl
def a47 : Cl.Entry := ⟨44, [.agg ⟨[.int .i64 (10), .int .i64 (0)]⟩, .agg ⟨[.int .i64 (0), .int .i64 (0)]⟩, .agg ⟨[.int .i64 (9), .int .i64 (9)]⟩], [], .int .i64 (-90), []⟩
theorem a47_gives : Cl.gives ((Cl.run env0 3000).pcall a47.g a47.args a47.h) a47.v a47.new = true := by kernel_rfl
def a48 : Cl.Entry := ⟨44, [.agg ⟨[.int .i64 (10), .int .i64 (0)]⟩, .agg ⟨[.int .i64 (0), .int .i64 (0)]⟩, .agg ⟨[.int .i64 (4), .int .i64 (3)]⟩], [], .int .i64 (-30), []⟩
theorem a48_gives : Cl.gives ((Cl.run env0 3000).pcall a48.g a48.args a48.h) a48.v a48.new = true := by kernel_rfl
def a49 : Cl.Entry := ⟨44, [.agg ⟨[.int .i64 (0), .int .i64 (0)]⟩, .agg ⟨[.int .i64 (4), .int .i64 (3)]⟩, .agg ⟨[.int .i64 (0), .int .i64 (0)]⟩], [], .int .i64 (0), []⟩
theorem a49_gives : Cl.gives ((Cl.run env0 3000).pcall a49.g a49.args a49.h) a49.v a49.new = true := by kernel_rfl
def a50 : Cl.Entry := ⟨44, [.agg ⟨[.int .i64 (0), .int .i64 (0)]⟩, .agg ⟨[.int .i64 (4), .int .i64 (3)]⟩, .agg ⟨[.int .i64 (10), .int .i64 (0)]⟩], [], .int .i64 (-30), []⟩
theorem a50_gives : Cl.gives ((Cl.run env0 3000).pcall a50.g a50.args a50.h) a50.v a50.new = true := by kernel_rfl
def a51 : Cl.Entry := ⟨44, [.agg ⟨[.int .i64 (0), .int .i64 (0)]⟩, .agg ⟨[.int .i64 (4), .int .i64 (3)]⟩, .agg ⟨[.int .i64 (0), .int .i64 (10)]⟩], [], .int .i64 (40), []⟩
theorem a51_gives : Cl.gives ((Cl.run env0 3000).pcall a51.g a51.args a51.h) a51.v a51.new = true := by kernel_rfl
def a52 : Cl.Entry := ⟨44, [.agg ⟨[.int .i64 (0), .int .i64 (0)]⟩, .agg ⟨[.int .i64 (4), .int .i64 (3)]⟩, .agg ⟨[.int .i64 (9), .int .i64 (9)]⟩], [], .int .i64 (9), []⟩
theorem a52_gives : Cl.gives ((Cl.run env0 3000).pcall a52.g a52.args a52.h) a52.v a52.new = true := by kernel_rfl
def a53 : Cl.Entry := ⟨44, [.agg ⟨[.int .i64 (0), .int .i64 (0)]⟩, .agg ⟨[.int .i64 (4), .int .i64 (3)]⟩, .agg ⟨[.int .i64 (4), .int .i64 (3)]⟩], [], .int .i64 (0), []⟩
theorem a53_gives : Cl.gives ((Cl.run env0 3000).pcall a53.g a53.args a53.h) a53.v a53.new = true := by kernel_rfl
def a54 : Cl.Entry := ⟨44, [.agg ⟨[.int .i64 (0), .int .i64 (10)]⟩, .agg ⟨[.int .i64 (4), .int .i64 (3)]⟩, .agg ⟨[.int .i64 (0), .int .i64 (0)]⟩], [], .int .i64 (-40), []⟩
theorem a54_gives : Cl.gives ((Cl.run env0 3000).pcall a54.g a54.args a54.h) a54.v a54.new = true := by kernel_rfl
def a55 : Cl.Entry := ⟨44, [.agg ⟨[.int .i64 (0), .int .i64 (10)]⟩, .agg ⟨[.int .i64 (4), .int .i64 (3)]⟩, .agg ⟨[.int .i64 (10), .int .i64 (0)]⟩], [], .int .i64 (30), []⟩
theorem a55_gives : Cl.gives ((Cl.run env0 3000).pcall a55.g a55.args a55.h) a55.v a55.new = true := by kernel_rfl
def a56 : Cl.Entry := ⟨44, [.agg ⟨[.int .i64 (0), .int .i64 (10)]⟩, .agg ⟨[.int .i64 (4), .int .i64 (3)]⟩, .agg ⟨[.int .i64 (0), .int .i64 (10)]⟩], [], .int .i64 (0), []⟩
theorem a56_gives : Cl.gives ((Cl.run env0 3000).pcall a56.g a56.args a56.h) a56.v a56.new = true := by kernel_rfl
def a57 : Cl.Entry := ⟨44, [.agg ⟨[.int .i64 (0), .int .i64 (10)]⟩, .agg ⟨[.int .i64 (4), .int .i64 (3)]⟩, .agg ⟨[.int .i64 (9), .int .i64 (9)]⟩], [], .int .i64 (59), []⟩
theorem a57_gives : Cl.gives ((Cl.run env0 3000).pcall a57.g a57.args a57.h) a57.v a57.new = true := by kernel_rfl
def a58 : Cl.Entry := ⟨44, [.agg ⟨[.int .i64 (0), .int .i64 (10)]⟩, .agg ⟨[.int .i64 (4), .int .i64 (3)]⟩, .agg ⟨[.int .i64 (4), .int .i64 (3)]⟩], [], .int .i64 (0), []⟩
theorem a58_gives : Cl.gives ((Cl.run env0 3000).pcall a58.g a58.args a58.h) a58.v a58.new = true := by kernel_rfl
def a59 : Cl.Entry := ⟨44, [.agg ⟨[.int .i64 (9), .int .i64 (9)]⟩, .agg ⟨[.int .i64 (4), .int .i64 (3)]⟩, .agg ⟨[.int .i64 (0), .int .i64 (0)]⟩], [], .int .i64 (-9), []⟩
theorem a59_gives : Cl.gives ((Cl.run env0 3000).pcall a59.g a59.args a59.h) a59.v a59.new = true := by kernel_rfl
def a60 : Cl.Entry := ⟨44, [.agg ⟨[.int .i64 (9), .int .i64 (9)]⟩, .agg ⟨[.int .i64 (4), .int .i64 (3)]⟩, .agg ⟨[.int .i64 (10), .int .i64 (0)]⟩], [], .int .i64 (51), []⟩
theorem a60_gives : Cl.gives ((Cl.run env0 3000).pcall a60.g a60.args a60.h) a60.v a60.new = true := by kernel_rfl
def a61 : Cl.Entry := ⟨44, [.agg ⟨[.int .i64 (9), .int .i64 (9)]⟩, .agg ⟨[.int .i64 (4), .int .i64 (3)]⟩, .agg ⟨[.int .i64 (0), .int .i64 (10)]⟩], [], .int .i64 (-59), []⟩
theorem a61_gives : Cl.gives ((Cl.run env0 3000).pcall a61.g a61.args a61.h) a61.v a61.new = true := by kernel_rfl
def a62 : Cl.Entry := ⟨44, [.agg ⟨[.int .i64 (9), .int .i64 (9)]⟩, .agg ⟨[.int .i64 (4), .int .i64 (3)]⟩, .agg ⟨[.int .i64 (9), .int .i64 (9)]⟩], [], .int .i64 (0), []⟩
theorem a62_gives : Cl.gives ((Cl.run env0 3000).pcall a62.g a62.args a62.h) a62.v a62.new = true := by kernel_rfl
def a63 : Cl.Entry := ⟨44, [.agg ⟨[.int .i64 (9), .int .i64 (9)]⟩, .agg ⟨[.int .i64 (4), .int .i64 (3)]⟩, .agg ⟨[.int .i64 (4), .int .i64 (3)]⟩], [], .int .i64 (0), []⟩
theorem a63_gives : Cl.gives ((Cl.run env0 3000).pcall a63.g a63.args a63.h) a63.v a63.new = true := by kernel_rfl
def a64 : Cl.Entry := ⟨44, [.agg ⟨[.int .i64 (10), .int .i64 (0)]⟩, .agg ⟨[.int .i64 (4), .int .i64 (3)]⟩, .agg ⟨[.int .i64 (0), .int .i64 (0)]⟩], [], .int .i64 (30), []⟩
theorem a64_gives : Cl.gives ((Cl.run env0 3000).pcall a64.g a64.args a64.h) a64.v a64.new = true := by kernel_rfl
def a65 : Cl.Entry := ⟨44, [.agg ⟨[.int .i64 (10), .int .i64 (0)]⟩, .agg ⟨[.int .i64 (4), .int .i64 (3)]⟩, .agg ⟨[.int .i64 (10), .int .i64 (0)]⟩], [], .int .i64 (0), []⟩
theorem a65_gives : Cl.gives ((Cl.run env0 3000).pcall a65.g a65.args a65.h) a65.v a65.new = true := by kernel_rfl
def a66 : Cl.Entry := ⟨44, [.agg ⟨[.int .i64 (10), .int .i64 (0)]⟩, .agg ⟨[.int .i64 (4), .int .i64 (3)]⟩, .agg ⟨[.int .i64 (0), .int .i64 (10)]⟩], [], .int .i64 (-30), []⟩
theorem a66_gives : Cl.gives ((Cl.run env0 3000).pcall a66.g a66.args a66.h) a66.v a66.new = true := by kernel_rfl
def a67 : Cl.Entry := ⟨44, [.agg ⟨[.int .i64 (10), .int .i64 (0)]⟩, .agg ⟨[.int .i64 (4), .int .i64 (3)]⟩, .agg ⟨[.int .i64 (9), .int .i64 (9)]⟩], [], .int .i64 (-51), []⟩
theorem a67_gives : Cl.gives ((Cl.run env0 3000).pcall a67.g a67.args a67.h) a67.v a67.new = true := by kernel_rfl
def a68 : Cl.Entry := ⟨44, [.agg ⟨[.int .i64 (10), .int .i64 (0)]⟩, .agg ⟨[.int .i64 (4), .int .i64 (3)]⟩, .agg ⟨[.int .i64 (4), .int .i64 (3)]⟩], [], .int .i64 (0), []⟩
theorem a68_gives : Cl.gives ((Cl.run env0 3000).pcall a68.g a68.args a68.h) a68.v a68.new = true := by kernel_rfl
def a69 : Cl.Entry := ⟨44, [.agg ⟨[.int .i64 (5), .int .i64 (0)]⟩, .agg ⟨[.int .i64 (10), .int .i64 (0)]⟩, .agg ⟨[.int .i64 (4), .int .i64 (3)]⟩], [], .int .i64 (15), []⟩
theorem a69_gives : Cl.gives ((Cl.run env0 3000).pcall a69.g a69.args a69.h) a69.v a69.new = true := by kernel_rfl
def a70 : Cl.Entry := ⟨44, [.agg ⟨[.int .i64 (5), .int .i64 (0)]⟩, .agg ⟨[.int .i64 (4), .int .i64 (3)]⟩, .agg ⟨[.int .i64 (0), .int .i64 (0)]⟩], [], .int .i64 (15), []⟩
theorem a70_gives : Cl.gives ((Cl.run env0 3000).pcall a70.g a70.args a70.h) a70.v a70.new = true := by kernel_rfl
def a71 : Cl.Entry := ⟨44, [.agg ⟨[.int .i64 (5), .int .i64 (0)]⟩, .agg ⟨[.int .i64 (0), .int .i64 (0)]⟩, .agg ⟨[.int .i64 (10), .int .i64 (0)]⟩], [], .int .i64 (0), []⟩
theorem a71_gives : Cl.gives ((Cl.run env0 3000).pcall a71.g a71.args a71.h) a71.v a71.new = true := by kernel_rfl
def a72 : Cl.Entry := ⟨44, [.agg ⟨[.int .i64 (5), .int .i64 (0)]⟩, .agg ⟨[.int .i64 (0), .int .i64 (10)]⟩, .agg ⟨[.int .i64 (4), .int .i64 (3)]⟩], [], .int .i64 (-5), []⟩
theorem a72_gives : Cl.gives ((Cl.run env0 3000).pcall a72.g a72.args a72.h) a72.v a72.new = true := by kernel_rfl
def a73 : Cl.Entry := ⟨44, [.agg ⟨[.int .i64 (5), .int .i64 (0)]⟩, .agg ⟨[.int .i64 (0), .int .i64 (0)]⟩, .agg ⟨[.int .i64 (0), .int .i64 (10)]⟩], [], .int .i64 (-50), []⟩
theorem a73_gives : Cl.gives ((Cl.run env0 3000).pcall a73.g a73.args a73.h) a73.v a73.new = true := by kernel_rfl
def a74 : Cl.Entry := ⟨44, [.agg ⟨[.int .i64 (5), .int .i64 (0)]⟩, .agg ⟨[.int .i64 (9), .int .i64 (9)]⟩, .agg ⟨[.int .i64 (4), .int .i64 (3)]⟩], [], .int .i64 (21), []⟩
theorem a74_gives : Cl.gives ((Cl.run env0 3000).pcall a74.g a74.args a74.h) a74.v a74.new = true := by kernel_rfl
def a75 : Cl.Entry := ⟨44, [.agg ⟨[.int .i64 (5), .int .i64 (0)]⟩, .agg ⟨[.int .i64 (4), .int .i64 (3)]⟩, .agg ⟨[.int .i64 (10), .int .i64 (0)]⟩], [], .int .i64 (-15), []⟩
theorem a75_gives : Cl.gives ((Cl.run env0 3000).pcall a75.g a75.args a75.h) a75.v a75.new = true := by kernel_rfl
def a76 : Cl.Entry := ⟨44, [.agg ⟨[.int .i64 (5), .int .i64 (0)]⟩, .agg ⟨[.int .i64 (10), .int .i64 (0)]⟩, .agg ⟨[.int .i64 (9), .int .i64 (9)]⟩], [], .int .i64 (45), []⟩
theorem a76_gives : Cl.gives ((Cl.run env0 3000).pcall a76.g a76.args a76.h) a76.v a76.new = true := by kernel_rfl
def a77 : Cl.Entry := ⟨44, [.agg ⟨[.int .i64 (5), .int .i64 (0)]⟩, .agg ⟨[.int .i64 (4), .int .i64 (3)]⟩, .agg ⟨[.int .i64 (0), .int .i64 (10)]⟩], [], .int .i64 (5), []⟩
theorem a77_gives : Cl.gives ((Cl.run env0 3000).pcall a77.g a77.args a77.h) a77.v a77.new = true := by kernel_rfl
def a78 : Cl.Entry := ⟨44, [.agg ⟨[.int .i64 (5), .int .i64 (0)]⟩, .agg ⟨[.int .i64 (0), .int .i64 (10)]⟩, .agg ⟨[.int .i64 (9), .int .i64 (9)]⟩], [], .int .i64 (-85), []⟩
theorem a78_gives : Cl.gives ((Cl.run env0 3000).pcall a78.g a78.args a78.h) a78.v a78.new = true := by kernel_rfl
def a79 : Cl.Entry := ⟨44, [.agg ⟨[.int .i64 (10), .int .i64 (10)]⟩, .agg ⟨[.int .i64 (10), .int .i64 (0)]⟩, .agg ⟨[.int .i64 (4), .int .i64 (3)]⟩], [], .int .i64 (-60), []⟩
theorem a79_gives : Cl.gives ((Cl.run env0 3000).pcall a79.g a79.args a79.h) a79.v a79.new = true := by kernel_rfl
def a80 : Cl.Entry := ⟨44, [.agg ⟨[.int .i64 (10), .int .i64 (10)]⟩, .agg ⟨[.int .i64 (4), .int .i64 (3)]⟩, .agg ⟨[.int .i64 (0), .int .i64 (0)]⟩], [], .int .i64 (-10), []⟩
theorem a80_gives : Cl.gives ((Cl.run env0 3000).pcall a80.g a80.args a80.h) a80.v a80.new = true := by kernel_rfl
def a81 : Cl.Entry := ⟨44, [.agg ⟨[.int .i64 (10), .int .i64 (10)]⟩, .agg ⟨[.int .i64 (0), .int .i64 (0)]⟩, .agg ⟨[.int .i64 (10), .int .i64 (0)]⟩], [], .int .i64 (100), []⟩
theorem a81_gives : Cl.gives ((Cl.run env0 3000).pcall a81.g a81.args a81.h) a81.v a81.new = true := by kernel_rfl
def a82 : Cl.Entry := ⟨44, [.agg ⟨[.int .i64 (10), .int .i64 (10)]⟩, .agg ⟨[.int .i64 (0), .int .i64 (10)]⟩, .agg ⟨[.int .i64 (4), .int .i64 (3)]⟩], [], .int .i64 (70), []⟩
theorem a82_gives : Cl.gives ((Cl.run env0 3000).pcall a82.g a82.args a82.h) a82.v a82.new = true := by kernel_rfl
def a83 : Cl.Entry := ⟨44, [.agg ⟨[.int .i64 (10), .int .i64 (10)]⟩, .agg ⟨[.int .i64 (0), .int .i64 (0)]⟩, .agg ⟨[.int .i64 (0), .int .i64 (10)]⟩], [], .int .i64 (-100), []⟩
theorem a83_gives : Cl.gives ((Cl.run env0 3000).pcall a83.g a83.args a83.h) a83.v a83.new = true := by kernel_rfl
def a84 : Cl.Entry := ⟨44, [.agg ⟨[.int .i64 (10), .int .i64 (10)]⟩, .agg ⟨[.int .i64 (9), .int .i64 (9)]⟩, .agg ⟨[.int .i64 (4), .int .i64 (3)]⟩], [], .int .i64 (1), []⟩
theorem a84_gives : Cl.gives ((Cl.run env0 3000).pcall a84.g a84.args a84.h) a84.v a84.new = true := by kernel_rfl
def a85 : Cl.Entry := ⟨44, [.agg ⟨[.int .i64 (10), .int .i64 (10)]⟩, .agg ⟨[.int .i64 (4), .int .i64 (3)]⟩, .agg ⟨[.int .i64 (10), .int .i64 (0)]⟩], [], .int .i64 (60), []⟩
theorem a85_gives : Cl.gives ((Cl.run env0 3000).pcall a85.g a85.args a85.h) a85.v a85.new = true := by kernel_rfl
def a86 : Cl.Entry := ⟨44, [.agg ⟨[.int .i64 (10), .int .i64 (10)]⟩, .agg ⟨[.int .i64 (10), .int .i64 (0)]⟩, .agg ⟨[.int .i64 (9), .int .i64 (9)]⟩], [], .int .i64 (-10), []⟩
theorem a86_gives : Cl.gives ((Cl.run env0 3000).pcall a86.g a86.args a86.h) a86.v a86.new = true := by kernel_rfl
def a87 : Cl.Entry := ⟨44, [.agg ⟨[.int .i64 (10), .int .i64 (10)]⟩, .agg ⟨[.int .i64 (4), .int .i64 (3)]⟩, .agg ⟨[.int .i64 (0), .int .i64 (10)]⟩], [], .int .i64 (-70), []⟩
theorem a87_gives : Cl.gives ((Cl.run env0 3000).pcall a87.g a87.args a87.h) a87.v a87.new = true := by kernel_rfl
def a88 : Cl.Entry := ⟨44, [.agg ⟨[.int .i64 (10), .int .i64 (10)]⟩, .agg ⟨[.int .i64 (0), .int .i64 (10)]⟩, .agg ⟨[.int .i64 (9), .int .i64 (9)]⟩], [], .int .i64 (10), []⟩
theorem a88_gives : Cl.gives ((Cl.run env0 3000).pcall a88.g a88.args a88.h) a88.v a88.new = true := by kernel_rfl
def a89 : Cl.Entry := ⟨44, [.agg ⟨[.int .i64 (0), .int .i64 (0)]⟩, .agg ⟨[.int .i64 (0), .int .i64 (0)]⟩, .agg ⟨[.int .i64 (10), .int .i64 (0)]⟩], [], .int .i64 (0), []⟩
theorem a89_gives : Cl.gives ((Cl.run env0 3000).pcall a89.g a89.args a89.h) a89.v a89.new = true := by kernel_rfl
def a90 : Cl.Entry := ⟨44, [.agg ⟨[.int .i64 (0), .int .i64 (0)]⟩, .agg ⟨[.int .i64 (0), .int .i64 (0)]⟩, .agg ⟨[.int .i64 (0), .int .i64 (10)]⟩], [], .int .i64 (0), []⟩
theorem a90_gives : Cl.gives ((Cl.run env0 3000).pcall a90.g a90.args a90.h) a90.v a90.new = true := by kernel_rfl
def a91 : Cl.Entry := ⟨44, [.agg ⟨[.int .i64 (0), .int .i64 (0)]⟩, .agg ⟨[.int .i64 (5), .int .i64 (0)]⟩, .agg ⟨[.int .i64 (5), .int .i64 (5)]⟩], [], .int .i64 (25), []⟩
theorem a91_gives : Cl.gives ((Cl.run env0 3000).pcall a91.g a91.args a91.h) a91.v a91.new = true := by kernel_rfl
def a92 : Cl.Entry := ⟨44, [.agg ⟨[.int .i64 (0), .int .i64 (0)]⟩, .agg ⟨[.int .i64 (5), .int .i64 (0)]⟩, .agg ⟨[.int .i64 (0), .int .i64 (5)]⟩], [], .int .i64 (25), []⟩
theorem a92_gives : Cl.gives ((Cl.run env0 3000).pcall a92.g a92.args a92.h) a92.v a92.new = true := by kernel_rfl
def a93 : Cl.Entry := ⟨44, [.agg ⟨[.int .i64 (0), .int .i64 (0)]⟩, .agg ⟨[.int .i64 (5), .int .i64 (5)]⟩, .agg ⟨[.int .i64 (0), .int .i64 (5)]⟩], [], .int .i64 (25), []⟩
theorem a93_gives : Cl.gives ((Cl.run env0 3000).pcall a93.g a93.args a93.h) a93.v a93.new = true := by kernel_rfl
def a94 : Cl.Entry := ⟨44, [.agg ⟨[.int .i64 (5), .int .i64 (0)]⟩, .agg ⟨[.int .i64 (5), .int .i64 (5)]⟩, .agg ⟨[.int .i64 (0), .int .i64 (5)]⟩], [], .int .i64 (25), []⟩
theorem a94_gives : Cl.gives ((Cl.run env0 3000).pcall a94.g a94.args a94.h) a94.v a94.new = true := by kernel_rfl
def a95 : Cl.Entry := ⟨44, [.agg ⟨[.int .i64 (0), .int .i64 (0)]⟩, .agg ⟨[.int .i64 (5), .int .i64 (5)]⟩, .agg ⟨[.int .i64 (7), .int .i64 (7)]⟩], [], .int .i64 (0), []⟩
theorem a95_gives : Cl.gives ((Cl.run env0 3000).pcall a95.g a95.args a95.h) a95.v a95.new = true := by kernel_rfl
def a96 : Cl.Entry := ⟨48, [.agg ⟨[.int .i64 (0), .int .i64 (0)]⟩, .agg ⟨[.int .i64 (10), .int .i64 (0)]⟩, .agg ⟨[.int .i64 (0), .int .i64 (10)]⟩, .agg ⟨[.int .i64 (0), .int .i64 (0)]⟩], [], .int .i64 (0), []⟩
theorem a96_gives : Cl.gives ((Cl.run env0 3000).pcall a96.g a96.args a96.h) a96.v a96.new = true := by kernel_rfl
def a97 : Cl.Entry := ⟨48, [.agg ⟨[.int .i64 (0), .int .i64 (0)]⟩, .agg ⟨[.int .i64 (10), .int .i64 (0)]⟩, .agg ⟨[.int .i64 (0), .int .i64 (10)]⟩, .agg ⟨[.int .i64 (10), .int .i64 (0)]⟩], [], .int .i64 (0), []⟩
theorem a97_gives : Cl.gives ((Cl.run env0 3000).pcall a97.g a97.args a97.h) a97.v a97.new = true := by kernel_rfl
def a98 : Cl.Entry := ⟨48, [.agg ⟨[.int .i64 (0), .int .i64 (0)]⟩, .agg ⟨[.int .i64 (10), .int .i64 (0)]⟩, .agg ⟨[.int .i64 (0), .int .i64 (10)]⟩, .agg ⟨[.int .i64 (0), .int .i64 (10)]⟩], [], .int .i64 (0), []⟩
theorem a98_gives : Cl.gives ((Cl.run env0 3000).pcall a98.g a98.args a98.h) a98.v a98.new = true := by kernel_rfl
def a99 : Cl.Entry := ⟨48, [.agg ⟨[.int .i64 (0), .int .i64 (0)]⟩, .agg ⟨[.int .i64 (10), .int .i64 (0)]⟩, .agg ⟨[.int .i64 (0), .int .i64 (10)]⟩, .agg ⟨[.int .i64 (9), .int .i64 (9)]⟩], [], .int .i64 (1800), []⟩
theorem a99_gives : Cl.gives ((Cl.run env0 3000).pcall a99.g a99.args a99.h) a99.v a99.new = true := by kernel_rfl
def a100 : Cl.Entry := ⟨48, [.agg ⟨[.int .i64 (0), .int .i64 (0)]⟩, .agg ⟨[.int .i64 (10), .int .i64 (0)]⟩, .agg ⟨[.int .i64 (0), .int .i64 (10)]⟩, .agg ⟨[.int .i64 (4), .int .i64 (3)]⟩], [], .int .i64 (4500), []⟩
theorem a100_gives : Cl.gives ((Cl.run env0 3000).pcall a100.g a100.args a100.h) a100.v a100.new = true := by kernel_rfl
def a101 : Cl.Entry := ⟨48, [.agg ⟨[.int .i64 (0), .int .i64 (0)]⟩, .agg ⟨[.int .i64 (10), .int .i64 (0)]⟩, .agg ⟨[.int .i64 (9), .int .i64 (9)]⟩, .agg ⟨[.int .i64 (0), .int .i64 (0)]⟩], [], .int .i64 (0), []⟩
theorem a101_gives : Cl.gives ((Cl.run env0 3000).pcall a101.g a101.args a101.h) a101.v a101.new = true := by kernel_rfl
def a102 : Cl.Entry := ⟨48, [.agg ⟨[.int .i64 (0), .int .i64 (0)]⟩, .agg ⟨[.int .i64 (10), .int .i64 (0)]⟩, .agg ⟨[.int .i64 (9), .int .i64 (9)]⟩, .agg ⟨[.int .i64 (10), .int .i64 (0)]⟩], [], .int .i64 (0), []⟩
theorem a102_gives : Cl.gives ((Cl.run env0 3000).pcall a102.g a102.args a102.h) a102.v a102.new = true := by kernel_rfl
def a103 : Cl.Entry := ⟨48, [.agg ⟨[.int .i64 (0), .int .i64 (0)]⟩, .agg ⟨[.int .i64 (10), .int .i64 (0)]⟩, .agg ⟨[.int .i64 (9), .int .i64 (9)]⟩, .agg ⟨[.int .i64 (0), .int .i64 (10)]⟩], [], .int .i64 (-1800), []⟩
theorem a103_gives : Cl.gives ((Cl.run env0 3000).pcall a103.g a103.args a103.h) a103.v a103.new = true := by kernel_rfl
def a104 : Cl.Entry := ⟨48, [.agg ⟨[.int .i64 (0), .int .i64 (0)]⟩, .agg ⟨[.int .i64 (10), .int .i64 (0)]⟩, .agg ⟨[.int .i64 (9), .int .i64 (9)]⟩, .agg ⟨[.int .i64 (9), .int .i64 (9)]⟩], [], .int .i64 (0), []⟩
theorem a104_gives : Cl.gives ((Cl.run env0 3000).pcall a104.g a104.args a104.h) a104.v a104.new = true := by kernel_rfl
def a105 : Cl.Entry := ⟨48, [.agg ⟨[.int .i64 (0), .int .i64 (0)]⟩, .agg ⟨[.int .i64 (10), .int .i64 (0)]⟩, .agg ⟨[.int .i64 (9), .int .i64 (9)]⟩, .agg ⟨[.int .i64 (4), .int .i64 (3)]⟩], [], .int .i64 (3510), []⟩
theorem a105_gives : Cl.gives ((Cl.run env0 3000).pcall a105.g a105.args a105.h) a105.v a105.new = true := by kernel_rfl
def a106 : Cl.Entry := ⟨48, [.agg ⟨[.int .i64 (0), .int .i64 (0)]⟩, .agg ⟨[.int .i64 (10), .int .i64 (0)]⟩, .agg ⟨[.int .i64 (4), .int .i64 (3)]⟩, .agg ⟨[.int .i64 (0), .int .i64 (0)]⟩], [], .int .i64 (0), []⟩
theorem a106_gives : Cl.gives ((Cl.run env0 3000).pcall a106.g a106.args a106.h) a106.v a106.new = true := by kernel_rfl
def a107 : Cl.Entry := ⟨48, [.agg ⟨[.int .i64 (0), .int .i64 (0)]⟩, .agg ⟨[.int .i64 (10), .int .i64 (0)]⟩, .agg ⟨[.int .i64 (4), .int .i64 (3)]⟩, .agg ⟨[.int .i64 (10), .int .i64 (0)]⟩], [], .int .i64 (0), []⟩
theorem a107_gives : Cl.gives ((Cl.run env0 3000).pcall a107.g a107.args a107.h) a107.v a107.new = true := by kernel_rfl
def a108 : Cl.Entry := ⟨48, [.agg ⟨[.int .i64 (0), .int .i64 (0)]⟩, .agg ⟨[.int .i64 (10), .int .i64 (0)]⟩, .agg ⟨[.int .i64 (4), .int .i64 (3)]⟩, .agg ⟨[.int .i64 (0), .int .i64 (10)]⟩], [], .int .i64 (-4500), []⟩
theorem a108_gives : Cl.gives ((Cl.run env0 3000).pcall a108.g a108.args a108.h) a108.v a108.new = true := by kernel_rfl
def a109 : Cl.Entry := ⟨48, [.agg ⟨[.int .i64 (0), .int .i64 (0)]⟩, .agg ⟨[.int .i64 (10), .int .i64 (0)]⟩, .agg ⟨[.int .i64 (4), .int .i64 (3)]⟩, .agg ⟨[.int .i64 (9), .int .i64 (9)]⟩], [], .int .i64 (-3510), []⟩
theorem a109_gives : Cl.gives ((Cl.run env0 3000).pcall a109.g a109.args a109.h) a109.v a109.new = true := by kernel_rfl
def a110 : Cl.Entry := ⟨48, [.agg ⟨[.int .i64 (0), .int .i64 (0)]⟩, .agg ⟨[.int .i64 (10), .int .i64 (0)]⟩, .agg ⟨[.int .i64 (4), .int .i64 (3)]⟩, .agg ⟨[.int .i64 (4), .int .i64 (3)]⟩], [], .int .i64 (0), []⟩
theorem a110_gives : Cl.gives ((Cl.run env0 3000).pcall a110.g a110.args a110.h) a110.v a110.new = true := by kernel_rfl
def a111 : Cl.Entry := ⟨48, [.agg ⟨[.int .i64 (0), .int .i64 (0)]⟩, .agg ⟨[.int .i64 (0), .int .i64 (10)]⟩, .agg ⟨[.int .i64 (9), .int .i64 (9)]⟩, .agg ⟨[.int .i64 (0), .int .i64 (0)]⟩], [], .int .i64 (0), []⟩
theorem a111_gives : Cl.gives ((Cl.run env0 3000).pcall a111.g a111.args a111.h) a111.v a111.new = true := by kernel_rfl
def a112 : Cl.Entry := ⟨48, [.agg ⟨[.int .i64 (0), .int .i64 (0)]⟩, .agg ⟨[.int .i64 (0), .int .i64 (10)]⟩, .agg ⟨[.int .i64 (9), .int .i64 (9)]⟩, .agg ⟨[.int .i64 (10), .int .i64 (0)]⟩], [], .int .i64 (1800), []⟩
theorem a112_gives : Cl.gives ((Cl.run env0 3000).pcall a112.g a112.args a112.h) a112.v a112.new = true := by kernel_rfl
def a113 : Cl.Entry := ⟨48, [.agg ⟨[.int .i64 (0), .int .i64 (0)]⟩, .agg ⟨[.int .i64 (0), .int .i64 (10)]⟩, .agg ⟨[.int .i64 (9), .int .i64 (9)]⟩, .agg ⟨[.int .i64 (0), .int .i64 (10)]⟩], [], .int .i64 (0), []⟩
theorem a113_gives : Cl.gives ((Cl.run env0 3000).pcall a113.g a113.args a113.h) a113.v a113.new = true := by kernel_rfl
def a114 : Cl.Entry := ⟨48, [.agg ⟨[.int .i64 (0), .int .i64 (0)]⟩, .agg ⟨[.int .i64 (0), .int .i64 (10)]⟩, .agg ⟨[.int .i64 (9), .int .i64 (9)]⟩, .agg ⟨[.int .i64 (9), .int .i64 (9)]⟩], [], .int .i64 (0), []⟩
theorem a114_gives : Cl.gives ((Cl.run env0 3000).pcall a114.g a114.args a114.h) a114.v a114.new = true := by kernel_rfl
def a115 : Cl.Entry := ⟨48, [.agg ⟨[.int .i64 (0), .int .i64 (0)]⟩, .agg ⟨[.int .i64 (0), .int .i64 (10)]⟩, .agg ⟨[.int .i64 (9), .int .i64 (9)]⟩, .agg ⟨[.int .i64 (4), .int .i64 (3)]⟩], [], .int .i64 (-3330), []⟩
theorem a115_gives : Cl.gives ((Cl.run env0 3000).pcall a115.g a115.args a115.h) a115.v a115.new = true := by kernel_rfl
def a116 : Cl.Entry := ⟨48, [.agg ⟨[.int .i64 (0), .int .i64 (0)]⟩, .agg ⟨[.int .i64 (0), .int .i64 (10)]⟩, .agg ⟨[.int .i64 (4), .int .i64 (3)]⟩, .agg ⟨[.int .i64 (0), .int .i64 (0)]⟩], [], .int .i64 (0), []⟩
theorem a116_gives : Cl.gives ((Cl.run env0 3000).pcall a116.g a116.args a116.h) a116.v a116.new = true := by kernel_rfl
def a117 : Cl.Entry := ⟨48, [.agg ⟨[.int .i64 (0), .int .i64 (0)]⟩, .agg ⟨[.int .i64 (0), .int .i64 (10)]⟩, .agg ⟨[.int .i64 (4), .int .i64 (3)]⟩, .agg ⟨[.int .i64 (10), .int .i64 (0)]⟩], [], .int .i64 (4500), []⟩
theorem a117_gives : Cl.gives ((Cl.run env0 3000).pcall a117.g a117.args a117.h) a117.v a117.new = true := by kernel_rfl
def a118 : Cl.Entry := ⟨48, [.agg ⟨[.int .i64 (0), .int .i64 (0)]⟩, .agg ⟨[.int .i64 (0), .int .i64 (10)]⟩, .agg ⟨[.int .i64 (4), .int .i64 (3)]⟩, .agg ⟨[.int .i64 (0), .int .i64 (10)]⟩], [], .int .i64 (0), []⟩
theorem a118_gives : Cl.gives ((Cl.run env0 3000).pcall a118.g a118.args a118.h) a118.v a118.new = true := by kernel_rfl
def a119 : Cl.Entry := ⟨48, [.agg ⟨[.int .i64 (0), .int .i64 (0)]⟩, .agg ⟨[.int .i64 (0), .int .i64 (10)]⟩, .agg ⟨[.int .i64 (4), .int .i64 (3)]⟩, .agg ⟨[.int .i64 (9), .int .i64 (9)]⟩], [], .int .i64 (3330), []⟩
theorem a119_gives : Cl.gives ((Cl.run env0 3000).pcall a119.g a119.args a119.h) a119.v a119.new = true := by kernel_rfl
def a120 : Cl.Entry := ⟨48, [.agg ⟨[.int .i64 (0), .int .i64 (0)]⟩, .agg ⟨[.int .i64 (0), .int .i64 (10)]⟩, .agg ⟨[.int .i64 (4), .int .i64 (3)]⟩, .agg ⟨[.int .i64 (4), .int .i64 (3)]⟩], [], .int .i64 (0), []⟩
theorem a120_gives : Cl.gives ((Cl.run env0 3000).pcall a120.g a120.args a120.h) a120.v a120.new = true := by kernel_rfl
def a121 : Cl.Entry := ⟨48, [.agg ⟨[.int .i64 (0), .int .i64 (0)]⟩, .agg ⟨[.int .i64 (9), .int .i64 (9)]⟩, .agg ⟨[.int .i64 (4), .int .i64 (3)]⟩, .agg ⟨[.int .i64 (0), .int .i64 (0)]⟩], [], .int .i64 (0), []⟩
theorem a121_gives : Cl.gives ((Cl.run env0 3000).pcall a121.g a121.args a121.h) a121.v a121.new = true := by kernel_rfl
def a122 : Cl.Entry := ⟨48, [.agg ⟨[.int .i64 (0), .int .i64 (0)]⟩, .agg ⟨[.int .i64 (9), .int .i64 (9)]⟩, .agg ⟨[.int .i64 (4), .int .i64 (3)]⟩, .agg ⟨[.int .i64 (10), .int .i64 (0)]⟩], [], .int .i64 (3510), []⟩
theorem a122_gives : Cl.gives ((Cl.run env0 3000).pcall a122.g a122.args a122.h) a122.v a122.new = true := by kernel_rfl
def a123 : Cl.Entry := ⟨48, [.agg ⟨[.int .i64 (0), .int .i64 (0)]⟩, .agg ⟨[.int .i64 (9), .int .i64 (9)]⟩, .agg ⟨[.int .i64 (4), .int .i64 (3)]⟩, .agg ⟨[.int .i64 (0), .int .i64 (10)]⟩], [], .int .i64 (-3330), []⟩
theorem a123_gives : Cl.gives ((Cl.run env0 3000).pcall a123.g a123.args a123.h) a123.v a123.new = true := by kernel_rfl
def a124 : Cl.Entry := ⟨48, [.agg ⟨[.int .i64 (0), .int .i64 (0)]⟩, .agg ⟨[.int .i64 (9), .int .i64 (9)]⟩, .agg ⟨[.int .i64 (4), .int .i64 (3)]⟩, .agg ⟨[.int .i64 (9), .int .i64 (9)]⟩], [], .int .i64 (0), []⟩
theorem a124_gives : Cl.gives ((Cl.run env0 3000).pcall a124.g a124.args a124.h) a124.v a124.new = true := by kernel_rfl
def a125 : Cl.Entry := ⟨48, [.agg ⟨[.int .i64 (0), .int .i64 (0)]⟩, .agg ⟨[.int .i64 (9), .int .i64 (9)]⟩, .agg ⟨[.int .i64 (4), .int .i64 (3)]⟩, .agg ⟨[.int .i64 (4), .int .i64 (3)]⟩], [], .int .i64 (0), []⟩
theorem a125_gives : Cl.gives ((Cl.run env0 3000).pcall a125.g a125.args a125.h) a125.v a125.new = true := by kernel_rfl
def a126 : Cl.Entry := ⟨48, [.agg ⟨[.int .i64 (10), .int .i64 (0)]⟩, .agg ⟨[.int .i64 (0), .int .i64 (10)]⟩, .agg ⟨[.int .i64 (9), .int .i64 (9)]⟩, .agg ⟨[.int .i64 (0), .int .i64 (0)]⟩], [], .int .i64 (-1800), []⟩
theorem a126_gives : Cl.gives ((Cl.run env0 3000).pcall a126.g a126.args a126.h) a126.v a126.new = true := by kernel_rfl
def a127 : Cl.Entry := ⟨48, [.agg ⟨[.int .i64 (10), .int .i64 (0)]⟩, .agg ⟨[.int .i64 (0), .int .i64 (10)]⟩, .agg ⟨[.int .i64 (9), .int .i64 (9)]⟩, .agg ⟨[.int .i64 (10), .int .i64 (0)]⟩], [], .int .i64 (0), []⟩
theorem a127_gives : Cl.gives ((Cl.run env0 3000).pcall a127.g a127.args a127.h) a127.v a127.new = true := by kernel_rfl
def a128 : Cl.Entry := ⟨48, [.agg ⟨[.int .i64 (10), .int .i64 (0)]⟩, .agg ⟨[.int .i64 (0), .int .i64 (10)]⟩, .agg ⟨[.int .i64 (9), .int .i64 (9)]⟩, .agg ⟨[.int .i64 (0), .int .i64 (10)]⟩], [], .int .i64 (0), []⟩
theorem a128_gives : Cl.gives ((Cl.run env0 3000).pcall a128.g a128.args a128.h) a128.v a128.new = true := by kernel_rfl
def a129 : Cl.Entry := ⟨48, [.agg ⟨[.int .i64 (10), .int .i64 (0)]⟩, .agg ⟨[.int .i64 (0), .int .i64 (10)]⟩, .agg ⟨[.int .i64 (9), .int .i64 (9)]⟩, .agg ⟨[.int .i64 (9), .int .i64 (9)]⟩], [], .int .i64 (0), []⟩
theorem a129_gives : Cl.gives ((Cl.run env0 3000).pcall a129.g a129.args a129.h) a129.v a129.new = true := by kernel_rfl
def a130 : Cl.Entry := ⟨48, [.agg ⟨[.int .i64 (10), .int .i64 (0)]⟩, .agg ⟨[.int .i64 (0), .int .i64 (10)]⟩, .agg ⟨[.int .i64 (9), .int .i64 (9)]⟩, .agg ⟨[.int .i64 (4), .int .i64 (3)]⟩], [], .int .i64 (-4140), []⟩
theorem a130_gives : Cl.gives ((Cl.run env0 3000).pcall a130.g a130.args a130.h) a130.v a130.new = true := by kernel_rfl
def a131 : Cl.Entry := ⟨48, [.agg ⟨[.int .i64 (10), .int .i64 (0)]⟩, .agg ⟨[.int .i64 (0), .int .i64 (10)]⟩, .agg ⟨[.int .i64 (4), .int .i64 (3)]⟩, .agg ⟨[.int .i64 (0), .int .i64 (0)]⟩], [], .int .i64 (-4500), []⟩
theorem a131_gives : Cl.gives ((Cl.run env0 3000).pcall a131.g a131.args a131.h) a131.v a131.new = true := by kernel_rfl
def a132 : Cl.Entry := ⟨48, [.agg ⟨[.int .i64 (10), .int .i64 (0)]⟩, .agg ⟨[.int .i64 (0), .int .i64 (10)]⟩, .agg ⟨[.int .i64 (4), .int .i64 (3)]⟩, .agg ⟨[.int .i64 (10), .int .i64 (0)]⟩], [], .int .i64 (0), []⟩
theorem a132_gives : Cl.gives ((Cl.run env0 3000).pcall a132.g a132.args a132.h) a132.v a132.new = true := by kernel_rfl
def a133 : Cl.Entry := ⟨48, [.agg ⟨[.int .i64 (10), .int .i64 (0)]⟩, .agg ⟨[.int .i64 (0), .int .i64 (10)]⟩, .agg ⟨[.int .i64 (4), .int .i64 (3)]⟩, .agg ⟨[.int .i64 (0), .int .i64 (10)]⟩], [], .int .i64 (0), []⟩
theorem a133_gives : Cl.gives ((Cl.run env0 3000).pcall a133.g a133.args a133.h) a133.v a133.new = true := by kernel_rfl
def a134 : Cl.Entry := ⟨48, [.agg ⟨[.int .i64 (10), .int .i64 (0)]⟩, .agg ⟨[.int .i64 (0), .int .i64 (10)]⟩, .agg ⟨[.int .i64 (4), .int .i64 (3)]⟩, .agg ⟨[.int .i64 (9), .int .i64 (9)]⟩], [], .int .i64 (4140), []⟩
theorem a134_gives : Cl.gives ((Cl.run env0 3000).pcall a134.g a134.args a134.h) a134.v a134.new = true := by kernel_rfl
def a135 : Cl.Entry := ⟨48, [.agg ⟨[.int .i64 (10), .int .i64 (0)]⟩, .agg ⟨[.int .i64 (0), .int .i64 (10)]⟩, .agg ⟨[.int .i64 (4), .int .i64 (3)]⟩, .agg ⟨[.int .i64 (4), .int .i64 (3)]⟩], [], .int .i64 (0), []⟩
theorem a135_gives : Cl.gives ((Cl.run env0 3000).pcall a135.g a135.args a135.h) a135.v a135.new = true := by kernel_rfl
def a136 : Cl.Entry := ⟨48, [.agg ⟨[.int .i64 (10), .int .i64 (0)]⟩, .agg ⟨[.int .i64 (9), .int .i64 (9)]⟩, .agg ⟨[.int .i64 (4), .int .i64 (3)]⟩, .agg ⟨[.int .i64 (0), .int .i64 (0)]⟩], [], .int .i64 (-3510), []⟩
theorem a136_gives : Cl.gives ((Cl.run env0 3000).pcall a136.g a136.args a136.h) a136.v a136.new = true := by kernel_rfl
def a137 : Cl.Entry := ⟨48, [.agg ⟨[.int .i64 (10), .int .i64 (0)]⟩, .agg ⟨[.int .i64 (9), .int .i64 (9)]⟩, .agg ⟨[.int .i64 (4), .int .i64 (3)]⟩, .agg ⟨[.int .i64 (10), .int .i64 (0)]⟩], [], .int .i64 (0), []⟩
theorem a137_gives : Cl.gives ((Cl.run env0 3000).pcall a137.g a137.args a137.h) a137.v a137.new = true := by kernel_rfl
def a138 : Cl.Entry := ⟨48, [.agg ⟨[.int .i64 (10), .int .i64 (0)]⟩, .agg ⟨[.int .i64 (9), .int .i64 (9)]⟩, .agg ⟨[.int .i64 (4), .int .i64 (3)]⟩, .agg ⟨[.int .i64 (0), .int .i64 (10)]⟩], [], .int .i64 (-4140), []⟩
theorem a138_gives : Cl.gives ((Cl.run env0 3000).pcall a138.g a138.args a138.h) a138.v a138.new = true := by kernel_rfl
def a139 : Cl.Entry := ⟨48, [.agg ⟨[.int .i64 (10), .int .i64 (0)]⟩, .agg ⟨[.int .i64 (9), .int .i64 (9)]⟩, .agg ⟨[.int .i64 (4), .int .i64 (3)]⟩, .agg ⟨[.int .i64 (9), .int .i64 (9)]⟩], [], .int .i64 (0), []⟩
theorem a139_gives : Cl.gives ((Cl.run env0 3000).pcall a139.g a139.args a139.h) a139.v a139.new = true := by kernel_rfl
def a140 : Cl.Entry := ⟨48, [.agg ⟨[.int .i64 (10), .int .i64 (0)]⟩, .agg ⟨[.int .i64 (9), .int .i64 (9)]⟩, .agg ⟨[.int .i64 (4), .int .i64 (3)]⟩, .agg ⟨[.int .i64 (4), .int .i64 (3)]⟩], [], .int .i64 (0), []⟩
theorem a140_gives : Cl.gives ((Cl.run env0 3000).pcall a140.g a140.args a140.h) a140.v a140.new = true := by kernel_rfl
def a141 : Cl.Entry := ⟨48, [.agg ⟨[.int .i64 (0), .int .i64 (10)]⟩, .agg ⟨[.int .i64 (9), .int .i64 (9)]⟩, .agg ⟨[.int .i64 (4), .int .i64 (3)]⟩, .agg ⟨[.int .i64 (0), .int .i64 (0)]⟩], [], .int .i64 (3330), []⟩
theorem a141_gives : Cl.gives ((Cl.run env0 3000).pcall a141.g a141.args a141.h) a141.v a141.new = true := by kernel_rfl
def a142 : Cl.Entry := ⟨48, [.agg ⟨[.int .i64 (0), .int .i64 (10)]⟩, .agg ⟨[.int .i64 (9), .int .i64 (9)]⟩, .agg ⟨[.int .i64 (4), .int .i64 (3)]⟩, .agg ⟨[.int .i64 (10), .int .i64 (0)]⟩], [], .int .i64 (4140), []⟩
theorem a142_gives : Cl.gives ((Cl.run env0 3000).pcall a142.g a142.args a142.h) a142.v a142.new = true := by kernel_rfl
def a143 : Cl.Entry := ⟨48, [.agg ⟨[.int .i64 (0), .int .i64 (10)]⟩, .agg ⟨[.int .i64 (9), .int .i64 (9)]⟩, .agg ⟨[.int .i64 (4), .int .i64 (3)]⟩, .agg ⟨[.int .i64 (0), .int .i64 (10)]⟩], [], .int .i64 (0), []⟩
theorem a143_gives : Cl.gives ((Cl.run env0 3000).pcall a143.g a143.args a143.h) a143.v a143.new = true := by kernel_rfl
def a144 : Cl.Entry := ⟨48, [.agg ⟨[.int .i64 (0), .int .i64 (10)]⟩, .agg ⟨[.int .i64 (9), .int .i64 (9)]⟩, .agg ⟨[.int .i64 (4), .int .i64 (3)]⟩, .agg ⟨[.int .i64 (9), .int .i64 (9)]⟩], [], .int .i64 (0), []⟩
theorem a144_gives : Cl.gives ((Cl.run env0 3000).pcall a144.g a144.args a144.h) a144.v a144.new = true := by kernel_rfl
def a145 : Cl.Entry := ⟨48, [.agg ⟨[.int .i64 (0), .int .i64 (10)]⟩, .agg ⟨[.int .i64 (9), .int .i64 (9)]⟩, .agg ⟨[.int .i64 (4), .int .i64 (3)]⟩, .agg ⟨[.int .i64 (4), .int .i64 (3)]⟩], [], .int .i64 (0), []⟩
theorem a145_gives : Cl.gives ((Cl.run env0 3000).pcall a145.g a145.args a145.h) a145.v a145.new = true := by kernel_rfl
def a146 : Cl.Entry := ⟨48, [.agg ⟨[.int .i64 (4), .int .i64 (3)]⟩, .agg ⟨[.int .i64 (10), .int .i64 (0)]⟩, .agg ⟨[.int .i64 (0), .int .i64 (10)]⟩, .agg ⟨[.int .i64 (9), .int .i64 (9)]⟩], [], .int .i64 (4140), []⟩
theorem a146_gives : Cl.gives ((Cl.run env0 3000).pcall a146.g a146.args a146.h) a146.v a146.new = true := by kernel_rfl
def a147 : Cl.Entry := ⟨48, [.agg ⟨[.int .i64 (4), .int .i64 (3)]⟩, .agg ⟨[.int .i64 (9), .int .i64 (9)]⟩, .agg ⟨[.int .i64 (0), .int .i64 (0)]⟩, .agg ⟨[.int .i64 (0), .int .i64 (10)]⟩], [], .int .i64 (3330), []⟩
theorem a147_gives : Cl.gives ((Cl.run env0 3000).pcall a147.g a147.args a147.h) a147.v a147.new = true := by kernel_rfl
def a148 : Cl.Entry := ⟨48, [.agg ⟨[.int .i64 (0), .int .i64 (0)]⟩, .agg ⟨[.int .i64 (4), .int .i64 (3)]⟩, .agg ⟨[.int .i64 (0), .int .i64 (10)]⟩, .agg ⟨[.int .i64 (9), .int .i64 (9)]⟩], [], .int .i64 (-3330), []⟩
theorem a148_gives : Cl.gives ((Cl.run env0 3000).pcall a148.g a148.args a148.h) a148.v a148.new = true := by kernel_rfl
def a149 : Cl.Entry := ⟨48, [.agg ⟨[.int .i64 (0), .int .i64 (10)]⟩, .agg ⟨[.int .i64 (4), .int .i64 (3)]⟩, .agg ⟨[.int .i64 (10), .int .i64 (0)]⟩, .agg ⟨[.int .i64 (9), .int .i64 (9)]⟩], [], .int .i64 (4140), []⟩
theorem a149_gives : Cl.gives ((Cl.run env0 3000).pcall a149.g a149.args a149.h) a149.v a149.new = true := by kernel_rfl
def a150 : Cl.Entry := ⟨48, [.agg ⟨[.int .i64 (0), .int .i64 (0)]⟩, .agg ⟨[.int .i64 (5), .int .i64 (0)]⟩, .agg ⟨[.int .i64 (5), .int .i64 (5)]⟩, .agg ⟨[.int .i64 (0), .int .i64 (0)]⟩], [], .int .i64 (0), []⟩
theorem a150_gives : Cl.gives ((Cl.run env0 3000).pcall a150.g a150.args a150.h) a150.v a150.new = true := by kernel_rfl
def a151 : Cl.Entry := ⟨48, [.agg ⟨[.int .i64 (0), .int .i64 (0)]⟩, .agg ⟨[.int .i64 (5), .int .i64 (0)]⟩, .agg ⟨[.int .i64 (5), .int .i64 (5)]⟩, .agg ⟨[.int .i64 (5), .int .i64 (0)]⟩], [], .int .i64 (0), []⟩
theorem a151_gives : Cl.gives ((Cl.run env0 3000).pcall a151.g a151.args a151.h) a151.v a151.new = true := by kernel_rfl
def a152 : Cl.Entry := ⟨48, [.agg ⟨[.int .i64 (0), .int .i64 (0)]⟩, .agg ⟨[.int .i64 (5), .int .i64 (0)]⟩, .agg ⟨[.int .i64 (5), .int .i64 (5)]⟩, .agg ⟨[.int .i64 (5), .int .i64 (5)]⟩], [], .int .i64 (0), []⟩
theorem a152_gives : Cl.gives ((Cl.run env0 3000).pcall a152.g a152.args a152.h) a152.v a152.new = true := by kernel_rfl
def a153 : Cl.Entry := ⟨48, [.agg ⟨[.int .i64 (0), .int .i64 (0)]⟩, .agg ⟨[.int .i64 (5), .int .i64 (0)]⟩, .agg ⟨[.int .i64 (5), .int .i64 (5)]⟩, .agg ⟨[.int .i64 (0), .int .i64 (5)]⟩], [], .int .i64 (0), []⟩
theorem a153_gives : Cl.gives ((Cl.run env0 3000).pcall a153.g a153.args a153.h) a153.v a153.new = true := by kernel_rfl
def a154 : Cl.Entry := ⟨48, [.agg ⟨[.int .i64 (0), .int .i64 (0)]⟩, .agg ⟨[.int .i64 (5), .int .i64 (0)]⟩, .agg ⟨[.int .i64 (0), .int .i64 (5)]⟩, .agg ⟨[.int .i64 (0), .int .i64 (0)]⟩], [], .int .i64 (0), []⟩
theorem a154_gives : Cl.gives ((Cl.run env0 3000).pcall a154.g a154.args a154.h) a154.v a154.new = true := by kernel_rfl
def a155 : Cl.Entry := ⟨48, [.agg ⟨[.int .i64 (0), .int .i64 (0)]⟩, .agg ⟨[.int .i64 (5), .int .i64 (0)]⟩, .agg ⟨[.int .i64 (0), .int .i64 (5)]⟩, .agg ⟨[.int .i64 (5), .int .i64 (0)]⟩], [], .int .i64 (0), []⟩
theorem a155_gives : Cl.gives ((Cl.run env0 3000).pcall a155.g a155.args a155.h) a155.v a155.new = true := by kernel_rfl
def a156 : Cl.Entry := ⟨48, [.agg ⟨[.int .i64 (0), .int .i64 (0)]⟩, .agg ⟨[.int .i64 (5), .int .i64 (0)]⟩, .agg ⟨[.int .i64 (0), .int .i64 (5)]⟩, .agg ⟨[.int .i64 (5), .int .i64 (5)]⟩], [], .int .i64 (0), []⟩
theorem a156_gives : Cl.gives ((Cl.run env0 3000).pcall a156.g a156.args a156.h) a156.v a156.new = true := by kernel_rfl
def a157 : Cl.Entry := ⟨48, [.agg ⟨[.int .i64 (0), .int .i64 (0)]⟩, .agg ⟨[.int .i64 (5), .int .i64 (0)]⟩, .agg ⟨[.int .i64 (0), .int .i64 (5)]⟩, .agg ⟨[.int .i64 (0), .int .i64 (5)]⟩], [], .int .i64 (0), []⟩
theorem a157_gives : Cl.gives ((Cl.run env0 3000).pcall a157.g a157.args a157.h) a157.v a157.new = true := by kernel_rfl
def a158 : Cl.Entry := ⟨48, [.agg ⟨[.int .i64 (0), .int .i64 (0)]⟩, .agg ⟨[.int .i64 (5), .int .i64 (5)]⟩, .agg ⟨[.int .i64 (0), .int .i64 (5)]⟩, .agg ⟨[.int .i64 (0), .int .i64 (0)]⟩], [], .int .i64 (0), []⟩
theorem a158_gives : Cl.gives ((Cl.run env0 3000).pcall a158.g a158.args a158.h) a158.v a158.new = true := by kernel_rfl
def a159 : Cl.Entry := ⟨48, [.agg ⟨[.int .i64 (0), .int .i64 (0)]⟩, .agg ⟨[.int .i64 (5), .int .i64 (5)]⟩, .agg ⟨[.int .i64 (0), .int .i64 (5)]⟩, .agg ⟨[.int .i64 (5), .int .i64 (0)]⟩], [], .int .i64 (0), []⟩
theorem a159_gives : Cl.gives ((Cl.run env0 3000).pcall a159.g a159.args a159.h) a159.v a159.new = true := by kernel_rfl
def a160 : Cl.Entry := ⟨48, [.agg ⟨[.int .i64 (0), .int .i64 (0)]⟩, .agg ⟨[.int .i64 (5), .int .i64 (5)]⟩, .agg ⟨[.int .i64 (0), .int .i64 (5)]⟩, .agg ⟨[.int .i64 (5), .int .i64 (5)]⟩], [], .int .i64 (0), []⟩
theorem a160_gives : Cl.gives ((Cl.run env0 3000).pcall a160.g a160.args a160.h) a160.v a160.new = true := by kernel_rfl
def a161 : Cl.Entry := ⟨48, [.agg ⟨[.int .i64 (0), .int .i64 (0)]⟩, .agg ⟨[.int .i64 (5), .int .i64 (5)]⟩, .agg ⟨[.int .i64 (0), .int .i64 (5)]⟩, .agg ⟨[.int .i64 (0), .int .i64 (5)]⟩], [], .int .i64 (0), []⟩
theorem a161_gives : Cl.gives ((Cl.run env0 3000).pcall a161.g a161.args a161.h) a161.v a161.new = true := by kernel_rfl
def a162 : Cl.Entry := ⟨48, [.agg ⟨[.int .i64 (5), .int .i64 (0)]⟩, .agg ⟨[.int .i64 (5), .int .i64 (5)]⟩, .agg ⟨[.int .i64 (0), .int .i64 (5)]⟩, .agg ⟨[.int .i64 (0), .int .i64 (0)]⟩], [], .int .i64 (0), []⟩
theorem a162_gives : Cl.gives ((Cl.run env0 3000).pcall a162.g a162.args a162.h) a162.v a162.new = true := by kernel_rfl
def a163 : Cl.Entry := ⟨48, [.agg ⟨[.int .i64 (5), .int .i64 (0)]⟩, .agg ⟨[.int .i64 (5), .int .i64 (5)]⟩, .agg ⟨[.int .i64 (0), .int .i64 (5)]⟩, .agg ⟨[.int .i64 (5), .int .i64 (0)]⟩], [], .int .i64 (0), []⟩
theorem a163_gives : Cl.gives ((Cl.run env0 3000).pcall a163.g a163.args a163.h) a163.v a163.new = true := by kernel_rfl
def a164 : Cl.Entry := ⟨48, [.agg ⟨[.int .i64 (5), .int .i64 (0)]⟩, .agg ⟨[.int .i64 (5), .int .i64 (5)]⟩, .agg ⟨[.int .i64 (0), .int .i64 (5)]⟩, .agg ⟨[.int .i64 (5), .int .i64 (5)]⟩], [], .int .i64 (0), []⟩
theorem a164_gives : Cl.gives ((Cl.run env0 3000).pcall a164.g a164.args a164.h) a164.v a164.new = true := by kernel_rfl
def a165 : Cl.Entry := ⟨48, [.agg ⟨[.int .i64 (5), .int .i64 (0)]⟩, .agg ⟨[.int .i64 (5), .int .i64 (5)]⟩, .agg ⟨[.int .i64 (0), .int .i64 (5)]⟩, .agg ⟨[.int .i64 (0), .int .i64 (5)]⟩], [], .int .i64 (0), []⟩
theorem a165_gives : Cl.gives ((Cl.run env0 3000).pcall a165.g a165.args a165.h) a165.v a165.new = true := by kernel_rfl
def table0 : List Cl.Entry := [a0, a1, a2, a3, a4, a5, a6, a7, a8, a9, a10, a11, a12, a13, a14, a15, a16, a17, a18, a19, a20, a21, a22, a23, a24, a25, a26, a27, a28, a29, a30, a31, a32, a33, a34, a35, a36, a37, a38, a39, a40, a41, a42, a43, a44, a45, a46, a47, a48, a49, a50, a51, a52, a53, a54, a55, a56, a57, a58, a59, a60, a61, a62, a63, a64, a65, a66, a67, a68, a69, a70, a71, a72, a73, a74, a75, a76, a77, a78, a79, a80, a81, a82, a83, a84, a85, a86, a87, a88, a89, a90, a91, a92, a93, a94, a95, a96, a97, a98, a99, a100, a101, a102, a103, a104, a105, a106, a107, a108, a109, a110, a111, a112, a113, a114, a115, a116, a117, a118, a119, a120, a121, a122, a123, a124, a125, a126, a127, a128, a129, a130, a131, a132, a133, a134, a135, a136, a137, a138, a139, a140, a141, a142, a143, a144, a145, a146, a147, a148, a149, a150, a151, a152, a153, a154, a155, a156, a157, a158, a159, a160, a161, a162, a163, a164, a165]
theorem mixed : env0.P.follows .mixedOrders = true := by kernel_rfl
theorem true0 : ∀ e ∈ table0, Cl.PureSim env0.P e.g e.args e.h e.v e.new := by
  have hS : Cl.SumOk env0 := Cl.sumOk_none fun _ => rfl
  intro e he
  simp only [table0, List.mem_cons, List.not_mem_nil, or_false] at he
  rcases he with rfl | rfl | rfl | rfl | rfl | rfl | rfl | rfl | rfl | rfl | rfl | rfl | rfl | rfl | rfl | rfl | rfl | rfl | rfl | rfl | rfl | rfl | rfl | rfl | rfl | rfl | rfl | rfl | rfl | rfl | rfl | rfl | rfl | rfl | rfl | rfl | rfl | rfl | rfl | rfl | rfl | rfl | rfl | rfl | rfl | rfl | rfl | rfl | rfl | rfl | rfl | rfl | rfl | rfl | rfl | rfl | rfl | rfl | rfl | rfl | rfl | rfl | rfl | rfl | rfl | rfl | rfl | rfl | rfl | rfl | rfl | rfl | rfl | rfl | rfl | rfl | rfl | rfl | rfl | rfl | rfl | rfl | rfl | rfl | rfl | rfl | rfl | rfl | rfl | rfl | rfl | rfl | rfl | rfl | rfl | rfl | rfl | rfl | rfl | rfl | rfl | rfl | rfl | rfl | rfl | rfl | rfl | rfl | rfl | rfl | rfl | rfl | rfl | rfl | rfl | rfl | rfl | rfl | rfl | rfl | rfl | rfl | rfl | rfl | rfl | rfl | rfl | rfl | rfl | rfl | rfl | rfl | rfl | rfl | rfl | rfl | rfl | rfl | rfl | rfl | rfl | rfl | rfl | rfl | rfl | rfl | rfl | rfl | rfl | rfl | rfl | rfl | rfl | rfl | rfl | rfl | rfl | rfl | rfl | rfl | rfl | rfl | rfl | rfl | rfl | rfl
  · exact Cl.entry_ok hS mixed a0_gives
  · exact Cl.entry_ok hS mixed a1_gives
  · exact Cl.entry_ok hS mixed a2_gives
  · exact Cl.entry_ok hS mixed a3_gives
  · exact Cl.entry_ok hS mixed a4_gives
  · exact Cl.entry_ok hS mixed a5_gives
  · exact Cl.entry_ok hS mixed a6_gives
  · exact Cl.entry_ok hS mixed a7_gives
  · exact Cl.entry_ok hS mixed a8_gives
  · exact Cl.entry_ok hS mixed a9_gives
  · exact Cl.entry_ok hS mixed a10_gives
  · exact Cl.entry_ok hS mixed a11_gives
  · exact Cl.entry_ok hS mixed a12_gives
  · exact Cl.entry_ok hS mixed a13_gives
  · exact Cl.entry_ok hS mixed a14_gives
  · exact Cl.entry_ok hS mixed a15_gives
  · exact Cl.entry_ok hS mixed a16_gives
  · exact Cl.entry_ok hS mixed a17_gives
  · exact Cl.entry_ok hS mixed a18_gives
  · exact Cl.entry_ok hS mixed a19_gives
  · exact Cl.entry_ok hS mixed a20_gives
  · exact Cl.entry_ok hS mixed a21_gives
  · exact Cl.entry_ok hS mixed a22_gives
  · exact Cl.entry_ok hS mixed a23_gives
  · exact Cl.entry_ok hS mixed a24_gives
  · exact Cl.entry_ok hS mixed a25_gives
  · exact Cl.entry_ok hS mixed a26_gives
  · exact Cl.entry_ok hS mixed a27_gives
  · exact Cl.entry_ok hS mixed a28_gives
  · exact Cl.entry_ok hS mixed a29_gives
  · exact Cl.entry_ok hS mixed a30_gives
  · exact Cl.entry_ok hS mixed a31_gives
  · exact Cl.entry_ok hS mixed a32_gives
  · exact Cl.entry_ok hS mixed a33_gives
  · exact Cl.entry_ok hS mixed a34_gives
  · exact Cl.entry_ok hS mixed a35_gives
  · exact Cl.entry_ok hS mixed a36_gives
  · exact Cl.entry_ok hS mixed a37_gives
  · exact Cl.entry_ok hS mixed a38_gives
  · exact Cl.entry_ok hS mixed a39_gives
  · exact Cl.entry_ok hS mixed a40_gives
  · exact Cl.entry_ok hS mixed a41_gives
  · exact Cl.entry_ok hS mixed a42_gives
  · exact Cl.entry_ok hS mixed a43_gives
  · exact Cl.entry_ok hS mixed a44_gives
  · exact Cl.entry_ok hS mixed a45_gives
  · exact Cl.entry_ok hS mixed a46_gives
  · exact Cl.entry_ok hS mixed a47_gives
  · exact Cl.entry_ok hS mixed a48_gives
  · exact Cl.entry_ok hS mixed a49_gives
  · exact Cl.entry_ok hS mixed a50_gives
  · exact Cl.entry_ok hS mixed a51_gives
  · exact Cl.entry_ok hS mixed a52_gives
  · exact Cl.entry_ok hS mixed a53_gives
  · exact Cl.entry_ok hS mixed a54_gives
  · exact Cl.entry_ok hS mixed a55_gives
  · exact Cl.entry_ok hS mixed a56_gives
  · exact Cl.entry_ok hS mixed a57_gives
  · exact Cl.entry_ok hS mixed a58_gives
  · exact Cl.entry_ok hS mixed a59_gives
  · exact Cl.entry_ok hS mixed a60_gives
  · exact Cl.entry_ok hS mixed a61_gives
  · exact Cl.entry_ok hS mixed a62_gives
  · exact Cl.entry_ok hS mixed a63_gives
  · exact Cl.entry_ok hS mixed a64_gives
  · exact Cl.entry_ok hS mixed a65_gives
  · exact Cl.entry_ok hS mixed a66_gives
  · exact Cl.entry_ok hS mixed a67_gives
  · exact Cl.entry_ok hS mixed a68_gives
  · exact Cl.entry_ok hS mixed a69_gives
  · exact Cl.entry_ok hS mixed a70_gives
  · exact Cl.entry_ok hS mixed a71_gives
  · exact Cl.entry_ok hS mixed a72_gives
  · exact Cl.entry_ok hS mixed a73_gives
  · exact Cl.entry_ok hS mixed a74_gives
  · exact Cl.entry_ok hS mixed a75_gives
  · exact Cl.entry_ok hS mixed a76_gives
  · exact Cl.entry_ok hS mixed a77_gives
  · exact Cl.entry_ok hS mixed a78_gives
  · exact Cl.entry_ok hS mixed a79_gives
  · exact Cl.entry_ok hS mixed a80_gives
  · exact Cl.entry_ok hS mixed a81_gives
  · exact Cl.entry_ok hS mixed a82_gives
  · exact Cl.entry_ok hS mixed a83_gives
  · exact Cl.entry_ok hS mixed a84_gives
  · exact Cl.entry_ok hS mixed a85_gives
  · exact Cl.entry_ok hS mixed a86_gives
  · exact Cl.entry_ok hS mixed a87_gives
  · exact Cl.entry_ok hS mixed a88_gives
  · exact Cl.entry_ok hS mixed a89_gives
  · exact Cl.entry_ok hS mixed a90_gives
  · exact Cl.entry_ok hS mixed a91_gives
  · exact Cl.entry_ok hS mixed a92_gives
  · exact Cl.entry_ok hS mixed a93_gives
  · exact Cl.entry_ok hS mixed a94_gives
  · exact Cl.entry_ok hS mixed a95_gives
  · exact Cl.entry_ok hS mixed a96_gives
  · exact Cl.entry_ok hS mixed a97_gives
  · exact Cl.entry_ok hS mixed a98_gives
  · exact Cl.entry_ok hS mixed a99_gives
  · exact Cl.entry_ok hS mixed a100_gives
  · exact Cl.entry_ok hS mixed a101_gives
  · exact Cl.entry_ok hS mixed a102_gives
  · exact Cl.entry_ok hS mixed a103_gives
  · exact Cl.entry_ok hS mixed a104_gives
  · exact Cl.entry_ok hS mixed a105_gives
  · exact Cl.entry_ok hS mixed a106_gives
  · exact Cl.entry_ok hS mixed a107_gives
  · exact Cl.entry_ok hS mixed a108_gives
  · exact Cl.entry_ok hS mixed a109_gives
  · exact Cl.entry_ok hS mixed a110_gives
  · exact Cl.entry_ok hS mixed a111_gives
  · exact Cl.entry_ok hS mixed a112_gives
  · exact Cl.entry_ok hS mixed a113_gives
  · exact Cl.entry_ok hS mixed a114_gives
  · exact Cl.entry_ok hS mixed a115_gives
  · exact Cl.entry_ok hS mixed a116_gives
  · exact Cl.entry_ok hS mixed a117_gives
  · exact Cl.entry_ok hS mixed a118_gives
  · exact Cl.entry_ok hS mixed a119_gives
  · exact Cl.entry_ok hS mixed a120_gives
  · exact Cl.entry_ok hS mixed a121_gives
  · exact Cl.entry_ok hS mixed a122_gives
  · exact Cl.entry_ok hS mixed a123_gives
  · exact Cl.entry_ok hS mixed a124_gives
  · exact Cl.entry_ok hS mixed a125_gives
  · exact Cl.entry_ok hS mixed a126_gives
  · exact Cl.entry_ok hS mixed a127_gives
  · exact Cl.entry_ok hS mixed a128_gives
  · exact Cl.entry_ok hS mixed a129_gives
  · exact Cl.entry_ok hS mixed a130_gives
  · exact Cl.entry_ok hS mixed a131_gives
  · exact Cl.entry_ok hS mixed a132_gives
  · exact Cl.entry_ok hS mixed a133_gives
  · exact Cl.entry_ok hS mixed a134_gives
  · exact Cl.entry_ok hS mixed a135_gives
  · exact Cl.entry_ok hS mixed a136_gives
  · exact Cl.entry_ok hS mixed a137_gives
  · exact Cl.entry_ok hS mixed a138_gives
  · exact Cl.entry_ok hS mixed a139_gives
  · exact Cl.entry_ok hS mixed a140_gives
  · exact Cl.entry_ok hS mixed a141_gives
  · exact Cl.entry_ok hS mixed a142_gives
  · exact Cl.entry_ok hS mixed a143_gives
  · exact Cl.entry_ok hS mixed a144_gives
  · exact Cl.entry_ok hS mixed a145_gives
  · exact Cl.entry_ok hS mixed a146_gives
  · exact Cl.entry_ok hS mixed a147_gives
  · exact Cl.entry_ok hS mixed a148_gives
  · exact Cl.entry_ok hS mixed a149_gives
  · exact Cl.entry_ok hS mixed a150_gives
  · exact Cl.entry_ok hS mixed a151_gives
  · exact Cl.entry_ok hS mixed a152_gives
  · exact Cl.entry_ok hS mixed a153_gives
  · exact Cl.entry_ok hS mixed a154_gives
  · exact Cl.entry_ok hS mixed a155_gives
  · exact Cl.entry_ok hS mixed a156_gives
  · exact Cl.entry_ok hS mixed a157_gives
  · exact Cl.entry_ok hS mixed a158_gives
  · exact Cl.entry_ok hS mixed a159_gives
  · exact Cl.entry_ok hS mixed a160_gives
  · exact Cl.entry_ok hS mixed a161_gives
  · exact Cl.entry_ok hS mixed a162_gives
  · exact Cl.entry_ok hS mixed a163_gives
  · exact Cl.entry_ok hS mixed a164_gives
  · exact Cl.entry_ok hS mixed a165_gives
end Go.Proofs.Ytnhcgbcmnhdocaa.worked
