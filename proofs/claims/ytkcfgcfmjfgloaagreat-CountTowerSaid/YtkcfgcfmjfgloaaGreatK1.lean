/- The kernel evaluates calls of the tables, part 1. -/
import Derived.Test.YtkcfgcfmjfgloaaGreatTab
import Derived.Test.YtkcfgcfmjfgloaaGreatM1
import Derived.KernelRfl
set_option maxRecDepth 100000
namespace Go.Ev.Tb
open Go Go.Ev Go.Proofs
theorem c_s13 : ck Tryz.prog (tabOrc memos [] Tw.mulOrc) 10000 s13 = true := by kernel_rfl
theorem c_t2_2 : ck Tryz.prog (tabOrc memos [] Tw.mulOrc) 10000 t2_2 = true := by kernel_rfl
theorem c_t3_1 : ck Tryz.prog (tabOrc memos [] Tw.mulOrc) 10000 t3_1 = true := by kernel_rfl
theorem c_t4_4 : ck Tryz.prog (tabOrc memos [] Tw.mulOrc) 10000 t4_4 = true := by kernel_rfl
theorem c_t5_0 : ck Tryz.prog (tabOrc memos [] Tw.mulOrc) 10000 t5_0 = true := by kernel_rfl
theorem c_t5_4 : ck Tryz.prog (tabOrc memos [] Tw.mulOrc) 10000 t5_4 = true := by kernel_rfl
theorem c_t6_1 : ck Tryz.prog (tabOrc memos [] Tw.mulOrc) 10000 t6_1 = true := by kernel_rfl
theorem c_t9_3 : ck Tryz.prog (tabOrc memos [] Tw.mulOrc) 10000 t9_3 = true := by kernel_rfl
theorem c_t12_2 : ck Tryz.prog (tabOrc memos [] Tw.mulOrc) 10000 t12_2 = true := by kernel_rfl
theorem c_t15_0 : ck Tryz.prog (tabOrc memos [] Tw.mulOrc) 10000 t15_0 = true := by kernel_rfl
theorem c_t19_0 : ck Tryz.prog (tabOrc memos [] Tw.mulOrc) 10000 t19_0 = true := by kernel_rfl
theorem c_t19_3 : ck Tryz.prog (tabOrc memos [] Tw.mulOrc) 10000 t19_3 = true := by kernel_rfl
end Go.Ev.Tb
