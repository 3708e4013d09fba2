/- The kernel evaluates calls of the tables, part 3. -/
import Derived.Test.YtkcfgcfmjfgloaaGreatTab
import Derived.Test.YtkcfgcfmjfgloaaGreatM1
import Derived.KernelRfl
set_option maxRecDepth 100000
namespace Go.Ev.Tb
open Go Go.Ev Go.Proofs
theorem c_s1 : ck Tryz.prog (tabOrc memos [] Tw.mulOrc) 10000 s1 = true := by kernel_rfl
theorem c_s14 : ck Tryz.prog (tabOrc memos [] Tw.mulOrc) 10000 s14 = true := by kernel_rfl
theorem c_t0_0 : ck Tryz.prog (tabOrc memos [] Tw.mulOrc) 10000 t0_0 = true := by kernel_rfl
theorem c_t0_5 : ck Tryz.prog (tabOrc memos [] Tw.mulOrc) 10000 t0_5 = true := by kernel_rfl
theorem c_t3_4 : ck Tryz.prog (tabOrc memos [] Tw.mulOrc) 10000 t3_4 = true := by kernel_rfl
theorem c_t4_1 : ck Tryz.prog (tabOrc memos [] Tw.mulOrc) 10000 t4_1 = true := by kernel_rfl
theorem c_t7_1 : ck Tryz.prog (tabOrc memos [] Tw.mulOrc) 10000 t7_1 = true := by kernel_rfl
theorem c_t8_2 : ck Tryz.prog (tabOrc memos [] Tw.mulOrc) 10000 t8_2 = true := by kernel_rfl
theorem c_t15_2 : ck Tryz.prog (tabOrc memos [] Tw.mulOrc) 10000 t15_2 = true := by kernel_rfl
theorem c_t19_2 : ck Tryz.prog (tabOrc memos [] Tw.mulOrc) 10000 t19_2 = true := by kernel_rfl
end Go.Ev.Tb
