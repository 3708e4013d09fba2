/- The kernel evaluates calls of the tables, part 6. -/
import Derived.Test.YtkcfgcfmjfgloaaGreatTab
import Derived.Test.YtkcfgcfmjfgloaaGreatM1
import Derived.KernelRfl
set_option maxRecDepth 100000
namespace Go.Ev.Tb
open Go Go.Ev Go.Proofs
theorem c_s2 : ck Tryz.prog (tabOrc memos [] Tw.mulOrc) 10000 s2 = true := by kernel_rfl
theorem c_s17 : ck Tryz.prog (tabOrc memos [] Tw.mulOrc) 10000 s17 = true := by kernel_rfl
theorem c_t1_0 : ck Tryz.prog (tabOrc memos [] Tw.mulOrc) 10000 t1_0 = true := by kernel_rfl
theorem c_t2_3 : ck Tryz.prog (tabOrc memos [] Tw.mulOrc) 10000 t2_3 = true := by kernel_rfl
theorem c_t3_3 : ck Tryz.prog (tabOrc memos [] Tw.mulOrc) 10000 t3_3 = true := by kernel_rfl
theorem c_t5_1 : ck Tryz.prog (tabOrc memos [] Tw.mulOrc) 10000 t5_1 = true := by kernel_rfl
theorem c_t10_0 : ck Tryz.prog (tabOrc memos [] Tw.mulOrc) 10000 t10_0 = true := by kernel_rfl
theorem c_t10_1 : ck Tryz.prog (tabOrc memos [] Tw.mulOrc) 10000 t10_1 = true := by kernel_rfl
theorem c_t10_2 : ck Tryz.prog (tabOrc memos [] Tw.mulOrc) 10000 t10_2 = true := by kernel_rfl
theorem c_t16_1 : ck Tryz.prog (tabOrc memos [] Tw.mulOrc) 10000 t16_1 = true := by kernel_rfl
theorem c_t18_3 : ck Tryz.prog (tabOrc memos [] Tw.mulOrc) 10000 t18_3 = true := by kernel_rfl
end Go.Ev.Tb
