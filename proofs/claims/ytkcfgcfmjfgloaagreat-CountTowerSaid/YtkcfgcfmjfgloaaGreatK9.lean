/- The kernel evaluates calls of the tables, part 9. -/
import Derived.Test.YtkcfgcfmjfgloaaGreatTab
import Derived.Test.YtkcfgcfmjfgloaaGreatM1
import Derived.KernelRfl
set_option maxRecDepth 100000
namespace Go.Ev.Tb
open Go Go.Ev Go.Proofs
theorem c_t2_1 : ck Tryz.prog (tabOrc memos [] Tw.mulOrc) 10000 t2_1 = true := by kernel_rfl
theorem c_t3_0 : ck Tryz.prog (tabOrc memos [] Tw.mulOrc) 10000 t3_0 = true := by kernel_rfl
theorem c_t3_2 : ck Tryz.prog (tabOrc memos [] Tw.mulOrc) 10000 t3_2 = true := by kernel_rfl
theorem c_t8_1 : ck Tryz.prog (tabOrc memos [] Tw.mulOrc) 10000 t8_1 = true := by kernel_rfl
theorem c_t9_2 : ck Tryz.prog (tabOrc memos [] Tw.mulOrc) 10000 t9_2 = true := by kernel_rfl
theorem c_t12_1 : ck Tryz.prog (tabOrc memos [] Tw.mulOrc) 10000 t12_1 = true := by kernel_rfl
theorem c_t13_3 : ck Tryz.prog (tabOrc memos [] Tw.mulOrc) 10000 t13_3 = true := by kernel_rfl
theorem c_t14_0 : ck Tryz.prog (tabOrc memos [] Tw.mulOrc) 10000 t14_0 = true := by kernel_rfl
theorem c_t14_1 : ck Tryz.prog (tabOrc memos [] Tw.mulOrc) 10000 t14_1 = true := by kernel_rfl
theorem c_t17_1 : ck Tryz.prog (tabOrc memos [] Tw.mulOrc) 10000 t17_1 = true := by kernel_rfl
theorem c_t17_3 : ck Tryz.prog (tabOrc memos [] Tw.mulOrc) 10000 t17_3 = true := by kernel_rfl
theorem c_t18_0 : ck Tryz.prog (tabOrc memos [] Tw.mulOrc) 10000 t18_0 = true := by kernel_rfl
end Go.Ev.Tb
