/- The kernel evaluates calls of the tables, part 7. -/
import Derived.Test.YtkcfgcfmjfgloaaGreatTab
import Derived.Test.YtkcfgcfmjfgloaaGreatM1
import Derived.KernelRfl
set_option maxRecDepth 100000
namespace Go.Ev.Tb
open Go Go.Ev Go.Proofs
theorem c_s4 : ck Tryz.prog (tabOrc memos [] Tw.mulOrc) 10000 s4 = true := by kernel_rfl
theorem c_t0_1 : ck Tryz.prog (tabOrc memos [] Tw.mulOrc) 10000 t0_1 = true := by kernel_rfl
theorem c_t1_4 : ck Tryz.prog (tabOrc memos [] Tw.mulOrc) 10000 t1_4 = true := by kernel_rfl
theorem c_t3_5 : ck Tryz.prog (tabOrc memos [] Tw.mulOrc) 10000 t3_5 = true := by kernel_rfl
theorem c_t4_6 : ck Tryz.prog (tabOrc memos [] Tw.mulOrc) 10000 t4_6 = true := by kernel_rfl
theorem c_t9_0 : ck Tryz.prog (tabOrc memos [] Tw.mulOrc) 10000 t9_0 = true := by kernel_rfl
theorem c_t11_3 : ck Tryz.prog (tabOrc memos [] Tw.mulOrc) 10000 t11_3 = true := by kernel_rfl
theorem c_t13_1 : ck Tryz.prog (tabOrc memos [] Tw.mulOrc) 10000 t13_1 = true := by kernel_rfl
theorem c_t13_2 : ck Tryz.prog (tabOrc memos [] Tw.mulOrc) 10000 t13_2 = true := by kernel_rfl
theorem c_t17_2 : ck Tryz.prog (tabOrc memos [] Tw.mulOrc) 10000 t17_2 = true := by kernel_rfl
theorem c_t18_1 : ck Tryz.prog (tabOrc memos [] Tw.mulOrc) 10000 t18_1 = true := by kernel_rfl
end Go.Ev.Tb
