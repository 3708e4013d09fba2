/- The kernel evaluates calls of the tables, part 4. -/
import Derived.Test.YtkcfgcfmjfgloaaGreatTab
import Derived.Test.YtkcfgcfmjfgloaaGreatM1
import Derived.KernelRfl
set_option maxRecDepth 100000
namespace Go.Ev.Tb
open Go Go.Ev Go.Proofs
theorem c_s5 : ck Tryz.prog (tabOrc memos [] Tw.mulOrc) 10000 s5 = true := by kernel_rfl
theorem c_s7 : ck Tryz.prog (tabOrc memos [] Tw.mulOrc) 10000 s7 = true := by kernel_rfl
theorem c_t0_2 : ck Tryz.prog (tabOrc memos [] Tw.mulOrc) 10000 t0_2 = true := by kernel_rfl
theorem c_t2_4 : ck Tryz.prog (tabOrc memos [] Tw.mulOrc) 10000 t2_4 = true := by kernel_rfl
theorem c_t4_0 : ck Tryz.prog (tabOrc memos [] Tw.mulOrc) 10000 t4_0 = true := by kernel_rfl
theorem c_t5_3 : ck Tryz.prog (tabOrc memos [] Tw.mulOrc) 10000 t5_3 = true := by kernel_rfl
theorem c_t5_7 : ck Tryz.prog (tabOrc memos [] Tw.mulOrc) 10000 t5_7 = true := by kernel_rfl
theorem c_t11_1 : ck Tryz.prog (tabOrc memos [] Tw.mulOrc) 10000 t11_1 = true := by kernel_rfl
theorem c_t11_2 : ck Tryz.prog (tabOrc memos [] Tw.mulOrc) 10000 t11_2 = true := by kernel_rfl
theorem c_t12_0 : ck Tryz.prog (tabOrc memos [] Tw.mulOrc) 10000 t12_0 = true := by kernel_rfl
theorem c_t14_4 : ck Tryz.prog (tabOrc memos [] Tw.mulOrc) 10000 t14_4 = true := by kernel_rfl
theorem c_t15_3 : ck Tryz.prog (tabOrc memos [] Tw.mulOrc) 10000 t15_3 = true := by kernel_rfl
end Go.Ev.Tb
