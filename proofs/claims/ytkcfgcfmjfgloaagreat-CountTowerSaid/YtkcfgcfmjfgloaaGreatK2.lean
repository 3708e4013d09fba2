/- The kernel evaluates calls of the tables, part 2. -/
import Derived.Test.YtkcfgcfmjfgloaaGreatTab
import Derived.Test.YtkcfgcfmjfgloaaGreatM1
import Derived.KernelRfl
set_option maxRecDepth 100000
namespace Go.Ev.Tb
open Go Go.Ev Go.Proofs
theorem c_s0 : ck Tryz.prog (tabOrc memos [] Tw.mulOrc) 10000 s0 = true := by kernel_rfl
theorem c_s9 : ck Tryz.prog (tabOrc memos [] Tw.mulOrc) 10000 s9 = true := by kernel_rfl
theorem c_s16 : ck Tryz.prog (tabOrc memos [] Tw.mulOrc) 10000 s16 = true := by kernel_rfl
theorem c_t1_2 : ck Tryz.prog (tabOrc memos [] Tw.mulOrc) 10000 t1_2 = true := by kernel_rfl
theorem c_t2_0 : ck Tryz.prog (tabOrc memos [] Tw.mulOrc) 10000 t2_0 = true := by kernel_rfl
theorem c_t6_0 : ck Tryz.prog (tabOrc memos [] Tw.mulOrc) 10000 t6_0 = true := by kernel_rfl
theorem c_t8_3 : ck Tryz.prog (tabOrc memos [] Tw.mulOrc) 10000 t8_3 = true := by kernel_rfl
theorem c_t11_0 : ck Tryz.prog (tabOrc memos [] Tw.mulOrc) 10000 t11_0 = true := by kernel_rfl
theorem c_t14_2 : ck Tryz.prog (tabOrc memos [t14_0] Tw.mulOrc) 10000 t14_2 = true := by kernel_rfl
theorem c_t15_1 : ck Tryz.prog (tabOrc memos [] Tw.mulOrc) 10000 t15_1 = true := by kernel_rfl
theorem c_t16_0 : ck Tryz.prog (tabOrc memos [] Tw.mulOrc) 10000 t16_0 = true := by kernel_rfl
theorem c_t19_1 : ck Tryz.prog (tabOrc memos [] Tw.mulOrc) 10000 t19_1 = true := by kernel_rfl
end Go.Ev.Tb
