/- The kernel evaluates calls of the tables, part 8. -/
import Derived.Test.YtkcfgcfmjfgloaaGreatTab
import Derived.Test.YtkcfgcfmjfgloaaGreatM1
import Derived.KernelRfl
set_option maxRecDepth 100000
namespace Go.Ev.Tb
open Go Go.Ev Go.Proofs
theorem c_s3 : ck Tryz.prog (tabOrc memos [] Tw.mulOrc) 10000 s3 = true := by kernel_rfl
theorem c_s18 : ck Tryz.prog (tabOrc memos [] Tw.mulOrc) 10000 s18 = true := by kernel_rfl
theorem c_t1_1 : ck Tryz.prog (tabOrc memos [] Tw.mulOrc) 10000 t1_1 = true := by kernel_rfl
theorem c_t2_5 : ck Tryz.prog (tabOrc memos [] Tw.mulOrc) 10000 t2_5 = true := by kernel_rfl
theorem c_t4_3 : ck Tryz.prog (tabOrc memos [] Tw.mulOrc) 10000 t4_3 = true := by kernel_rfl
theorem c_t5_2 : ck Tryz.prog (tabOrc memos [] Tw.mulOrc) 10000 t5_2 = true := by kernel_rfl
theorem c_t8_0 : ck Tryz.prog (tabOrc memos [] Tw.mulOrc) 10000 t8_0 = true := by kernel_rfl
theorem c_t10_3 : ck Tryz.prog (tabOrc memos [] Tw.mulOrc) 10000 t10_3 = true := by kernel_rfl
theorem c_t12_3 : ck Tryz.prog (tabOrc memos [] Tw.mulOrc) 10000 t12_3 = true := by kernel_rfl
theorem c_t16_3 : ck Tryz.prog (tabOrc memos [] Tw.mulOrc) 10000 t16_3 = true := by kernel_rfl
theorem c_t18_2 : ck Tryz.prog (tabOrc memos [] Tw.mulOrc) 10000 t18_2 = true := by kernel_rfl
end Go.Ev.Tb
