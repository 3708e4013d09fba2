/- The kernel evaluates calls of the tables, part 5. -/
import Derived.Test.YtkcfgcfmjfgloaaGreatTab
import Derived.Test.YtkcfgcfmjfgloaaGreatM1
import Derived.KernelRfl
set_option maxRecDepth 100000
namespace Go.Ev.Tb
open Go Go.Ev Go.Proofs
theorem c_s6 : ck Tryz.prog (tabOrc memos [] Tw.mulOrc) 10000 s6 = true := by kernel_rfl
theorem c_s10 : ck Tryz.prog (tabOrc memos [] Tw.mulOrc) 10000 s10 = true := by kernel_rfl
theorem c_s12 : ck Tryz.prog (tabOrc memos [s10, s9, s8, s7, s6, s5, s4, s11] Tw.mulOrc) 10000 s12 = true := by kernel_rfl
theorem c_s15 : ck Tryz.prog (tabOrc memos [] Tw.mulOrc) 10000 s15 = true := by kernel_rfl
theorem c_t1_3 : ck Tryz.prog (tabOrc memos [] Tw.mulOrc) 10000 t1_3 = true := by kernel_rfl
theorem c_t1_5 : ck Tryz.prog (tabOrc memos [] Tw.mulOrc) 10000 t1_5 = true := by kernel_rfl
theorem c_t4_2 : ck Tryz.prog (tabOrc memos [] Tw.mulOrc) 10000 t4_2 = true := by kernel_rfl
theorem c_t7_0 : ck Tryz.prog (tabOrc memos [] Tw.mulOrc) 10000 t7_0 = true := by kernel_rfl
theorem c_t9_1 : ck Tryz.prog (tabOrc memos [] Tw.mulOrc) 10000 t9_1 = true := by kernel_rfl
theorem c_t13_0 : ck Tryz.prog (tabOrc memos [] Tw.mulOrc) 10000 t13_0 = true := by kernel_rfl
theorem c_t16_2 : ck Tryz.prog (tabOrc memos [] Tw.mulOrc) 10000 t16_2 = true := by kernel_rfl
theorem c_t17_0 : ck Tryz.prog (tabOrc memos [] Tw.mulOrc) 10000 t17_0 = true := by kernel_rfl
end Go.Ev.Tb
