/- The kernel evaluates calls of the tables, part 0. -/
import Derived.Test.YtkcfgcfmjfgloaaGreatTab
import Derived.Test.YtkcfgcfmjfgloaaGreatM1
import Derived.KernelRfl
set_option maxRecDepth 100000
namespace Go.Ev.Tb
open Go Go.Ev Go.Proofs
theorem c_memos : allL (ckM Tryz.prog noRec 10000) memos = true := by kernel_rfl
theorem c_sane : ckM Tryz.prog (tabOrc memos [s19, s18, s17, s16, s15, s14, s13, s12] Tw.mulOrc) 10000 sane = true := by kernel_rfl
theorem c_s8 : ck Tryz.prog (tabOrc memos [] Tw.mulOrc) 10000 s8 = true := by kernel_rfl
theorem c_s11 : ck Tryz.prog (tabOrc memos [s3, s2, s1, s0] Tw.mulOrc) 10000 s11 = true := by kernel_rfl
theorem c_s19 : ck Tryz.prog (tabOrc memos [] Tw.mulOrc) 10000 s19 = true := by kernel_rfl
theorem c_t0_3 : ck Tryz.prog (tabOrc memos [] Tw.mulOrc) 10000 t0_3 = true := by kernel_rfl
theorem c_t0_4 : ck Tryz.prog (tabOrc memos [] Tw.mulOrc) 10000 t0_4 = true := by kernel_rfl
theorem c_t4_5 : ck Tryz.prog (tabOrc memos [] Tw.mulOrc) 10000 t4_5 = true := by kernel_rfl
theorem c_t5_5 : ck Tryz.prog (tabOrc memos [] Tw.mulOrc) 10000 t5_5 = true := by kernel_rfl
theorem c_t5_6 : ck Tryz.prog (tabOrc memos [t5_0] Tw.mulOrc) 10000 t5_6 = true := by kernel_rfl
theorem c_t14_3 : ck Tryz.prog (tabOrc memos [] Tw.mulOrc) 10000 t14_3 = true := by kernel_rfl
end Go.Ev.Tb
