/- What the tables say holds of the program; so CountTower returns true. -/
import Derived.Test.YtkcfgcfmjfgloaaGreatK0
import Derived.Test.YtkcfgcfmjfgloaaGreatK1
import Derived.Test.YtkcfgcfmjfgloaaGreatK2
import Derived.Test.YtkcfgcfmjfgloaaGreatK3
import Derived.Test.YtkcfgcfmjfgloaaGreatK4
import Derived.Test.YtkcfgcfmjfgloaaGreatK5
import Derived.Test.YtkcfgcfmjfgloaaGreatK6
import Derived.Test.YtkcfgcfmjfgloaaGreatK7
import Derived.Test.YtkcfgcfmjfgloaaGreatK8
import Derived.Test.YtkcfgcfmjfgloaaGreatK9
import Derived.KernelRfl
set_option maxRecDepth 100000
namespace Go.Ev.Tb
open Go Go.Ev Go.Proofs
theorem mix : Tryz.prog.follows .mixedOrders = true := by kernel_rfl
theorem h_memos : ∀ e ∈ memos, e.Holds Tryz.prog := fun e he => ckM_sound recOk_none mix (allL_mem c_memos e he)
theorem mul_ok : RecOk Tryz.prog Tw.mulOrc := Tw.mulOrc_ok mix
theorem h_s0 : s0.Holds Tryz.prog := ck_sound (tabOrc_ok h_memos all_nil mul_ok) mix c_s0
theorem h_s1 : s1.Holds Tryz.prog := ck_sound (tabOrc_ok h_memos all_nil mul_ok) mix c_s1
theorem h_s2 : s2.Holds Tryz.prog := ck_sound (tabOrc_ok h_memos all_nil mul_ok) mix c_s2
theorem h_s3 : s3.Holds Tryz.prog := ck_sound (tabOrc_ok h_memos all_nil mul_ok) mix c_s3
theorem h_s4 : s4.Holds Tryz.prog := ck_sound (tabOrc_ok h_memos all_nil mul_ok) mix c_s4
theorem h_s5 : s5.Holds Tryz.prog := ck_sound (tabOrc_ok h_memos all_nil mul_ok) mix c_s5
theorem h_s6 : s6.Holds Tryz.prog := ck_sound (tabOrc_ok h_memos all_nil mul_ok) mix c_s6
theorem h_s7 : s7.Holds Tryz.prog := ck_sound (tabOrc_ok h_memos all_nil mul_ok) mix c_s7
theorem h_s8 : s8.Holds Tryz.prog := ck_sound (tabOrc_ok h_memos all_nil mul_ok) mix c_s8
theorem h_s9 : s9.Holds Tryz.prog := ck_sound (tabOrc_ok h_memos all_nil mul_ok) mix c_s9
theorem h_s10 : s10.Holds Tryz.prog := ck_sound (tabOrc_ok h_memos all_nil mul_ok) mix c_s10
theorem h_s11 : s11.Holds Tryz.prog := ck_sound (tabOrc_ok h_memos (all_cons h_s3 (all_cons h_s2 (all_cons h_s1 (all_cons h_s0 all_nil)))) mul_ok) mix c_s11
theorem h_s12 : s12.Holds Tryz.prog := ck_sound (tabOrc_ok h_memos (all_cons h_s10 (all_cons h_s9 (all_cons h_s8 (all_cons h_s7 (all_cons h_s6 (all_cons h_s5 (all_cons h_s4 (all_cons h_s11 all_nil)))))))) mul_ok) mix c_s12
theorem h_s13 : s13.Holds Tryz.prog := ck_sound (tabOrc_ok h_memos all_nil mul_ok) mix c_s13
theorem h_s14 : s14.Holds Tryz.prog := ck_sound (tabOrc_ok h_memos all_nil mul_ok) mix c_s14
theorem h_s15 : s15.Holds Tryz.prog := ck_sound (tabOrc_ok h_memos all_nil mul_ok) mix c_s15
theorem h_s16 : s16.Holds Tryz.prog := ck_sound (tabOrc_ok h_memos all_nil mul_ok) mix c_s16
theorem h_s17 : s17.Holds Tryz.prog := ck_sound (tabOrc_ok h_memos all_nil mul_ok) mix c_s17
theorem h_s18 : s18.Holds Tryz.prog := ck_sound (tabOrc_ok h_memos all_nil mul_ok) mix c_s18
theorem h_s19 : s19.Holds Tryz.prog := ck_sound (tabOrc_ok h_memos all_nil mul_ok) mix c_s19
theorem h_t0_0 : t0_0.Holds Tryz.prog := ck_sound (tabOrc_ok h_memos all_nil mul_ok) mix c_t0_0
theorem h_t0_1 : t0_1.Holds Tryz.prog := ck_sound (tabOrc_ok h_memos all_nil mul_ok) mix c_t0_1
theorem h_t0_2 : t0_2.Holds Tryz.prog := ck_sound (tabOrc_ok h_memos all_nil mul_ok) mix c_t0_2
theorem h_t0_3 : t0_3.Holds Tryz.prog := ck_sound (tabOrc_ok h_memos all_nil mul_ok) mix c_t0_3
theorem h_t0_4 : t0_4.Holds Tryz.prog := ck_sound (tabOrc_ok h_memos all_nil mul_ok) mix c_t0_4
theorem h_t0_5 : t0_5.Holds Tryz.prog := ck_sound (tabOrc_ok h_memos all_nil mul_ok) mix c_t0_5
theorem h_t1_0 : t1_0.Holds Tryz.prog := ck_sound (tabOrc_ok h_memos all_nil mul_ok) mix c_t1_0
theorem h_t1_1 : t1_1.Holds Tryz.prog := ck_sound (tabOrc_ok h_memos all_nil mul_ok) mix c_t1_1
theorem h_t1_2 : t1_2.Holds Tryz.prog := ck_sound (tabOrc_ok h_memos all_nil mul_ok) mix c_t1_2
theorem h_t1_3 : t1_3.Holds Tryz.prog := ck_sound (tabOrc_ok h_memos all_nil mul_ok) mix c_t1_3
theorem h_t1_4 : t1_4.Holds Tryz.prog := ck_sound (tabOrc_ok h_memos all_nil mul_ok) mix c_t1_4
theorem h_t1_5 : t1_5.Holds Tryz.prog := ck_sound (tabOrc_ok h_memos all_nil mul_ok) mix c_t1_5
theorem h_t2_0 : t2_0.Holds Tryz.prog := ck_sound (tabOrc_ok h_memos all_nil mul_ok) mix c_t2_0
theorem h_t2_1 : t2_1.Holds Tryz.prog := ck_sound (tabOrc_ok h_memos all_nil mul_ok) mix c_t2_1
theorem h_t2_2 : t2_2.Holds Tryz.prog := ck_sound (tabOrc_ok h_memos all_nil mul_ok) mix c_t2_2
theorem h_t2_3 : t2_3.Holds Tryz.prog := ck_sound (tabOrc_ok h_memos all_nil mul_ok) mix c_t2_3
theorem h_t2_4 : t2_4.Holds Tryz.prog := ck_sound (tabOrc_ok h_memos all_nil mul_ok) mix c_t2_4
theorem h_t2_5 : t2_5.Holds Tryz.prog := ck_sound (tabOrc_ok h_memos all_nil mul_ok) mix c_t2_5
theorem h_t3_0 : t3_0.Holds Tryz.prog := ck_sound (tabOrc_ok h_memos all_nil mul_ok) mix c_t3_0
theorem h_t3_1 : t3_1.Holds Tryz.prog := ck_sound (tabOrc_ok h_memos all_nil mul_ok) mix c_t3_1
theorem h_t3_2 : t3_2.Holds Tryz.prog := ck_sound (tabOrc_ok h_memos all_nil mul_ok) mix c_t3_2
theorem h_t3_3 : t3_3.Holds Tryz.prog := ck_sound (tabOrc_ok h_memos all_nil mul_ok) mix c_t3_3
theorem h_t3_4 : t3_4.Holds Tryz.prog := ck_sound (tabOrc_ok h_memos all_nil mul_ok) mix c_t3_4
theorem h_t3_5 : t3_5.Holds Tryz.prog := ck_sound (tabOrc_ok h_memos all_nil mul_ok) mix c_t3_5
theorem h_t4_0 : t4_0.Holds Tryz.prog := ck_sound (tabOrc_ok h_memos all_nil mul_ok) mix c_t4_0
theorem h_t4_1 : t4_1.Holds Tryz.prog := ck_sound (tabOrc_ok h_memos all_nil mul_ok) mix c_t4_1
theorem h_t4_2 : t4_2.Holds Tryz.prog := ck_sound (tabOrc_ok h_memos all_nil mul_ok) mix c_t4_2
theorem h_t4_3 : t4_3.Holds Tryz.prog := ck_sound (tabOrc_ok h_memos all_nil mul_ok) mix c_t4_3
theorem h_t4_4 : t4_4.Holds Tryz.prog := ck_sound (tabOrc_ok h_memos all_nil mul_ok) mix c_t4_4
theorem h_t4_5 : t4_5.Holds Tryz.prog := ck_sound (tabOrc_ok h_memos all_nil mul_ok) mix c_t4_5
theorem h_t4_6 : t4_6.Holds Tryz.prog := ck_sound (tabOrc_ok h_memos all_nil mul_ok) mix c_t4_6
theorem h_t5_0 : t5_0.Holds Tryz.prog := ck_sound (tabOrc_ok h_memos all_nil mul_ok) mix c_t5_0
theorem h_t5_1 : t5_1.Holds Tryz.prog := ck_sound (tabOrc_ok h_memos all_nil mul_ok) mix c_t5_1
theorem h_t5_2 : t5_2.Holds Tryz.prog := ck_sound (tabOrc_ok h_memos all_nil mul_ok) mix c_t5_2
theorem h_t5_3 : t5_3.Holds Tryz.prog := ck_sound (tabOrc_ok h_memos all_nil mul_ok) mix c_t5_3
theorem h_t5_4 : t5_4.Holds Tryz.prog := ck_sound (tabOrc_ok h_memos all_nil mul_ok) mix c_t5_4
theorem h_t5_5 : t5_5.Holds Tryz.prog := ck_sound (tabOrc_ok h_memos all_nil mul_ok) mix c_t5_5
theorem h_t5_6 : t5_6.Holds Tryz.prog := ck_sound (tabOrc_ok h_memos (all_cons h_t5_0 all_nil) mul_ok) mix c_t5_6
theorem h_t5_7 : t5_7.Holds Tryz.prog := ck_sound (tabOrc_ok h_memos all_nil mul_ok) mix c_t5_7
theorem h_t6_0 : t6_0.Holds Tryz.prog := ck_sound (tabOrc_ok h_memos all_nil mul_ok) mix c_t6_0
theorem h_t6_1 : t6_1.Holds Tryz.prog := ck_sound (tabOrc_ok h_memos all_nil mul_ok) mix c_t6_1
theorem h_t7_0 : t7_0.Holds Tryz.prog := ck_sound (tabOrc_ok h_memos all_nil mul_ok) mix c_t7_0
theorem h_t7_1 : t7_1.Holds Tryz.prog := ck_sound (tabOrc_ok h_memos all_nil mul_ok) mix c_t7_1
theorem h_t8_0 : t8_0.Holds Tryz.prog := ck_sound (tabOrc_ok h_memos all_nil mul_ok) mix c_t8_0
theorem h_t8_1 : t8_1.Holds Tryz.prog := ck_sound (tabOrc_ok h_memos all_nil mul_ok) mix c_t8_1
theorem h_t8_2 : t8_2.Holds Tryz.prog := ck_sound (tabOrc_ok h_memos all_nil mul_ok) mix c_t8_2
theorem h_t8_3 : t8_3.Holds Tryz.prog := ck_sound (tabOrc_ok h_memos all_nil mul_ok) mix c_t8_3
theorem h_t9_0 : t9_0.Holds Tryz.prog := ck_sound (tabOrc_ok h_memos all_nil mul_ok) mix c_t9_0
theorem h_t9_1 : t9_1.Holds Tryz.prog := ck_sound (tabOrc_ok h_memos all_nil mul_ok) mix c_t9_1
theorem h_t9_2 : t9_2.Holds Tryz.prog := ck_sound (tabOrc_ok h_memos all_nil mul_ok) mix c_t9_2
theorem h_t9_3 : t9_3.Holds Tryz.prog := ck_sound (tabOrc_ok h_memos all_nil mul_ok) mix c_t9_3
theorem h_t10_0 : t10_0.Holds Tryz.prog := ck_sound (tabOrc_ok h_memos all_nil mul_ok) mix c_t10_0
theorem h_t10_1 : t10_1.Holds Tryz.prog := ck_sound (tabOrc_ok h_memos all_nil mul_ok) mix c_t10_1
theorem h_t10_2 : t10_2.Holds Tryz.prog := ck_sound (tabOrc_ok h_memos all_nil mul_ok) mix c_t10_2
theorem h_t10_3 : t10_3.Holds Tryz.prog := ck_sound (tabOrc_ok h_memos all_nil mul_ok) mix c_t10_3
theorem h_t11_0 : t11_0.Holds Tryz.prog := ck_sound (tabOrc_ok h_memos all_nil mul_ok) mix c_t11_0
theorem h_t11_1 : t11_1.Holds Tryz.prog := ck_sound (tabOrc_ok h_memos all_nil mul_ok) mix c_t11_1
theorem h_t11_2 : t11_2.Holds Tryz.prog := ck_sound (tabOrc_ok h_memos all_nil mul_ok) mix c_t11_2
theorem h_t11_3 : t11_3.Holds Tryz.prog := ck_sound (tabOrc_ok h_memos all_nil mul_ok) mix c_t11_3
theorem h_t12_0 : t12_0.Holds Tryz.prog := ck_sound (tabOrc_ok h_memos all_nil mul_ok) mix c_t12_0
theorem h_t12_1 : t12_1.Holds Tryz.prog := ck_sound (tabOrc_ok h_memos all_nil mul_ok) mix c_t12_1
theorem h_t12_2 : t12_2.Holds Tryz.prog := ck_sound (tabOrc_ok h_memos all_nil mul_ok) mix c_t12_2
theorem h_t12_3 : t12_3.Holds Tryz.prog := ck_sound (tabOrc_ok h_memos all_nil mul_ok) mix c_t12_3
theorem h_t13_0 : t13_0.Holds Tryz.prog := ck_sound (tabOrc_ok h_memos all_nil mul_ok) mix c_t13_0
theorem h_t13_1 : t13_1.Holds Tryz.prog := ck_sound (tabOrc_ok h_memos all_nil mul_ok) mix c_t13_1
theorem h_t13_2 : t13_2.Holds Tryz.prog := ck_sound (tabOrc_ok h_memos all_nil mul_ok) mix c_t13_2
theorem h_t13_3 : t13_3.Holds Tryz.prog := ck_sound (tabOrc_ok h_memos all_nil mul_ok) mix c_t13_3
theorem h_t14_0 : t14_0.Holds Tryz.prog := ck_sound (tabOrc_ok h_memos all_nil mul_ok) mix c_t14_0
theorem h_t14_1 : t14_1.Holds Tryz.prog := ck_sound (tabOrc_ok h_memos all_nil mul_ok) mix c_t14_1
theorem h_t14_2 : t14_2.Holds Tryz.prog := ck_sound (tabOrc_ok h_memos (all_cons h_t14_0 all_nil) mul_ok) mix c_t14_2
theorem h_t14_3 : t14_3.Holds Tryz.prog := ck_sound (tabOrc_ok h_memos all_nil mul_ok) mix c_t14_3
theorem h_t14_4 : t14_4.Holds Tryz.prog := ck_sound (tabOrc_ok h_memos all_nil mul_ok) mix c_t14_4
theorem h_t15_0 : t15_0.Holds Tryz.prog := ck_sound (tabOrc_ok h_memos all_nil mul_ok) mix c_t15_0
theorem h_t15_1 : t15_1.Holds Tryz.prog := ck_sound (tabOrc_ok h_memos all_nil mul_ok) mix c_t15_1
theorem h_t15_2 : t15_2.Holds Tryz.prog := ck_sound (tabOrc_ok h_memos all_nil mul_ok) mix c_t15_2
theorem h_t15_3 : t15_3.Holds Tryz.prog := ck_sound (tabOrc_ok h_memos all_nil mul_ok) mix c_t15_3
theorem h_t16_0 : t16_0.Holds Tryz.prog := ck_sound (tabOrc_ok h_memos all_nil mul_ok) mix c_t16_0
theorem h_t16_1 : t16_1.Holds Tryz.prog := ck_sound (tabOrc_ok h_memos all_nil mul_ok) mix c_t16_1
theorem h_t16_2 : t16_2.Holds Tryz.prog := ck_sound (tabOrc_ok h_memos all_nil mul_ok) mix c_t16_2
theorem h_t16_3 : t16_3.Holds Tryz.prog := ck_sound (tabOrc_ok h_memos all_nil mul_ok) mix c_t16_3
theorem h_t17_0 : t17_0.Holds Tryz.prog := ck_sound (tabOrc_ok h_memos all_nil mul_ok) mix c_t17_0
theorem h_t17_1 : t17_1.Holds Tryz.prog := ck_sound (tabOrc_ok h_memos all_nil mul_ok) mix c_t17_1
theorem h_t17_2 : t17_2.Holds Tryz.prog := ck_sound (tabOrc_ok h_memos all_nil mul_ok) mix c_t17_2
theorem h_t17_3 : t17_3.Holds Tryz.prog := ck_sound (tabOrc_ok h_memos all_nil mul_ok) mix c_t17_3
theorem h_t18_0 : t18_0.Holds Tryz.prog := ck_sound (tabOrc_ok h_memos all_nil mul_ok) mix c_t18_0
theorem h_t18_1 : t18_1.Holds Tryz.prog := ck_sound (tabOrc_ok h_memos all_nil mul_ok) mix c_t18_1
theorem h_t18_2 : t18_2.Holds Tryz.prog := ck_sound (tabOrc_ok h_memos all_nil mul_ok) mix c_t18_2
theorem h_t18_3 : t18_3.Holds Tryz.prog := ck_sound (tabOrc_ok h_memos all_nil mul_ok) mix c_t18_3
theorem h_t19_0 : t19_0.Holds Tryz.prog := ck_sound (tabOrc_ok h_memos all_nil mul_ok) mix c_t19_0
theorem h_t19_1 : t19_1.Holds Tryz.prog := ck_sound (tabOrc_ok h_memos all_nil mul_ok) mix c_t19_1
theorem h_t19_2 : t19_2.Holds Tryz.prog := ck_sound (tabOrc_ok h_memos all_nil mul_ok) mix c_t19_2
theorem h_t19_3 : t19_3.Holds Tryz.prog := ck_sound (tabOrc_ok h_memos all_nil mul_ok) mix c_t19_3
theorem h_sane : sane.Holds Tryz.prog := ckM_sound (tabOrc_ok h_memos (all_cons h_s19 (all_cons h_s18 (all_cons h_s17 (all_cons h_s16 (all_cons h_s15 (all_cons h_s14 (all_cons h_s13 (all_cons h_s12 all_nil)))))))) mul_ok) mix c_sane
def tops : List Ch := [t0_5, t0_4, t0_3, t0_2, t0_1, t0_0, t1_5, t1_4, t1_3, t1_2, t1_1, t1_0, t2_5, t2_4, t2_3, t2_2, t2_1, t2_0, t3_5, t3_4, t3_3, t3_2, t3_1, t3_0, t4_6, t4_5, t4_4, t4_3, t4_2, t4_1, t4_0, t5_7, t5_6, t5_5, t5_4, t5_3, t5_2, t5_1, t6_1, t6_0, t7_1, t7_0, t8_3, t8_2, t8_1, t8_0, t9_3, t9_2, t9_1, t9_0, t10_3, t10_2, t10_1, t10_0, t11_3, t11_2, t11_1, t11_0, t12_3, t12_2, t12_1, t12_0, t13_3, t13_2, t13_1, t13_0, t14_4, t14_3, t14_2, t14_1, t15_3, t15_2, t15_1, t15_0, t16_3, t16_2, t16_1, t16_0, t17_3, t17_2, t17_1, t17_0, t18_3, t18_2, t18_1, t18_0, t19_3, t19_2, t19_1, t19_0]
theorem h_tops : ∀ e ∈ tops, e.Holds Tryz.prog := (all_cons h_t0_5 (all_cons h_t0_4 (all_cons h_t0_3 (all_cons h_t0_2 (all_cons h_t0_1 (all_cons h_t0_0 (all_cons h_t1_5 (all_cons h_t1_4 (all_cons h_t1_3 (all_cons h_t1_2 (all_cons h_t1_1 (all_cons h_t1_0 (all_cons h_t2_5 (all_cons h_t2_4 (all_cons h_t2_3 (all_cons h_t2_2 (all_cons h_t2_1 (all_cons h_t2_0 (all_cons h_t3_5 (all_cons h_t3_4 (all_cons h_t3_3 (all_cons h_t3_2 (all_cons h_t3_1 (all_cons h_t3_0 (all_cons h_t4_6 (all_cons h_t4_5 (all_cons h_t4_4 (all_cons h_t4_3 (all_cons h_t4_2 (all_cons h_t4_1 (all_cons h_t4_0 (all_cons h_t5_7 (all_cons h_t5_6 (all_cons h_t5_5 (all_cons h_t5_4 (all_cons h_t5_3 (all_cons h_t5_2 (all_cons h_t5_1 (all_cons h_t6_1 (all_cons h_t6_0 (all_cons h_t7_1 (all_cons h_t7_0 (all_cons h_t8_3 (all_cons h_t8_2 (all_cons h_t8_1 (all_cons h_t8_0 (all_cons h_t9_3 (all_cons h_t9_2 (all_cons h_t9_1 (all_cons h_t9_0 (all_cons h_t10_3 (all_cons h_t10_2 (all_cons h_t10_1 (all_cons h_t10_0 (all_cons h_t11_3 (all_cons h_t11_2 (all_cons h_t11_1 (all_cons h_t11_0 (all_cons h_t12_3 (all_cons h_t12_2 (all_cons h_t12_1 (all_cons h_t12_0 (all_cons h_t13_3 (all_cons h_t13_2 (all_cons h_t13_1 (all_cons h_t13_0 (all_cons h_t14_4 (all_cons h_t14_3 (all_cons h_t14_2 (all_cons h_t14_1 (all_cons h_t15_3 (all_cons h_t15_2 (all_cons h_t15_1 (all_cons h_t15_0 (all_cons h_t16_3 (all_cons h_t16_2 (all_cons h_t16_1 (all_cons h_t16_0 (all_cons h_t17_3 (all_cons h_t17_2 (all_cons h_t17_1 (all_cons h_t17_0 (all_cons h_t18_3 (all_cons h_t18_2 (all_cons h_t18_1 (all_cons h_t18_0 (all_cons h_t19_3 (all_cons h_t19_2 (all_cons h_t19_1 (all_cons h_t19_0 all_nil))))))))))))))))))))))))))))))))))))))))))))))))))))))))))))))))))))))))))))))))))))))))))
theorem orc_ok : RecOk Tryz.prog (tabOrc (sane :: memos) tops Tw.mulOrc) := tabOrc_ok (all_cons h_sane h_memos) h_tops mul_ok
noncomputable def ckT (n : Nat) : Bool := oc (ev Tryz.prog loopFuel (tabOrc (sane :: memos) tops Tw.mulOrc) 10000 5 [.int .u8 (.ofNat n)] H00) false fun r => un r fun v _ => beqA 20 v tt
noncomputable def below (n : Nat) : List Nat := Nat.rec (motive := fun _ => List Nat) [] (fun k ih => k :: ih) n
theorem mem_below : ∀ {n k : Nat}, k < n → k ∈ below n
  | n + 1, k, h => by
    show k ∈ n :: below n
    by_cases e : k = n
    · simp [e]
    · exact List.mem_cons_of_mem _ (mem_below (by omega))
theorem c_tower : allL ckT (below 256) = true := by kernel_rfl
theorem tower_sound (n : Nat) (h : n < 256) : ∃ H', CallSound Tryz.prog 5 [.int .u8 (n : Int)] H00 (.bool true) H' := by
  have h1 := allL_mem c_tower n (mem_below h)
  obtain ⟨r, hev, h2⟩ := oc_some_true h1
  obtain ⟨v, H'⟩ := r
  have hv := beqA_eq 20 _ _ (show beqA 20 v tt = true from h2)
  subst hv
  exact ⟨H', (ev_sound mix orc_ok _).call _ _ _ _ _ hev⟩
end Go.Ev.Tb
