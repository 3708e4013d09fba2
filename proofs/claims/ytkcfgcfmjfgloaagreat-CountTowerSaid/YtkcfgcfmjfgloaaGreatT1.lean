/- Functions printed out of the code of natural.Mul, of the reference and of what they call, and that the evaluator computes them. -/
import Derived.Test.YtkcfgcfmjfgloaaGreatE5
import Derived.Test.YtkcfgcfmjfgloaaGreatProg
import Derived.KernelRfl
set_option maxRecDepth 100000
namespace Go.Ev.Tw
open Go Go.Ev Go.Proofs
noncomputable section

/-! 143 koine/natural.trim -/
noncomputable def c143 : Code := (Tryz.f143.body).getD .skip
@[reducible] noncomputable def env143 (t0 t1 t2 t3 t4 t5 t6 t7 t8 t9 t10 t11 t12 t13 t14 t15 t16 t17 t18 t19 t20 t21 t22 t23 : AV) : Env := ⟨⟨t0, t1, t2, t3, t4, t5, t6, t7, t8, t9, t10, t11, t12, t13, t14, t15⟩, ⟨t16, t17, t18, t19, t20, t21, t22, t23, undef, undef, undef, undef, undef, undef, undef, undef⟩, (R.all undef), (R.all undef), (R.all undef), (R.all undef), (R.all undef), (R.all undef), (R.all undef), (R.all undef), (R.all undef), (R.all undef), (R.all undef), (R.all undef), (R.all undef), (R.all undef)⟩
noncomputable def R143 : Env → AH → Ans := retA [vTmp (slot 2), vTmp (slot 3)]
noncomputable def c143_b : Code := Code.sb c143
noncomputable def c143_bb : Code := Code.sb c143_b
noncomputable def c143_bba : Code := Code.sa c143_bb
noncomputable def c143_bbak : Code := Code.bb c143_bba
noncomputable def c143_bbakl : Code := Code.lb c143_bbak
noncomputable def KC143_bbakl (lf : Nat) (rec : Rec) (g : Nat) (k : Env → AH → Ans) (e : Nat → Env → AH → Ans) : Env → AH → Ans := fun env H => kLoopN (codeA Tryz.prog lf 24 c143_bbakl) g rec env H k e R143
noncomputable def L143_1 (lf : Nat) (rec : Rec) (t0 : AV) (kx0 : AV → AH → Ans) : Nat → AV → AH → Ans
  | 0, _, _ => none
  | g + 1, t4, H =>
    binI fGtr t4 (.int .i64 (.ofNat 0)) fun v2 =>
    gd true v2 H (fun k => k t0 H) fun v5 H6 =>
    gd true v2 H6 (fun k => k t4 H6) fun v8 H9 =>
    gd true v2 H9 (fun k => binI fSub v8 (.int .i64 (.ofNat 1)) fun v10 => k v10 H9) fun v11 H12 =>
    gd true v2 H12 (fun k => ixsA 1 v5 v11 fun v13 => k v13 H12) fun v14 H15 =>
    gd true v2 H15 (fun k => ldA H15 v14 fun v16 => k v16 H15) fun v17 H18 =>
    gd true v2 H18 (fun k => binI fEql v17 (.int .u32 (.ofNat 0)) fun v19 => k v19 H18) fun v20 H21 =>
    pickA v2 v20 (.bool false) fun v22 =>
    ifA v22 (
      binI fSub t4 (.int .i64 (.ofNat 1)) fun v24 =>
      (L143_1 lf rec t0 kx0 g) v24 H21) (
      kx0 t4 H21)
theorem L143_1_eq (lf : Nat) (rec : Rec) (k : Env → AH → Ans) (e : Nat → Env → AH → Ans) (t0 t1 t2 t3 t5 t6 t19 t20 t21 t22 t23 : AV) (kx0 : AV → AH → Ans) (hx0 : ∀ (t4 t7 t8 t9 t10 t11 t12 t13 t14 t15 t16 t17 t18 : AV) (H : AH), e 0 (env143 t0 t1 t2 t3 t4 t5 t6 t7 t8 t9 t10 t11 t12 t13 t14 t15 t16 t17 t18 t19 t20 t21 t22 t23) H = kx0 t4 H) : ∀ (g : Nat) (t4 t7 t8 t9 t10 t11 t12 t13 t14 t15 t16 t17 t18 : AV) (H : AH), kLoopN (codeA Tryz.prog lf 24 c143_bbakl) g rec (env143 t0 t1 t2 t3 t4 t5 t6 t7 t8 t9 t10 t11 t12 t13 t14 t15 t16 t17 t18 t19 t20 t21 t22 t23) H k e R143 = L143_1 lf rec t0 kx0 g t4 H := by
  intro g
  induction g with
  | zero => intros; rfl
  | succ g hc =>
  intro t4 t7 t8 t9 t10 t11 t12 t13 t14 t15 t16 t17 t18 H
  refine Eq.trans (b :=
    binI fGtr t4 (.int .i64 (.ofNat 0)) fun v2 =>
    gd true v2 H (fun k => k t0 H) fun v5 H6 =>
    gd true v2 H6 (fun k => k t4 H6) fun v8 H9 =>
    gd true v2 H9 (fun k => binI fSub v8 (.int .i64 (.ofNat 1)) fun v10 => k v10 H9) fun v11 H12 =>
    gd true v2 H12 (fun k => ixsA 1 v5 v11 fun v13 => k v13 H12) fun v14 H15 =>
    gd true v2 H15 (fun k => ldA H15 v14 fun v16 => k v16 H15) fun v17 H18 =>
    gd true v2 H18 (fun k => binI fEql v17 (.int .u32 (.ofNat 0)) fun v19 => k v19 H18) fun v20 H21 =>
    pickA v2 v20 (.bool false) fun v22 =>
    ifA v22 (
      binI fSub t4 (.int .i64 (.ofNat 1)) fun v24 =>
      kLoopN (codeA Tryz.prog lf 24 c143_bbakl) g rec (env143 t0 t1 t2 t3 v24 t5 t6 t4 v2 v2 v5 v8 v11 v14 v17 v20 v22 t4 v24 t19 t20 t21 t22 t23) H21 k e R143) (
      e 0 (env143 t0 t1 t2 t3 t4 t5 t6 t4 v2 v2 v5 v8 v11 v14 v17 v20 v22 t17 t18 t19 t20 t21 t22 t23) H21)) (by kernel_rfl) ?_
  simp only [hc, hx0]
  rw [L143_1]
noncomputable def J143_bba (_lf : Nat) (_rec : Rec) (t0 t4 : AV) (H : AH) : Ans :=
  binI fGtr t4 (.int .i64 (.ofNat 1024)) fun v27 =>
  ifA v27 (
    some (.tup [(.nils : AV), (.int .i64 (.ofNat 2))], H)) (
    slA 1 t0 none (some t4) fun v32 =>
    some (.tup [v32, (.int .i64 (.ofNat 0))], H))
noncomputable def c143_bbb : Code := Code.sb c143_bb
noncomputable def K143_bba (lf : Nat) (rec : Rec) : Env → AH → Ans := fun env H => (codeA Tryz.prog lf 24 c143_bbb) rec env H R143 E0 R143
theorem J143_bba_eq (lf : Nat) (rec : Rec) (t0 t1 t2 t3 t4 t5 t6 t7 t8 t9 t10 t11 t12 t13 t14 t15 t16 t17 t18 t19 t20 t21 t22 t23 : AV) (H : AH) : (K143_bba lf rec) (env143 t0 t1 t2 t3 t4 t5 t6 t7 t8 t9 t10 t11 t12 t13 t14 t15 t16 t17 t18 t19 t20 t21 t22 t23) H = J143_bba lf rec t0 t4 H := by
  refine Eq.trans (b :=
  binI fGtr t4 (.int .i64 (.ofNat 1024)) fun v27 =>
  ifA v27 (
    some (.tup [(.nils : AV), (.int .i64 (.ofNat 2))], H)) (
    slA 1 t0 none (some t4) fun v32 =>
    some (.tup [v32, (.int .i64 (.ofNat 0))], H))) (by kernel_rfl) ?_
  kernel_rfl
noncomputable def E143_bba (lf : Nat) (rec : Rec) : Nat → Env → AH → Ans := fun j env H => bt (Nat.beq j 0) ((K143_bba lf rec) env H) (E0 j env H)
noncomputable def F143 (lf : Nat) (rec : Rec) (t0 : AV) (H : AH) : Ans :=
  lenSA t0 fun v38 =>
  L143_1 lf rec t0 (fun w4 H => J143_bba lf rec t0 w4 H) lf v38 H
theorem F143_eq (lf fuel : Nat) (t0 : AV) (H : AH) : ev Tryz.prog lf noRec (fuel + 1) 143 [t0] H = F143 lf (ev Tryz.prog lf noRec fuel) t0 H := by
  generalize hrec : ev Tryz.prog lf noRec fuel = rec
  refine Eq.trans (b := codeA Tryz.prog lf 24 c143 rec (env143 t0 undef undef undef undef undef undef undef undef undef undef undef undef undef undef undef undef undef undef undef undef undef undef undef) H R143 E0 R143) (by subst hrec; kernel_rfl) ?_
  have hL143_1 : ∀ (t0 t1 t2 t3 t4 t5 t6 t7 t8 t9 t10 t11 t12 t13 t14 t15 t16 t17 t18 t19 t20 t21 t22 t23 : AV) (H : AH), kLoop lf (codeA Tryz.prog lf 24 c143_bbakl) rec (env143 t0 t1 t2 t3 t4 t5 t6 t7 t8 t9 t10 t11 t12 t13 t14 t15 t16 t17 t18 t19 t20 t21 t22 t23) H (K143_bba lf rec) (E143_bba lf rec) R143 = L143_1 lf rec t0 (fun w4 H => J143_bba lf rec t0 w4 H) lf t4 H := fun t0 t1 t2 t3 t4 t5 t6 t7 t8 t9 t10 t11 t12 t13 t14 t15 t16 t17 t18 t19 t20 t21 t22 t23 H => L143_1_eq lf rec (K143_bba lf rec) (E143_bba lf rec) t0 t1 t2 t3 t5 t6 t19 t20 t21 t22 t23 (fun w4 H => J143_bba lf rec t0 w4 H) (fun t4 t7 t8 t9 t10 t11 t12 t13 t14 t15 t16 t17 t18 H => J143_bba_eq lf rec t0 t1 t2 t3 t4 t5 t6 t7 t8 t9 t10 t11 t12 t13 t14 t15 t16 t17 t18 t19 t20 t21 t22 t23 H) lf t4 t7 t8 t9 t10 t11 t12 t13 t14 t15 t16 t17 t18 H
  refine Eq.trans (b :=
  lenSA t0 fun v38 =>
  kLoop lf (codeA Tryz.prog lf 24 c143_bbakl) rec (env143 t0 undef (.nils : AV) (.int .i64 (.ofNat 0)) v38 t0 v38 undef undef undef undef undef undef undef undef undef undef undef undef undef undef undef undef undef) H (K143_bba lf rec) (E143_bba lf rec) R143) (by kernel_rfl) ?_
  first | (simp only [hL143_1]; done) | (simp only [hL143_1]; with_reducible_and_instances rfl) | (simp only [hL143_1]; kernel_rfl)

/-! 53 koine/natural.Valid -/
noncomputable def c53 : Code := (Tryz.f53.body).getD .skip
@[reducible] noncomputable def env53 (t0 t1 t2 t3 t4 t5 t6 t7 t8 t9 t10 t11 t12 t13 t14 t15 t16 t17 t18 t19 : AV) : Env := ⟨⟨t0, t1, t2, t3, t4, t5, t6, t7, t8, t9, t10, t11, t12, t13, t14, t15⟩, ⟨t16, t17, t18, t19, undef, undef, undef, undef, undef, undef, undef, undef, undef, undef, undef, undef⟩, (R.all undef), (R.all undef), (R.all undef), (R.all undef), (R.all undef), (R.all undef), (R.all undef), (R.all undef), (R.all undef), (R.all undef), (R.all undef), (R.all undef), (R.all undef), (R.all undef)⟩
noncomputable def R53 : Env → AH → Ans := retA [vTmp (slot 2)]
noncomputable def F53 (_lf : Nat) (_rec : Rec) (t0 : AV) (H : AH) : Ans :=
  lenSA t0 fun v3 =>
  binI fLeq v3 (.int .i64 (.ofNat 1024)) fun v4 =>
  gd true v4 H (fun k => k t0 H) fun v7 H8 =>
  gd true v4 H8 (fun k => lenSA v7 fun v9 => k v9 H8) fun v10 H11 =>
  gd true v4 H11 (fun k => binI fEql v10 (.int .i64 (.ofNat 0)) fun v12 => k v12 H11) fun v13 H14 =>
  gd true v4 H14 (fun k => k v13 H14) fun v16 H17 =>
  gd false v16 H17 (fun k => k t0 H17) fun v19 H20 =>
  gd false v16 H20 (fun k => k t0 H20) fun v22 H23 =>
  gd false v16 H23 (fun k => lenSA v22 fun v24 => k v24 H23) fun v25 H26 =>
  gd false v16 H26 (fun k => binI fSub v25 (.int .i64 (.ofNat 1)) fun v27 => k v27 H26) fun v28 H29 =>
  gd false v16 H29 (fun k => ixsA 1 v19 v28 fun v30 => k v30 H29) fun v31 H32 =>
  gd false v16 H32 (fun k => ldA H32 v31 fun v33 => k v33 H32) fun v34 H35 =>
  gd false v16 H35 (fun k => binI fNeq v34 (.int .u32 (.ofNat 0)) fun v36 => k v36 H35) fun v37 H38 =>
  gd true v4 H38 (fun k => pickA v16 (.bool true) v37 fun v39 => k v39 H38) fun v40 H41 =>
  pickA v4 v40 (.bool false) fun v42 =>
  some (v42, H41)
theorem F53_eq (lf fuel : Nat) (t0 : AV) (H : AH) : ev Tryz.prog lf noRec (fuel + 1) 53 [t0] H = F53 lf (ev Tryz.prog lf noRec fuel) t0 H := by
  generalize hrec : ev Tryz.prog lf noRec fuel = rec
  refine Eq.trans (b := codeA Tryz.prog lf 20 c53 rec (env53 t0 undef undef undef undef undef undef undef undef undef undef undef undef undef undef undef undef undef undef undef) H R53 E0 R53) (by subst hrec; kernel_rfl) ?_
  refine Eq.trans (b :=
  lenSA t0 fun v3 =>
  binI fLeq v3 (.int .i64 (.ofNat 1024)) fun v4 =>
  gd true v4 H (fun k => k t0 H) fun v7 H8 =>
  gd true v4 H8 (fun k => lenSA v7 fun v9 => k v9 H8) fun v10 H11 =>
  gd true v4 H11 (fun k => binI fEql v10 (.int .i64 (.ofNat 0)) fun v12 => k v12 H11) fun v13 H14 =>
  gd true v4 H14 (fun k => k v13 H14) fun v16 H17 =>
  gd false v16 H17 (fun k => k t0 H17) fun v19 H20 =>
  gd false v16 H20 (fun k => k t0 H20) fun v22 H23 =>
  gd false v16 H23 (fun k => lenSA v22 fun v24 => k v24 H23) fun v25 H26 =>
  gd false v16 H26 (fun k => binI fSub v25 (.int .i64 (.ofNat 1)) fun v27 => k v27 H26) fun v28 H29 =>
  gd false v16 H29 (fun k => ixsA 1 v19 v28 fun v30 => k v30 H29) fun v31 H32 =>
  gd false v16 H32 (fun k => ldA H32 v31 fun v33 => k v33 H32) fun v34 H35 =>
  gd false v16 H35 (fun k => binI fNeq v34 (.int .u32 (.ofNat 0)) fun v36 => k v36 H35) fun v37 H38 =>
  gd true v4 H38 (fun k => pickA v16 (.bool true) v37 fun v39 => k v39 H38) fun v40 H41 =>
  pickA v4 v40 (.bool false) fun v42 =>
  some (v42, H41)) (by kernel_rfl) ?_
  kernel_rfl

/-! 121 koine/natural.Mul -/
noncomputable def c121 : Code := (Tryz.f121.body).getD .skip
@[reducible] noncomputable def env121 (t0 t1 t2 t3 t4 t5 t6 t7 t8 t9 t10 t11 t12 t13 t14 t15 t16 t17 t18 t19 t20 t21 t22 t23 t24 t25 t26 t27 t28 t29 t30 t31 t32 t33 t34 t35 t36 t37 t38 t39 t40 t41 t42 t43 t44 t45 t46 t47 t48 t49 t50 t51 t52 t53 t54 t55 t56 t57 t58 t59 t60 t61 t62 t63 t64 t65 t66 t67 t68 t69 t70 t71 t72 t73 t74 t75 t76 t77 : AV) : Env := ⟨⟨t0, t1, t2, t3, t4, t5, t6, t7, t8, t9, t10, t11, t12, t13, t14, t15⟩, ⟨t16, t17, t18, t19, t20, t21, t22, t23, t24, t25, t26, t27, t28, t29, t30, t31⟩, ⟨t32, t33, t34, t35, t36, t37, t38, t39, t40, t41, t42, t43, t44, t45, t46, t47⟩, ⟨t48, t49, t50, t51, t52, t53, t54, t55, t56, t57, t58, t59, t60, t61, t62, t63⟩, ⟨t64, t65, t66, t67, t68, t69, t70, t71, t72, t73, t74, t75, t76, t77, undef, undef⟩, (R.all undef), (R.all undef), (R.all undef), (R.all undef), (R.all undef), (R.all undef), (R.all undef), (R.all undef), (R.all undef), (R.all undef), (R.all undef)⟩
noncomputable def R121 : Env → AH → Ans := retA [vTmp (slot 4), vTmp (slot 5)]
noncomputable def c121_b : Code := Code.sb c121
noncomputable def c121_bb : Code := Code.sb c121_b
noncomputable def c121_bbb : Code := Code.sb c121_bb
noncomputable def c121_bbba : Code := Code.sa c121_bbb
noncomputable def c121_bbbab : Code := Code.sb c121_bbba
noncomputable def c121_bbbabk : Code := Code.bb c121_bbbab
noncomputable def c121_bbbabkl : Code := Code.lb c121_bbbabk
noncomputable def c121_bbbabklb : Code := Code.sb c121_bbbabkl
noncomputable def c121_bbbabklbb : Code := Code.sb c121_bbbabklb
noncomputable def c121_bbbabklbba : Code := Code.sa c121_bbbabklbb
noncomputable def c121_bbbabklbbak : Code := Code.bb c121_bbbabklbba
noncomputable def c121_bbbabklbbakb : Code := Code.sb c121_bbbabklbbak
noncomputable def c121_bbbabklbbakbb : Code := Code.sb c121_bbbabklbbakb
noncomputable def c121_bbbabklbbakbba : Code := Code.sa c121_bbbabklbbakbb
noncomputable def c121_bbbabklbbakbbab : Code := Code.sb c121_bbbabklbbakbba
noncomputable def c121_bbbabklbbakbbabk : Code := Code.bb c121_bbbabklbbakbbab
noncomputable def c121_bbbabklbbakbbabkl : Code := Code.lb c121_bbbabklbbakbbabk
noncomputable def KC121_bbbabklbbakbbabkl (lf : Nat) (rec : Rec) (g : Nat) (k : Env → AH → Ans) (e : Nat → Env → AH → Ans) : Env → AH → Ans := fun env H => kLoopN (codeA Tryz.prog lf 78 c121_bbbabklbbakbbabkl) g rec env H k e R121
noncomputable def L121_2 (lf : Nat) (rec : Rec) (t0 t1 t6 t7 t25 t26 t30 : AV) (kx2 : AV → AH → Ans) : Nat → AV → AV → AH → Ans
  | 0, _, _, _ => none
  | g + 1, t8, t31, H =>
    binI fLss t31 t30 fun v1 =>
    ifA v1 (
      ixsA 1 t0 t7 fun v7 =>
      ldA H v7 fun v8 =>
      pendR 4 (fun H => rdA (fun k => ldA H v7 fun v10 => k v10 H)) H [] fun P9 =>
      cvA .u64 v8 fun v11 =>
      ixsA 1 t1 t31 fun v14 =>
      ldA H v14 fun v15 =>
      pendR 9 (fun H => rdA (fun k => ldA H v14 fun v17 => k v17 H)) H P9 fun P16 =>
      cvA .u64 v15 fun v18 =>
      binI fMul v11 v18 fun v19 =>
      binI fAdd t7 t31 fun v23 =>
      ixsA 1 t6 v23 fun v24 =>
      ldA H v24 fun v25 =>
      pendR 17 (fun H => rdA (fun k => ldA H v24 fun v27 => k v27 H)) H P16 fun _P26 =>
      cvA .u64 v25 fun v28 =>
      binI fAdd v19 v28 fun v29 =>
      binI fAdd t8 v29 fun v30 =>
      binI fAdd t7 t31 fun v35 =>
      cvA .u32 v30 fun v37 =>
      ixsA 1 t6 v35 fun v38 =>
      stA 1 H v38 (cellsOf v37) fun H40 =>
      binH fShr v30 (.int .u64 (.ofNat 32)) fun v42 =>
      binI fAdd t31 (.int .i64 (.ofNat 1)) fun v44 =>
      (L121_2 lf rec t0 t1 t6 t7 t25 t26 t30 kx2 g) v42 v44 H40) (
      kx2 t8 H)
theorem L121_2_eq (lf : Nat) (rec : Rec) (k : Env → AH → Ans) (e : Nat → Env → AH → Ans) (t0 t1 t2 t3 t4 t5 t6 t7 t10 t11 t12 t13 t14 t15 t16 t17 t18 t19 t20 t21 t22 t23 t24 t25 t26 t27 t28 t29 t30 t65 t66 t67 t68 t69 t70 t71 t72 t73 t74 t75 t76 t77 : AV) (kx2 : AV → AH → Ans) (hx2 : ∀ (t8 t9 t31 t32 t33 t34 t35 t36 t37 t38 t39 t40 t41 t42 t43 t44 t45 t46 t47 t48 t49 t50 t51 t52 t53 t54 t55 t56 t57 t58 t59 t60 t61 t62 t63 t64 : AV) (H : AH), e 2 (env121 t0 t1 t2 t3 t4 t5 t6 t7 t8 t9 t10 t11 t12 t13 t14 t15 t16 t17 t18 t19 t20 t21 t22 t23 t24 t25 t26 t27 t28 t29 t30 t31 t32 t33 t34 t35 t36 t37 t38 t39 t40 t41 t42 t43 t44 t45 t46 t47 t48 t49 t50 t51 t52 t53 t54 t55 t56 t57 t58 t59 t60 t61 t62 t63 t64 t65 t66 t67 t68 t69 t70 t71 t72 t73 t74 t75 t76 t77) H = kx2 t8 H) : ∀ (g : Nat) (t8 t9 t31 t32 t33 t34 t35 t36 t37 t38 t39 t40 t41 t42 t43 t44 t45 t46 t47 t48 t49 t50 t51 t52 t53 t54 t55 t56 t57 t58 t59 t60 t61 t62 t63 t64 : AV) (H : AH), kLoopN (codeA Tryz.prog lf 78 c121_bbbabklbbakbbabkl) g rec (env121 t0 t1 t2 t3 t4 t5 t6 t7 t8 t9 t10 t11 t12 t13 t14 t15 t16 t17 t18 t19 t20 t21 t22 t23 t24 t25 t26 t27 t28 t29 t30 t31 t32 t33 t34 t35 t36 t37 t38 t39 t40 t41 t42 t43 t44 t45 t46 t47 t48 t49 t50 t51 t52 t53 t54 t55 t56 t57 t58 t59 t60 t61 t62 t63 t64 t65 t66 t67 t68 t69 t70 t71 t72 t73 t74 t75 t76 t77) H k e R121 = L121_2 lf rec t0 t1 t6 t7 t25 t26 t30 kx2 g t8 t31 H := by
  intro g
  induction g with
  | zero => intros; rfl
  | succ g hc =>
  intro t8 t9 t31 t32 t33 t34 t35 t36 t37 t38 t39 t40 t41 t42 t43 t44 t45 t46 t47 t48 t49 t50 t51 t52 t53 t54 t55 t56 t57 t58 t59 t60 t61 t62 t63 t64 H
  refine Eq.trans (b :=
    binI fLss t31 t30 fun v1 =>
    ifA v1 (
      ixsA 1 t0 t7 fun v7 =>
      ldA H v7 fun v8 =>
      pendR 4 (fun H => rdA (fun k => ldA H v7 fun v10 => k v10 H)) H [] fun P9 =>
      cvA .u64 v8 fun v11 =>
      ixsA 1 t1 t31 fun v14 =>
      ldA H v14 fun v15 =>
      pendR 9 (fun H => rdA (fun k => ldA H v14 fun v17 => k v17 H)) H P9 fun P16 =>
      cvA .u64 v15 fun v18 =>
      binI fMul v11 v18 fun v19 =>
      binI fAdd t7 t31 fun v23 =>
      ixsA 1 t6 v23 fun v24 =>
      ldA H v24 fun v25 =>
      pendR 17 (fun H => rdA (fun k => ldA H v24 fun v27 => k v27 H)) H P16 fun _P26 =>
      cvA .u64 v25 fun v28 =>
      binI fAdd v19 v28 fun v29 =>
      binI fAdd t8 v29 fun v30 =>
      binI fAdd t7 t31 fun v35 =>
      cvA .u32 v30 fun v37 =>
      ixsA 1 t6 v35 fun v38 =>
      stA 1 H v38 (cellsOf v37) fun H40 =>
      binH fShr v30 (.int .u64 (.ofNat 32)) fun v42 =>
      binI fAdd t31 (.int .i64 (.ofNat 1)) fun v44 =>
      kLoopN (codeA Tryz.prog lf 78 c121_bbbabklbbakbbabkl) g rec (env121 t0 t1 t2 t3 t4 t5 t6 t7 v42 t31 t10 t11 t12 t13 t14 t15 t16 t17 t18 t19 t20 t21 t22 t23 t24 t25 t26 t27 t28 t29 t30 v44 v1 t31 t8 t0 t7 v7 v8 v11 t1 t31 v14 v15 v18 v19 t6 t7 t31 v23 v24 v25 v28 v29 v30 t6 t7 t31 v35 v30 v37 v38 v30 v42 v44 t65 t66 t67 t68 t69 t70 t71 t72 t73 t74 t75 t76 t77) H40 k e R121) (
      e 2 (env121 t0 t1 t2 t3 t4 t5 t6 t7 t8 t9 t10 t11 t12 t13 t14 t15 t16 t17 t18 t19 t20 t21 t22 t23 t24 t25 t26 t27 t28 t29 t30 t31 v1 t33 t34 t35 t36 t37 t38 t39 t40 t41 t42 t43 t44 t45 t46 t47 t48 t49 t50 t51 t52 t53 t54 t55 t56 t57 t58 t59 t60 t61 t62 t63 t64 t65 t66 t67 t68 t69 t70 t71 t72 t73 t74 t75 t76 t77) H)) (by kernel_rfl) ?_
  simp only [hc, hx2]
  rw [L121_2]
noncomputable def KC121_bbbabkl (lf : Nat) (rec : Rec) (g : Nat) (k : Env → AH → Ans) (e : Nat → Env → AH → Ans) : Env → AH → Ans := fun env H => kLoopN (codeA Tryz.prog lf 78 c121_bbbabkl) g rec env H k e R121
noncomputable def J121_bbbabklbbakbba (_lf : Nat) (_rec : Rec) (_t0 t1 t6 _t25 : AV) (c : AV → AH → Ans) (_kx0 : AH → Ans) (t7 t8 t26 : AV) (H : AH) : Ans :=
  lenSA t1 fun v49 =>
  binI fAdd t7 v49 fun v50 =>
  cvA .u32 t8 fun v52 =>
  ixsA 1 t6 v50 fun v53 =>
  stA 1 H v53 (cellsOf v52) fun H55 =>
  binI fAdd t26 (.int .i64 (.ofNat 1)) fun v56 =>
  c v56 H55
noncomputable def c121_bbbabklbbb : Code := Code.sb c121_bbbabklbb
noncomputable def K121_bbbabklbba (lf : Nat) (rec : Rec) (g : Nat) (k : Env → AH → Ans) (e : Nat → Env → AH → Ans) : Env → AH → Ans := fun env H => (codeA Tryz.prog lf 78 c121_bbbabklbbb) rec env H (KC121_bbbabkl lf rec g k e) e R121
noncomputable def E121_bbbabklbba (lf : Nat) (rec : Rec) (g : Nat) (k : Env → AH → Ans) (e : Nat → Env → AH → Ans) : Nat → Env → AH → Ans := fun j env H => bt (Nat.beq j 1) ((K121_bbbabklbba lf rec g k e) env H) (e j env H)
noncomputable def c121_bbbabklbbakbbb : Code := Code.sb c121_bbbabklbbakbb
noncomputable def K121_bbbabklbbakbba (lf : Nat) (rec : Rec) (g : Nat) (k : Env → AH → Ans) (e : Nat → Env → AH → Ans) : Env → AH → Ans := fun env H => (codeA Tryz.prog lf 78 c121_bbbabklbbakbbb) rec env H (K121_bbbabklbba lf rec g k e) (E121_bbbabklbba lf rec g k e) R121
theorem J121_bbbabklbbakbba_eq (lf : Nat) (rec : Rec) (g : Nat) (k : Env → AH → Ans) (e : Nat → Env → AH → Ans) (t0 t1 t2 t3 t4 t5 t6 t10 t11 t12 t13 t14 t15 t16 t17 t18 t19 t20 t21 t22 t23 t24 t25 t74 t75 t76 t77 : AV) (c : AV → AH → Ans) (hc : ∀ (t7 t8 t9 t26 t27 t28 t29 t30 t31 t32 t33 t34 t35 t36 t37 t38 t39 t40 t41 t42 t43 t44 t45 t46 t47 t48 t49 t50 t51 t52 t53 t54 t55 t56 t57 t58 t59 t60 t61 t62 t63 t64 t65 t66 t67 t68 t69 t70 t71 t72 t73 : AV) (H : AH), kLoopN (codeA Tryz.prog lf 78 c121_bbbabkl) g rec (env121 t0 t1 t2 t3 t4 t5 t6 t7 t8 t9 t10 t11 t12 t13 t14 t15 t16 t17 t18 t19 t20 t21 t22 t23 t24 t25 t26 t27 t28 t29 t30 t31 t32 t33 t34 t35 t36 t37 t38 t39 t40 t41 t42 t43 t44 t45 t46 t47 t48 t49 t50 t51 t52 t53 t54 t55 t56 t57 t58 t59 t60 t61 t62 t63 t64 t65 t66 t67 t68 t69 t70 t71 t72 t73 t74 t75 t76 t77) H k e R121 = c t26 H) (kx0 : AH → Ans) (_hx0 : ∀ (t7 t8 t9 t26 t27 t28 t29 t30 t31 t32 t33 t34 t35 t36 t37 t38 t39 t40 t41 t42 t43 t44 t45 t46 t47 t48 t49 t50 t51 t52 t53 t54 t55 t56 t57 t58 t59 t60 t61 t62 t63 t64 t65 t66 t67 t68 t69 t70 t71 t72 t73 : AV) (H : AH), e 0 (env121 t0 t1 t2 t3 t4 t5 t6 t7 t8 t9 t10 t11 t12 t13 t14 t15 t16 t17 t18 t19 t20 t21 t22 t23 t24 t25 t26 t27 t28 t29 t30 t31 t32 t33 t34 t35 t36 t37 t38 t39 t40 t41 t42 t43 t44 t45 t46 t47 t48 t49 t50 t51 t52 t53 t54 t55 t56 t57 t58 t59 t60 t61 t62 t63 t64 t65 t66 t67 t68 t69 t70 t71 t72 t73 t74 t75 t76 t77) H = kx0  H) (t7 t8 t9 t26 t27 t28 t29 t30 t31 t32 t33 t34 t35 t36 t37 t38 t39 t40 t41 t42 t43 t44 t45 t46 t47 t48 t49 t50 t51 t52 t53 t54 t55 t56 t57 t58 t59 t60 t61 t62 t63 t64 t65 t66 t67 t68 t69 t70 t71 t72 t73 : AV) (H : AH) : (K121_bbbabklbbakbba lf rec g k e) (env121 t0 t1 t2 t3 t4 t5 t6 t7 t8 t9 t10 t11 t12 t13 t14 t15 t16 t17 t18 t19 t20 t21 t22 t23 t24 t25 t26 t27 t28 t29 t30 t31 t32 t33 t34 t35 t36 t37 t38 t39 t40 t41 t42 t43 t44 t45 t46 t47 t48 t49 t50 t51 t52 t53 t54 t55 t56 t57 t58 t59 t60 t61 t62 t63 t64 t65 t66 t67 t68 t69 t70 t71 t72 t73 t74 t75 t76 t77) H = J121_bbbabklbbakbba lf rec t0 t1 t6 t25 c kx0 t7 t8 t26 H := by
  refine Eq.trans (b :=
  lenSA t1 fun v49 =>
  binI fAdd t7 v49 fun v50 =>
  cvA .u32 t8 fun v52 =>
  ixsA 1 t6 v50 fun v53 =>
  stA 1 H v53 (cellsOf v52) fun H55 =>
  binI fAdd t26 (.int .i64 (.ofNat 1)) fun v56 =>
  kLoopN (codeA Tryz.prog lf 78 c121_bbbabkl) g rec (env121 t0 t1 t2 t3 t4 t5 t6 t7 t8 t9 t10 t11 t12 t13 t14 t15 t16 t17 t18 t19 t20 t21 t22 t23 t24 t25 v56 t27 t28 t29 t30 t31 t32 t33 t34 t35 t36 t37 t38 t39 t40 t41 t42 t43 t44 t45 t46 t47 t48 t49 t50 t51 t52 t53 t54 t55 t56 t57 t58 t59 t60 t61 t62 t63 t64 t6 t7 t1 v49 v50 t8 v52 v53 v56 t74 t75 t76 t77) H55 k e R121) (by kernel_rfl) ?_
  first | (simp only [hc]; done) | (simp only [hc]; with_reducible_and_instances rfl) | (simp only [hc]; kernel_rfl)
noncomputable def E121_bbbabklbbakbbab (lf : Nat) (rec : Rec) (g : Nat) (k : Env → AH → Ans) (e : Nat → Env → AH → Ans) : Nat → Env → AH → Ans := fun j env H => bt (Nat.beq j 2) ((K121_bbbabklbbakbba lf rec g k e) env H) ((E121_bbbabklbba lf rec g k e) j env H)
noncomputable def L121_1 (lf : Nat) (rec : Rec) (t0 t1 t6 t25 : AV) (kx0 : AH → Ans) : Nat → AV → AH → Ans
  | 0, _, _ => none
  | g + 1, t26, H =>
    binI fLss t26 t25 fun v58 =>
    ifA v58 (
      lenSA t1 fun v63 =>
      L121_2 lf rec t0 t1 t6 t26 t25 t26 v63 (fun w8 H => J121_bbbabklbbakbba lf rec t0 t1 t6 t25 (L121_1 lf rec t0 t1 t6 t25 kx0 g) kx0 t26 w8 t26 H) lf (.int .u64 (.ofNat 0)) (.int .i64 (.ofNat 0)) H) (
      kx0  H)
theorem L121_1_eq (lf : Nat) (rec : Rec) (k : Env → AH → Ans) (e : Nat → Env → AH → Ans) (t0 t1 t2 t3 t4 t5 t6 t10 t11 t12 t13 t14 t15 t16 t17 t18 t19 t20 t21 t22 t23 t24 t25 t74 t75 t76 t77 : AV) (kx0 : AH → Ans) (hx0 : ∀ (t7 t8 t9 t26 t27 t28 t29 t30 t31 t32 t33 t34 t35 t36 t37 t38 t39 t40 t41 t42 t43 t44 t45 t46 t47 t48 t49 t50 t51 t52 t53 t54 t55 t56 t57 t58 t59 t60 t61 t62 t63 t64 t65 t66 t67 t68 t69 t70 t71 t72 t73 : AV) (H : AH), e 0 (env121 t0 t1 t2 t3 t4 t5 t6 t7 t8 t9 t10 t11 t12 t13 t14 t15 t16 t17 t18 t19 t20 t21 t22 t23 t24 t25 t26 t27 t28 t29 t30 t31 t32 t33 t34 t35 t36 t37 t38 t39 t40 t41 t42 t43 t44 t45 t46 t47 t48 t49 t50 t51 t52 t53 t54 t55 t56 t57 t58 t59 t60 t61 t62 t63 t64 t65 t66 t67 t68 t69 t70 t71 t72 t73 t74 t75 t76 t77) H = kx0  H) : ∀ (g : Nat) (t7 t8 t9 t26 t27 t28 t29 t30 t31 t32 t33 t34 t35 t36 t37 t38 t39 t40 t41 t42 t43 t44 t45 t46 t47 t48 t49 t50 t51 t52 t53 t54 t55 t56 t57 t58 t59 t60 t61 t62 t63 t64 t65 t66 t67 t68 t69 t70 t71 t72 t73 : AV) (H : AH), kLoopN (codeA Tryz.prog lf 78 c121_bbbabkl) g rec (env121 t0 t1 t2 t3 t4 t5 t6 t7 t8 t9 t10 t11 t12 t13 t14 t15 t16 t17 t18 t19 t20 t21 t22 t23 t24 t25 t26 t27 t28 t29 t30 t31 t32 t33 t34 t35 t36 t37 t38 t39 t40 t41 t42 t43 t44 t45 t46 t47 t48 t49 t50 t51 t52 t53 t54 t55 t56 t57 t58 t59 t60 t61 t62 t63 t64 t65 t66 t67 t68 t69 t70 t71 t72 t73 t74 t75 t76 t77) H k e R121 = L121_1 lf rec t0 t1 t6 t25 kx0 g t26 H := by
  intro g
  induction g with
  | zero => intros; rfl
  | succ g hc =>
  intro t7 t8 t9 t26 t27 t28 t29 t30 t31 t32 t33 t34 t35 t36 t37 t38 t39 t40 t41 t42 t43 t44 t45 t46 t47 t48 t49 t50 t51 t52 t53 t54 t55 t56 t57 t58 t59 t60 t61 t62 t63 t64 t65 t66 t67 t68 t69 t70 t71 t72 t73 H
  have hL121_2 : ∀ (t7 t8 t9 t26 t27 t28 t29 t30 t31 t32 t33 t34 t35 t36 t37 t38 t39 t40 t41 t42 t43 t44 t45 t46 t47 t48 t49 t50 t51 t52 t53 t54 t55 t56 t57 t58 t59 t60 t61 t62 t63 t64 t65 t66 t67 t68 t69 t70 t71 t72 t73 : AV) (H : AH), kLoop lf (codeA Tryz.prog lf 78 c121_bbbabklbbakbbabkl) rec (env121 t0 t1 t2 t3 t4 t5 t6 t7 t8 t9 t10 t11 t12 t13 t14 t15 t16 t17 t18 t19 t20 t21 t22 t23 t24 t25 t26 t27 t28 t29 t30 t31 t32 t33 t34 t35 t36 t37 t38 t39 t40 t41 t42 t43 t44 t45 t46 t47 t48 t49 t50 t51 t52 t53 t54 t55 t56 t57 t58 t59 t60 t61 t62 t63 t64 t65 t66 t67 t68 t69 t70 t71 t72 t73 t74 t75 t76 t77) H (K121_bbbabklbbakbba lf rec g k e) (E121_bbbabklbbakbbab lf rec g k e) R121 = L121_2 lf rec t0 t1 t6 t7 t25 t26 t30 (fun w8 H => J121_bbbabklbbakbba lf rec t0 t1 t6 t25 (L121_1 lf rec t0 t1 t6 t25 kx0 g) kx0 t7 w8 t26 H) lf t8 t31 H := fun t7 t8 t9 t26 t27 t28 t29 t30 t31 t32 t33 t34 t35 t36 t37 t38 t39 t40 t41 t42 t43 t44 t45 t46 t47 t48 t49 t50 t51 t52 t53 t54 t55 t56 t57 t58 t59 t60 t61 t62 t63 t64 t65 t66 t67 t68 t69 t70 t71 t72 t73 H => L121_2_eq lf rec (K121_bbbabklbbakbba lf rec g k e) (E121_bbbabklbbakbbab lf rec g k e) t0 t1 t2 t3 t4 t5 t6 t7 t10 t11 t12 t13 t14 t15 t16 t17 t18 t19 t20 t21 t22 t23 t24 t25 t26 t27 t28 t29 t30 t65 t66 t67 t68 t69 t70 t71 t72 t73 t74 t75 t76 t77 (fun w8 H => J121_bbbabklbbakbba lf rec t0 t1 t6 t25 (L121_1 lf rec t0 t1 t6 t25 kx0 g) kx0 t7 w8 t26 H) (fun t8 t9 t31 t32 t33 t34 t35 t36 t37 t38 t39 t40 t41 t42 t43 t44 t45 t46 t47 t48 t49 t50 t51 t52 t53 t54 t55 t56 t57 t58 t59 t60 t61 t62 t63 t64 H => J121_bbbabklbbakbba_eq lf rec g k e t0 t1 t2 t3 t4 t5 t6 t10 t11 t12 t13 t14 t15 t16 t17 t18 t19 t20 t21 t22 t23 t24 t25 t74 t75 t76 t77 (L121_1 lf rec t0 t1 t6 t25 kx0 g) hc kx0 hx0 t7 t8 t9 t26 t27 t28 t29 t30 t31 t32 t33 t34 t35 t36 t37 t38 t39 t40 t41 t42 t43 t44 t45 t46 t47 t48 t49 t50 t51 t52 t53 t54 t55 t56 t57 t58 t59 t60 t61 t62 t63 t64 t65 t66 t67 t68 t69 t70 t71 t72 t73 H) lf t8 t9 t31 t32 t33 t34 t35 t36 t37 t38 t39 t40 t41 t42 t43 t44 t45 t46 t47 t48 t49 t50 t51 t52 t53 t54 t55 t56 t57 t58 t59 t60 t61 t62 t63 t64 H
  refine Eq.trans (b :=
    binI fLss t26 t25 fun v58 =>
    ifA v58 (
      lenSA t1 fun v63 =>
      kLoop lf (codeA Tryz.prog lf 78 c121_bbbabklbbakbbabkl) rec (env121 t0 t1 t2 t3 t4 t5 t6 t26 (.int .u64 (.ofNat 0)) t9 t10 t11 t12 t13 t14 t15 t16 t17 t18 t19 t20 t21 t22 t23 t24 t25 t26 v58 t26 t1 v63 (.int .i64 (.ofNat 0)) t32 t33 t34 t35 t36 t37 t38 t39 t40 t41 t42 t43 t44 t45 t46 t47 t48 t49 t50 t51 t52 t53 t54 t55 t56 t57 t58 t59 t60 t61 t62 t63 t64 t65 t66 t67 t68 t69 t70 t71 t72 t73 t74 t75 t76 t77) H (K121_bbbabklbbakbba lf rec g k e) (E121_bbbabklbbakbbab lf rec g k e) R121) (
      e 0 (env121 t0 t1 t2 t3 t4 t5 t6 t7 t8 t9 t10 t11 t12 t13 t14 t15 t16 t17 t18 t19 t20 t21 t22 t23 t24 t25 t26 v58 t28 t29 t30 t31 t32 t33 t34 t35 t36 t37 t38 t39 t40 t41 t42 t43 t44 t45 t46 t47 t48 t49 t50 t51 t52 t53 t54 t55 t56 t57 t58 t59 t60 t61 t62 t63 t64 t65 t66 t67 t68 t69 t70 t71 t72 t73 t74 t75 t76 t77) H)) (by kernel_rfl) ?_
  simp only [hx0, hL121_2]
  rw [L121_1]
noncomputable def J121_bbba (_lf : Nat) (rec : Rec) (t6 : AV) (H : AH) : Ans :=
  callF rec 143 [t6] H fun v66 H67 =>
  extA 0 v66 fun v68 =>
  extA 1 v66 fun v69 =>
  some (.tup [v68, v69], H67)
noncomputable def c121_bbbb : Code := Code.sb c121_bbb
noncomputable def K121_bbba (lf : Nat) (rec : Rec) : Env → AH → Ans := fun env H => (codeA Tryz.prog lf 78 c121_bbbb) rec env H R121 E0 R121
theorem J121_bbba_eq (lf : Nat) (rec : Rec) (t0 t1 t2 t3 t4 t5 t6 t7 t8 t9 t10 t11 t12 t13 t14 t15 t16 t17 t18 t19 t20 t21 t22 t23 t24 t25 t26 t27 t28 t29 t30 t31 t32 t33 t34 t35 t36 t37 t38 t39 t40 t41 t42 t43 t44 t45 t46 t47 t48 t49 t50 t51 t52 t53 t54 t55 t56 t57 t58 t59 t60 t61 t62 t63 t64 t65 t66 t67 t68 t69 t70 t71 t72 t73 t74 t75 t76 t77 : AV) (H : AH) : (K121_bbba lf rec) (env121 t0 t1 t2 t3 t4 t5 t6 t7 t8 t9 t10 t11 t12 t13 t14 t15 t16 t17 t18 t19 t20 t21 t22 t23 t24 t25 t26 t27 t28 t29 t30 t31 t32 t33 t34 t35 t36 t37 t38 t39 t40 t41 t42 t43 t44 t45 t46 t47 t48 t49 t50 t51 t52 t53 t54 t55 t56 t57 t58 t59 t60 t61 t62 t63 t64 t65 t66 t67 t68 t69 t70 t71 t72 t73 t74 t75 t76 t77) H = J121_bbba lf rec t6 H := by
  refine Eq.trans (b :=
  callF rec 143 [t6] H fun v66 H67 =>
  extA 0 v66 fun v68 =>
  extA 1 v66 fun v69 =>
  some (.tup [v68, v69], H67)) (by kernel_rfl) ?_
  kernel_rfl
noncomputable def E121_bbbab (lf : Nat) (rec : Rec) : Nat → Env → AH → Ans := fun j env H => bt (Nat.beq j 0) ((K121_bbba lf rec) env H) (E0 j env H)
noncomputable def F121 (lf : Nat) (rec : Rec) (t0 t1 : AV) (H : AH) : Ans :=
  callF rec 53 [t0] H fun v75 H76 =>
  notA v75 fun v77 =>
  gd false v77 H76 (fun k => k t1 H76) fun v80 H81 =>
  gd false v77 H81 (fun k => callF rec 53 [v80] H81 fun v82 H83 => k v82 H83) fun v84 H85 =>
  gd false v77 H85 (fun k => notA v84 fun v86 => k v86 H85) fun v87 H88 =>
  pickA v77 (.bool true) v87 fun v89 =>
  ifA v89 (
    some (.tup [(.nils : AV), (.int .i64 (.ofNat 1))], H88)) (
    lenSA t0 fun v93 =>
    lenSA t1 fun v95 =>
    binI fAdd v93 v95 fun v96 =>
    mksA [(.int .u32 (.ofNat 0))] H88 v96 v96 fun v97 H98 =>
    lenSA t0 fun v101 =>
    L121_1 lf rec t0 t1 v97 v101 (fun H => J121_bbba lf rec v97 H) lf (.int .i64 (.ofNat 0)) H98)
theorem F121_eq (lf fuel : Nat) (t0 t1 : AV) (H : AH) : ev Tryz.prog lf noRec (fuel + 1) 121 [t0, t1] H = F121 lf (ev Tryz.prog lf noRec fuel) t0 t1 H := by
  generalize hrec : ev Tryz.prog lf noRec fuel = rec
  refine Eq.trans (b := codeA Tryz.prog lf 78 c121 rec (env121 t0 t1 undef undef undef undef undef undef undef undef undef undef undef undef undef undef undef undef undef undef undef undef undef undef undef undef undef undef undef undef undef undef undef undef undef undef undef undef undef undef undef undef undef undef undef undef undef undef undef undef undef undef undef undef undef undef undef undef undef undef undef undef undef undef undef undef undef undef undef undef undef undef undef undef undef undef undef undef) H R121 E0 R121) (by subst hrec; kernel_rfl) ?_
  have hL121_1 : ∀ (t0 t1 t2 t3 t4 t5 t6 t7 t8 t9 t10 t11 t12 t13 t14 t15 t16 t17 t18 t19 t20 t21 t22 t23 t24 t25 t26 t27 t28 t29 t30 t31 t32 t33 t34 t35 t36 t37 t38 t39 t40 t41 t42 t43 t44 t45 t46 t47 t48 t49 t50 t51 t52 t53 t54 t55 t56 t57 t58 t59 t60 t61 t62 t63 t64 t65 t66 t67 t68 t69 t70 t71 t72 t73 t74 t75 t76 t77 : AV) (H : AH), kLoop lf (codeA Tryz.prog lf 78 c121_bbbabkl) rec (env121 t0 t1 t2 t3 t4 t5 t6 t7 t8 t9 t10 t11 t12 t13 t14 t15 t16 t17 t18 t19 t20 t21 t22 t23 t24 t25 t26 t27 t28 t29 t30 t31 t32 t33 t34 t35 t36 t37 t38 t39 t40 t41 t42 t43 t44 t45 t46 t47 t48 t49 t50 t51 t52 t53 t54 t55 t56 t57 t58 t59 t60 t61 t62 t63 t64 t65 t66 t67 t68 t69 t70 t71 t72 t73 t74 t75 t76 t77) H (K121_bbba lf rec) (E121_bbbab lf rec) R121 = L121_1 lf rec t0 t1 t6 t25 (fun H => J121_bbba lf rec t6 H) lf t26 H := fun t0 t1 t2 t3 t4 t5 t6 t7 t8 t9 t10 t11 t12 t13 t14 t15 t16 t17 t18 t19 t20 t21 t22 t23 t24 t25 t26 t27 t28 t29 t30 t31 t32 t33 t34 t35 t36 t37 t38 t39 t40 t41 t42 t43 t44 t45 t46 t47 t48 t49 t50 t51 t52 t53 t54 t55 t56 t57 t58 t59 t60 t61 t62 t63 t64 t65 t66 t67 t68 t69 t70 t71 t72 t73 t74 t75 t76 t77 H => L121_1_eq lf rec (K121_bbba lf rec) (E121_bbbab lf rec) t0 t1 t2 t3 t4 t5 t6 t10 t11 t12 t13 t14 t15 t16 t17 t18 t19 t20 t21 t22 t23 t24 t25 t74 t75 t76 t77 (fun H => J121_bbba lf rec t6 H) (fun t7 t8 t9 t26 t27 t28 t29 t30 t31 t32 t33 t34 t35 t36 t37 t38 t39 t40 t41 t42 t43 t44 t45 t46 t47 t48 t49 t50 t51 t52 t53 t54 t55 t56 t57 t58 t59 t60 t61 t62 t63 t64 t65 t66 t67 t68 t69 t70 t71 t72 t73 H => J121_bbba_eq lf rec t0 t1 t2 t3 t4 t5 t6 t7 t8 t9 t10 t11 t12 t13 t14 t15 t16 t17 t18 t19 t20 t21 t22 t23 t24 t25 t26 t27 t28 t29 t30 t31 t32 t33 t34 t35 t36 t37 t38 t39 t40 t41 t42 t43 t44 t45 t46 t47 t48 t49 t50 t51 t52 t53 t54 t55 t56 t57 t58 t59 t60 t61 t62 t63 t64 t65 t66 t67 t68 t69 t70 t71 t72 t73 t74 t75 t76 t77 H) lf t7 t8 t9 t26 t27 t28 t29 t30 t31 t32 t33 t34 t35 t36 t37 t38 t39 t40 t41 t42 t43 t44 t45 t46 t47 t48 t49 t50 t51 t52 t53 t54 t55 t56 t57 t58 t59 t60 t61 t62 t63 t64 t65 t66 t67 t68 t69 t70 t71 t72 t73 H
  refine Eq.trans (b :=
  callF rec 53 [t0] H fun v75 H76 =>
  notA v75 fun v77 =>
  gd false v77 H76 (fun k => k t1 H76) fun v80 H81 =>
  gd false v77 H81 (fun k => callF rec 53 [v80] H81 fun v82 H83 => k v82 H83) fun v84 H85 =>
  gd false v77 H85 (fun k => notA v84 fun v86 => k v86 H85) fun v87 H88 =>
  pickA v77 (.bool true) v87 fun v89 =>
  ifA v89 (
    some (.tup [(.nils : AV), (.int .i64 (.ofNat 1))], H88)) (
    lenSA t0 fun v93 =>
    lenSA t1 fun v95 =>
    binI fAdd v93 v95 fun v96 =>
    mksA [(.int .u32 (.ofNat 0))] H88 v96 v96 fun v97 H98 =>
    lenSA t0 fun v101 =>
    kLoop lf (codeA Tryz.prog lf 78 c121_bbbabkl) rec (env121 t0 t1 undef undef (.nils : AV) (.int .i64 (.ofNat 0)) v97 undef undef undef t0 v75 v77 v77 v80 v84 v87 v89 t0 v93 t1 v95 v96 v97 t0 v101 (.int .i64 (.ofNat 0)) undef undef undef undef undef undef undef undef undef undef undef undef undef undef undef undef undef undef undef undef undef undef undef undef undef undef undef undef undef undef undef undef undef undef undef undef undef undef undef undef undef undef undef undef undef undef undef undef undef undef undef) H98 (K121_bbba lf rec) (E121_bbbab lf rec) R121)) (by kernel_rfl) ?_
  first | (simp only [hL121_1]; done) | (simp only [hL121_1]; with_reducible_and_instances rfl) | (simp only [hL121_1]; kernel_rfl)

/-! 55 koine/koineref01.trim -/
noncomputable def c55 : Code := (Tryz.f55.body).getD .skip
@[reducible] noncomputable def env55 (t0 t1 t2 t3 t4 t5 t6 t7 t8 t9 t10 t11 t12 t13 t14 t15 t16 t17 t18 t19 t20 : AV) : Env := ⟨⟨t0, t1, t2, t3, t4, t5, t6, t7, t8, t9, t10, t11, t12, t13, t14, t15⟩, ⟨t16, t17, t18, t19, t20, undef, undef, undef, undef, undef, undef, undef, undef, undef, undef, undef⟩, (R.all undef), (R.all undef), (R.all undef), (R.all undef), (R.all undef), (R.all undef), (R.all undef), (R.all undef), (R.all undef), (R.all undef), (R.all undef), (R.all undef), (R.all undef), (R.all undef)⟩
noncomputable def R55 : Env → AH → Ans := retA [vTmp (slot 2)]
noncomputable def c55_b : Code := Code.sb c55
noncomputable def c55_bb : Code := Code.sb c55_b
noncomputable def c55_bba : Code := Code.sa c55_bb
noncomputable def c55_bbak : Code := Code.bb c55_bba
noncomputable def c55_bbakl : Code := Code.lb c55_bbak
noncomputable def KC55_bbakl (lf : Nat) (rec : Rec) (g : Nat) (k : Env → AH → Ans) (e : Nat → Env → AH → Ans) : Env → AH → Ans := fun env H => kLoopN (codeA Tryz.prog lf 21 c55_bbakl) g rec env H k e R55
noncomputable def L55_1 (lf : Nat) (rec : Rec) (t0 : AV) (kx0 : AV → AH → Ans) : Nat → AV → AH → Ans
  | 0, _, _ => none
  | g + 1, t3, H =>
    binI fGtr t3 (.int .i64 (.ofNat 0)) fun v2 =>
    gd true v2 H (fun k => k t0 H) fun v5 H6 =>
    gd true v2 H6 (fun k => k t3 H6) fun v8 H9 =>
    gd true v2 H9 (fun k => binI fSub v8 (.int .i64 (.ofNat 1)) fun v10 => k v10 H9) fun v11 H12 =>
    gd true v2 H12 (fun k => ixsA 1 v5 v11 fun v13 => k v13 H12) fun v14 H15 =>
    gd true v2 H15 (fun k => ldA H15 v14 fun v16 => k v16 H15) fun v17 H18 =>
    gd true v2 H18 (fun k => binI fEql v17 (.int .u32 (.ofNat 0)) fun v19 => k v19 H18) fun v20 H21 =>
    pickA v2 v20 (.bool false) fun v22 =>
    ifA v22 (
      binI fSub t3 (.int .i64 (.ofNat 1)) fun v24 =>
      (L55_1 lf rec t0 kx0 g) v24 H21) (
      kx0 t3 H21)
theorem L55_1_eq (lf : Nat) (rec : Rec) (k : Env → AH → Ans) (e : Nat → Env → AH → Ans) (t0 t1 t2 t4 t5 t18 t19 t20 : AV) (kx0 : AV → AH → Ans) (hx0 : ∀ (t3 t6 t7 t8 t9 t10 t11 t12 t13 t14 t15 t16 t17 : AV) (H : AH), e 0 (env55 t0 t1 t2 t3 t4 t5 t6 t7 t8 t9 t10 t11 t12 t13 t14 t15 t16 t17 t18 t19 t20) H = kx0 t3 H) : ∀ (g : Nat) (t3 t6 t7 t8 t9 t10 t11 t12 t13 t14 t15 t16 t17 : AV) (H : AH), kLoopN (codeA Tryz.prog lf 21 c55_bbakl) g rec (env55 t0 t1 t2 t3 t4 t5 t6 t7 t8 t9 t10 t11 t12 t13 t14 t15 t16 t17 t18 t19 t20) H k e R55 = L55_1 lf rec t0 kx0 g t3 H := by
  intro g
  induction g with
  | zero => intros; rfl
  | succ g hc =>
  intro t3 t6 t7 t8 t9 t10 t11 t12 t13 t14 t15 t16 t17 H
  refine Eq.trans (b :=
    binI fGtr t3 (.int .i64 (.ofNat 0)) fun v2 =>
    gd true v2 H (fun k => k t0 H) fun v5 H6 =>
    gd true v2 H6 (fun k => k t3 H6) fun v8 H9 =>
    gd true v2 H9 (fun k => binI fSub v8 (.int .i64 (.ofNat 1)) fun v10 => k v10 H9) fun v11 H12 =>
    gd true v2 H12 (fun k => ixsA 1 v5 v11 fun v13 => k v13 H12) fun v14 H15 =>
    gd true v2 H15 (fun k => ldA H15 v14 fun v16 => k v16 H15) fun v17 H18 =>
    gd true v2 H18 (fun k => binI fEql v17 (.int .u32 (.ofNat 0)) fun v19 => k v19 H18) fun v20 H21 =>
    pickA v2 v20 (.bool false) fun v22 =>
    ifA v22 (
      binI fSub t3 (.int .i64 (.ofNat 1)) fun v24 =>
      kLoopN (codeA Tryz.prog lf 21 c55_bbakl) g rec (env55 t0 t1 t2 v24 t4 t5 t3 v2 v2 v5 v8 v11 v14 v17 v20 v22 t3 v24 t18 t19 t20) H21 k e R55) (
      e 0 (env55 t0 t1 t2 t3 t4 t5 t3 v2 v2 v5 v8 v11 v14 v17 v20 v22 t16 t17 t18 t19 t20) H21)) (by kernel_rfl) ?_
  simp only [hc, hx0]
  rw [L55_1]
noncomputable def J55_bba (_lf : Nat) (_rec : Rec) (t0 t3 : AV) (H : AH) : Ans :=
  slA 1 t0 none (some t3) fun v28 =>
  some (v28, H)
noncomputable def c55_bbb : Code := Code.sb c55_bb
noncomputable def K55_bba (lf : Nat) (rec : Rec) : Env → AH → Ans := fun env H => (codeA Tryz.prog lf 21 c55_bbb) rec env H R55 E0 R55
theorem J55_bba_eq (lf : Nat) (rec : Rec) (t0 t1 t2 t3 t4 t5 t6 t7 t8 t9 t10 t11 t12 t13 t14 t15 t16 t17 t18 t19 t20 : AV) (H : AH) : (K55_bba lf rec) (env55 t0 t1 t2 t3 t4 t5 t6 t7 t8 t9 t10 t11 t12 t13 t14 t15 t16 t17 t18 t19 t20) H = J55_bba lf rec t0 t3 H := by
  refine Eq.trans (b :=
  slA 1 t0 none (some t3) fun v28 =>
  some (v28, H)) (by kernel_rfl) ?_
  kernel_rfl
noncomputable def E55_bba (lf : Nat) (rec : Rec) : Nat → Env → AH → Ans := fun j env H => bt (Nat.beq j 0) ((K55_bba lf rec) env H) (E0 j env H)
noncomputable def F55 (lf : Nat) (rec : Rec) (t0 : AV) (H : AH) : Ans :=
  lenSA t0 fun v32 =>
  L55_1 lf rec t0 (fun w3 H => J55_bba lf rec t0 w3 H) lf v32 H
theorem F55_eq (lf fuel : Nat) (t0 : AV) (H : AH) : ev Tryz.prog lf noRec (fuel + 1) 55 [t0] H = F55 lf (ev Tryz.prog lf noRec fuel) t0 H := by
  generalize hrec : ev Tryz.prog lf noRec fuel = rec
  refine Eq.trans (b := codeA Tryz.prog lf 21 c55 rec (env55 t0 undef undef undef undef undef undef undef undef undef undef undef undef undef undef undef undef undef undef undef undef) H R55 E0 R55) (by subst hrec; kernel_rfl) ?_
  have hL55_1 : ∀ (t0 t1 t2 t3 t4 t5 t6 t7 t8 t9 t10 t11 t12 t13 t14 t15 t16 t17 t18 t19 t20 : AV) (H : AH), kLoop lf (codeA Tryz.prog lf 21 c55_bbakl) rec (env55 t0 t1 t2 t3 t4 t5 t6 t7 t8 t9 t10 t11 t12 t13 t14 t15 t16 t17 t18 t19 t20) H (K55_bba lf rec) (E55_bba lf rec) R55 = L55_1 lf rec t0 (fun w3 H => J55_bba lf rec t0 w3 H) lf t3 H := fun t0 t1 t2 t3 t4 t5 t6 t7 t8 t9 t10 t11 t12 t13 t14 t15 t16 t17 t18 t19 t20 H => L55_1_eq lf rec (K55_bba lf rec) (E55_bba lf rec) t0 t1 t2 t4 t5 t18 t19 t20 (fun w3 H => J55_bba lf rec t0 w3 H) (fun t3 t6 t7 t8 t9 t10 t11 t12 t13 t14 t15 t16 t17 H => J55_bba_eq lf rec t0 t1 t2 t3 t4 t5 t6 t7 t8 t9 t10 t11 t12 t13 t14 t15 t16 t17 t18 t19 t20 H) lf t3 t6 t7 t8 t9 t10 t11 t12 t13 t14 t15 t16 t17 H
  refine Eq.trans (b :=
  lenSA t0 fun v32 =>
  kLoop lf (codeA Tryz.prog lf 21 c55_bbakl) rec (env55 t0 undef (.nils : AV) v32 t0 v32 undef undef undef undef undef undef undef undef undef undef undef undef undef undef undef) H (K55_bba lf rec) (E55_bba lf rec) R55) (by kernel_rfl) ?_
  first | (simp only [hL55_1]; done) | (simp only [hL55_1]; with_reducible_and_instances rfl) | (simp only [hL55_1]; kernel_rfl)

/-! 56 koine/koineref01.Valid -/
noncomputable def c56 : Code := (Tryz.f56.body).getD .skip
@[reducible] noncomputable def env56 (t0 t1 t2 t3 t4 t5 t6 t7 t8 t9 t10 t11 t12 t13 t14 t15 t16 t17 t18 t19 : AV) : Env := ⟨⟨t0, t1, t2, t3, t4, t5, t6, t7, t8, t9, t10, t11, t12, t13, t14, t15⟩, ⟨t16, t17, t18, t19, undef, undef, undef, undef, undef, undef, undef, undef, undef, undef, undef, undef⟩, (R.all undef), (R.all undef), (R.all undef), (R.all undef), (R.all undef), (R.all undef), (R.all undef), (R.all undef), (R.all undef), (R.all undef), (R.all undef), (R.all undef), (R.all undef), (R.all undef)⟩
noncomputable def R56 : Env → AH → Ans := retA [vTmp (slot 2)]
noncomputable def F56 (_lf : Nat) (_rec : Rec) (t0 : AV) (H : AH) : Ans :=
  lenSA t0 fun v3 =>
  binI fLeq v3 (.int .i64 (.ofNat 1024)) fun v4 =>
  gd true v4 H (fun k => k t0 H) fun v7 H8 =>
  gd true v4 H8 (fun k => lenSA v7 fun v9 => k v9 H8) fun v10 H11 =>
  gd true v4 H11 (fun k => binI fEql v10 (.int .i64 (.ofNat 0)) fun v12 => k v12 H11) fun v13 H14 =>
  gd true v4 H14 (fun k => k v13 H14) fun v16 H17 =>
  gd false v16 H17 (fun k => k t0 H17) fun v19 H20 =>
  gd false v16 H20 (fun k => k t0 H20) fun v22 H23 =>
  gd false v16 H23 (fun k => lenSA v22 fun v24 => k v24 H23) fun v25 H26 =>
  gd false v16 H26 (fun k => binI fSub v25 (.int .i64 (.ofNat 1)) fun v27 => k v27 H26) fun v28 H29 =>
  gd false v16 H29 (fun k => ixsA 1 v19 v28 fun v30 => k v30 H29) fun v31 H32 =>
  gd false v16 H32 (fun k => ldA H32 v31 fun v33 => k v33 H32) fun v34 H35 =>
  gd false v16 H35 (fun k => binI fNeq v34 (.int .u32 (.ofNat 0)) fun v36 => k v36 H35) fun v37 H38 =>
  gd true v4 H38 (fun k => pickA v16 (.bool true) v37 fun v39 => k v39 H38) fun v40 H41 =>
  pickA v4 v40 (.bool false) fun v42 =>
  some (v42, H41)
theorem F56_eq (lf fuel : Nat) (t0 : AV) (H : AH) : ev Tryz.prog lf noRec (fuel + 1) 56 [t0] H = F56 lf (ev Tryz.prog lf noRec fuel) t0 H := by
  generalize hrec : ev Tryz.prog lf noRec fuel = rec
  refine Eq.trans (b := codeA Tryz.prog lf 20 c56 rec (env56 t0 undef undef undef undef undef undef undef undef undef undef undef undef undef undef undef undef undef undef undef) H R56 E0 R56) (by subst hrec; kernel_rfl) ?_
  refine Eq.trans (b :=
  lenSA t0 fun v3 =>
  binI fLeq v3 (.int .i64 (.ofNat 1024)) fun v4 =>
  gd true v4 H (fun k => k t0 H) fun v7 H8 =>
  gd true v4 H8 (fun k => lenSA v7 fun v9 => k v9 H8) fun v10 H11 =>
  gd true v4 H11 (fun k => binI fEql v10 (.int .i64 (.ofNat 0)) fun v12 => k v12 H11) fun v13 H14 =>
  gd true v4 H14 (fun k => k v13 H14) fun v16 H17 =>
  gd false v16 H17 (fun k => k t0 H17) fun v19 H20 =>
  gd false v16 H20 (fun k => k t0 H20) fun v22 H23 =>
  gd false v16 H23 (fun k => lenSA v22 fun v24 => k v24 H23) fun v25 H26 =>
  gd false v16 H26 (fun k => binI fSub v25 (.int .i64 (.ofNat 1)) fun v27 => k v27 H26) fun v28 H29 =>
  gd false v16 H29 (fun k => ixsA 1 v19 v28 fun v30 => k v30 H29) fun v31 H32 =>
  gd false v16 H32 (fun k => ldA H32 v31 fun v33 => k v33 H32) fun v34 H35 =>
  gd false v16 H35 (fun k => binI fNeq v34 (.int .u32 (.ofNat 0)) fun v36 => k v36 H35) fun v37 H38 =>
  gd true v4 H38 (fun k => pickA v16 (.bool true) v37 fun v39 => k v39 H38) fun v40 H41 =>
  pickA v4 v40 (.bool false) fun v42 =>
  some (v42, H41)) (by kernel_rfl) ?_
  kernel_rfl

/-! 83 koine/koineref01.limb -/
noncomputable def c83 : Code := (Tryz.f83.body).getD .skip
@[reducible] noncomputable def env83 (t0 t1 t2 t3 t4 t5 t6 t7 t8 t9 t10 t11 t12 t13 : AV) : Env := ⟨⟨t0, t1, t2, t3, t4, t5, t6, t7, t8, t9, t10, t11, t12, t13, undef, undef⟩, (R.all undef), (R.all undef), (R.all undef), (R.all undef), (R.all undef), (R.all undef), (R.all undef), (R.all undef), (R.all undef), (R.all undef), (R.all undef), (R.all undef), (R.all undef), (R.all undef), (R.all undef)⟩
noncomputable def R83 : Env → AH → Ans := retA [vTmp (slot 4)]
noncomputable def F83 (_lf : Nat) (_rec : Rec) (t0 t1 : AV) (H : AH) : Ans :=
  lenSA t0 fun v4 =>
  binI fLss t1 v4 fun v5 =>
  ifA v5 (
    ixsA 1 t0 t1 fun v8 =>
    ldA H v8 fun v9 =>
    cvA .u64 v9 fun v10 =>
    some (v10, H)) (
    some ((.int .u64 (.ofNat 0)), H))
theorem F83_eq (lf fuel : Nat) (t0 t1 : AV) (H : AH) : ev Tryz.prog lf noRec (fuel + 1) 83 [t0, t1] H = F83 lf (ev Tryz.prog lf noRec fuel) t0 t1 H := by
  generalize hrec : ev Tryz.prog lf noRec fuel = rec
  refine Eq.trans (b := codeA Tryz.prog lf 14 c83 rec (env83 t0 t1 undef undef undef undef undef undef undef undef undef undef undef undef) H R83 E0 R83) (by subst hrec; kernel_rfl) ?_
  refine Eq.trans (b :=
  lenSA t0 fun v4 =>
  binI fLss t1 v4 fun v5 =>
  ifA v5 (
    ixsA 1 t0 t1 fun v8 =>
    ldA H v8 fun v9 =>
    cvA .u64 v9 fun v10 =>
    some (v10, H)) (
    some ((.int .u64 (.ofNat 0)), H))) (by kernel_rfl) ?_
  kernel_rfl

/-! 84 koine/koineref01.fit -/
noncomputable def c84 : Code := (Tryz.f84.body).getD .skip
@[reducible] noncomputable def env84 (t0 t1 t2 t3 t4 t5 t6 t7 t8 t9 t10 : AV) : Env := ⟨⟨t0, t1, t2, t3, t4, t5, t6, t7, t8, t9, t10, undef, undef, undef, undef, undef⟩, (R.all undef), (R.all undef), (R.all undef), (R.all undef), (R.all undef), (R.all undef), (R.all undef), (R.all undef), (R.all undef), (R.all undef), (R.all undef), (R.all undef), (R.all undef), (R.all undef), (R.all undef)⟩
noncomputable def R84 : Env → AH → Ans := retA [vTmp (slot 2), vTmp (slot 3)]
noncomputable def F84 (_lf : Nat) (rec : Rec) (t0 : AV) (H : AH) : Ans :=
  callF rec 55 [t0] H fun v4 H5 =>
  lenSA v4 fun v8 =>
  binI fGtr v8 (.int .i64 (.ofNat 1024)) fun v9 =>
  ifA v9 (
    some (.tup [(.nils : AV), (.int .i64 (.ofNat 2))], H5)) (
    some (.tup [v4, (.int .i64 (.ofNat 0))], H5))
theorem F84_eq (lf fuel : Nat) (t0 : AV) (H : AH) : ev Tryz.prog lf noRec (fuel + 1) 84 [t0] H = F84 lf (ev Tryz.prog lf noRec fuel) t0 H := by
  generalize hrec : ev Tryz.prog lf noRec fuel = rec
  refine Eq.trans (b := codeA Tryz.prog lf 11 c84 rec (env84 t0 undef undef undef undef undef undef undef undef undef undef) H R84 E0 R84) (by subst hrec; kernel_rfl) ?_
  refine Eq.trans (b :=
  callF rec 55 [t0] H fun v4 H5 =>
  lenSA v4 fun v8 =>
  binI fGtr v8 (.int .i64 (.ofNat 1024)) fun v9 =>
  ifA v9 (
    some (.tup [(.nils : AV), (.int .i64 (.ofNat 2))], H5)) (
    some (.tup [v4, (.int .i64 (.ofNat 0))], H5))) (by kernel_rfl) ?_
  kernel_rfl

/-! 27 koine/koineref01.Mul -/
noncomputable def c27 : Code := (Tryz.f27.body).getD .skip
@[reducible] noncomputable def env27 (t0 t1 t2 t3 t4 t5 t6 t7 t8 t9 t10 t11 t12 t13 t14 t15 t16 t17 t18 t19 t20 t21 t22 t23 t24 t25 t26 t27 t28 t29 t30 t31 t32 t33 t34 t35 t36 t37 t38 t39 t40 t41 t42 t43 t44 t45 t46 t47 t48 t49 t50 t51 t52 t53 t54 t55 t56 t57 t58 t59 t60 t61 t62 t63 t64 t65 t66 t67 t68 t69 t70 t71 t72 t73 : AV) : Env := ⟨⟨t0, t1, t2, t3, t4, t5, t6, t7, t8, t9, t10, t11, t12, t13, t14, t15⟩, ⟨t16, t17, t18, t19, t20, t21, t22, t23, t24, t25, t26, t27, t28, t29, t30, t31⟩, ⟨t32, t33, t34, t35, t36, t37, t38, t39, t40, t41, t42, t43, t44, t45, t46, t47⟩, ⟨t48, t49, t50, t51, t52, t53, t54, t55, t56, t57, t58, t59, t60, t61, t62, t63⟩, ⟨t64, t65, t66, t67, t68, t69, t70, t71, t72, t73, undef, undef, undef, undef, undef, undef⟩, (R.all undef), (R.all undef), (R.all undef), (R.all undef), (R.all undef), (R.all undef), (R.all undef), (R.all undef), (R.all undef), (R.all undef), (R.all undef)⟩
noncomputable def R27 : Env → AH → Ans := retA [vTmp (slot 4), vTmp (slot 5)]
noncomputable def c27_b : Code := Code.sb c27
noncomputable def c27_bb : Code := Code.sb c27_b
noncomputable def c27_bbb : Code := Code.sb c27_bb
noncomputable def c27_bbba : Code := Code.sa c27_bbb
noncomputable def c27_bbbab : Code := Code.sb c27_bbba
noncomputable def c27_bbbabk : Code := Code.bb c27_bbbab
noncomputable def c27_bbbabkl : Code := Code.lb c27_bbbabk
noncomputable def c27_bbbabklb : Code := Code.sb c27_bbbabkl
noncomputable def c27_bbbabklba : Code := Code.sa c27_bbbabklb
noncomputable def c27_bbbabklbak : Code := Code.bb c27_bbbabklba
noncomputable def c27_bbbabklbakb : Code := Code.sb c27_bbbabklbak
noncomputable def c27_bbbabklbakba : Code := Code.sa c27_bbbabklbakb
noncomputable def c27_bbbabklbakbab : Code := Code.sb c27_bbbabklbakba
noncomputable def c27_bbbabklbakbabk : Code := Code.bb c27_bbbabklbakbab
noncomputable def c27_bbbabklbakbabkl : Code := Code.lb c27_bbbabklbakbabk
noncomputable def KC27_bbbabklbakbabkl (lf : Nat) (rec : Rec) (g : Nat) (k : Env → AH → Ans) (e : Nat → Env → AH → Ans) : Env → AH → Ans := fun env H => kLoopN (codeA Tryz.prog lf 74 c27_bbbabklbakbabkl) g rec env H k e R27
noncomputable def L27_2 (lf : Nat) (rec : Rec) (t0 t1 t6 t7 : AV) (kx2 : AV → AH → Ans) : Nat → AV → AV → AH → Ans
  | 0, _, _, _ => none
  | g + 1, t8, t9, H =>
    lenSA t1 fun v3 =>
    binI fLss t9 v3 fun v4 =>
    ifA v4 (
      callF rec 83 [t0, t7] H fun v7 H8 =>
      callF rec 83 [t1, t9] H8 fun v11 H12 =>
      binI fMul v7 v11 fun v13 =>
      binI fAdd t7 t9 fun v17 =>
      callF rec 83 [t6, v17] H12 fun v18 H19 =>
      binI fAdd v13 v18 fun v20 =>
      binI fAdd v20 t8 fun v22 =>
      binI fAdd t7 t9 fun v27 =>
      binI fRem v22 (.int .u64 (.ofNat 4294967296)) fun v29 =>
      cvA .u32 v29 fun v30 =>
      ixsA 1 t6 v27 fun v31 =>
      stA 1 H19 v31 (cellsOf v30) fun H33 =>
      binI fQuo v22 (.int .u64 (.ofNat 4294967296)) fun v35 =>
      binI fAdd t9 (.int .i64 (.ofNat 1)) fun v38 =>
      (L27_2 lf rec t0 t1 t6 t7 kx2 g) v35 v38 H33) (
      kx2 t8 H)
theorem L27_2_eq (lf : Nat) (rec : Rec) (k : Env → AH → Ans) (e : Nat → Env → AH → Ans) (t0 t1 t2 t3 t4 t5 t6 t7 t11 t12 t13 t14 t15 t16 t17 t18 t19 t20 t21 t22 t23 t24 t25 t26 t27 t28 t29 t30 t62 t63 t64 t65 t66 t67 t68 t69 t70 t71 t72 t73 : AV) (kx2 : AV → AH → Ans) (hx2 : ∀ (t8 t9 t10 t31 t32 t33 t34 t35 t36 t37 t38 t39 t40 t41 t42 t43 t44 t45 t46 t47 t48 t49 t50 t51 t52 t53 t54 t55 t56 t57 t58 t59 t60 t61 : AV) (H : AH), e 2 (env27 t0 t1 t2 t3 t4 t5 t6 t7 t8 t9 t10 t11 t12 t13 t14 t15 t16 t17 t18 t19 t20 t21 t22 t23 t24 t25 t26 t27 t28 t29 t30 t31 t32 t33 t34 t35 t36 t37 t38 t39 t40 t41 t42 t43 t44 t45 t46 t47 t48 t49 t50 t51 t52 t53 t54 t55 t56 t57 t58 t59 t60 t61 t62 t63 t64 t65 t66 t67 t68 t69 t70 t71 t72 t73) H = kx2 t8 H) : ∀ (g : Nat) (t8 t9 t10 t31 t32 t33 t34 t35 t36 t37 t38 t39 t40 t41 t42 t43 t44 t45 t46 t47 t48 t49 t50 t51 t52 t53 t54 t55 t56 t57 t58 t59 t60 t61 : AV) (H : AH), kLoopN (codeA Tryz.prog lf 74 c27_bbbabklbakbabkl) g rec (env27 t0 t1 t2 t3 t4 t5 t6 t7 t8 t9 t10 t11 t12 t13 t14 t15 t16 t17 t18 t19 t20 t21 t22 t23 t24 t25 t26 t27 t28 t29 t30 t31 t32 t33 t34 t35 t36 t37 t38 t39 t40 t41 t42 t43 t44 t45 t46 t47 t48 t49 t50 t51 t52 t53 t54 t55 t56 t57 t58 t59 t60 t61 t62 t63 t64 t65 t66 t67 t68 t69 t70 t71 t72 t73) H k e R27 = L27_2 lf rec t0 t1 t6 t7 kx2 g t8 t9 H := by
  intro g
  induction g with
  | zero => intros; rfl
  | succ g hc =>
  intro t8 t9 t10 t31 t32 t33 t34 t35 t36 t37 t38 t39 t40 t41 t42 t43 t44 t45 t46 t47 t48 t49 t50 t51 t52 t53 t54 t55 t56 t57 t58 t59 t60 t61 H
  refine Eq.trans (b :=
    lenSA t1 fun v3 =>
    binI fLss t9 v3 fun v4 =>
    ifA v4 (
      callF rec 83 [t0, t7] H fun v7 H8 =>
      callF rec 83 [t1, t9] H8 fun v11 H12 =>
      binI fMul v7 v11 fun v13 =>
      binI fAdd t7 t9 fun v17 =>
      callF rec 83 [t6, v17] H12 fun v18 H19 =>
      binI fAdd v13 v18 fun v20 =>
      binI fAdd v20 t8 fun v22 =>
      binI fAdd t7 t9 fun v27 =>
      binI fRem v22 (.int .u64 (.ofNat 4294967296)) fun v29 =>
      cvA .u32 v29 fun v30 =>
      ixsA 1 t6 v27 fun v31 =>
      stA 1 H19 v31 (cellsOf v30) fun H33 =>
      binI fQuo v22 (.int .u64 (.ofNat 4294967296)) fun v35 =>
      binI fAdd t9 (.int .i64 (.ofNat 1)) fun v38 =>
      kLoopN (codeA Tryz.prog lf 74 c27_bbbabklbakbabkl) g rec (env27 t0 t1 t2 t3 t4 t5 t6 t7 v35 v38 v22 t11 t12 t13 t14 t15 t16 t17 t18 t19 t20 t21 t22 t23 t24 t25 t26 t27 t28 t29 t30 t9 t1 v3 v4 t9 v38 t0 t7 v7 t1 t9 v11 v13 t6 t7 t9 v17 v18 v20 t8 v22 t6 t7 t9 v27 v22 v29 v30 v31 v22 v35 t62 t63 t64 t65 t66 t67 t68 t69 t70 t71 t72 t73) H33 k e R27) (
      e 2 (env27 t0 t1 t2 t3 t4 t5 t6 t7 t8 t9 t10 t11 t12 t13 t14 t15 t16 t17 t18 t19 t20 t21 t22 t23 t24 t25 t26 t27 t28 t29 t30 t9 t1 v3 v4 t35 t36 t37 t38 t39 t40 t41 t42 t43 t44 t45 t46 t47 t48 t49 t50 t51 t52 t53 t54 t55 t56 t57 t58 t59 t60 t61 t62 t63 t64 t65 t66 t67 t68 t69 t70 t71 t72 t73) H)) (by kernel_rfl) ?_
  simp only [hc, hx2]
  rw [L27_2]
noncomputable def KC27_bbbabkl (lf : Nat) (rec : Rec) (g : Nat) (k : Env → AH → Ans) (e : Nat → Env → AH → Ans) : Env → AH → Ans := fun env H => kLoopN (codeA Tryz.prog lf 74 c27_bbbabkl) g rec env H k e R27
noncomputable def J27_bbbabklbakba (_lf : Nat) (_rec : Rec) (_t0 t1 t6 : AV) (c : AV → AH → Ans) (_kx0 : AH → Ans) (t7 t8 : AV) (H : AH) : Ans :=
  lenSA t1 fun v43 =>
  binI fAdd t7 v43 fun v44 =>
  cvA .u32 t8 fun v46 =>
  ixsA 1 t6 v44 fun v47 =>
  stA 1 H v47 (cellsOf v46) fun H49 =>
  binI fAdd t7 (.int .i64 (.ofNat 1)) fun v51 =>
  c v51 H49
noncomputable def c27_bbbabklbb : Code := Code.sb c27_bbbabklb
noncomputable def K27_bbbabklba (lf : Nat) (rec : Rec) (g : Nat) (k : Env → AH → Ans) (e : Nat → Env → AH → Ans) : Env → AH → Ans := fun env H => (codeA Tryz.prog lf 74 c27_bbbabklbb) rec env H (KC27_bbbabkl lf rec g k e) e R27
noncomputable def E27_bbbabklba (lf : Nat) (rec : Rec) (g : Nat) (k : Env → AH → Ans) (e : Nat → Env → AH → Ans) : Nat → Env → AH → Ans := fun j env H => bt (Nat.beq j 1) ((K27_bbbabklba lf rec g k e) env H) (e j env H)
noncomputable def c27_bbbabklbakbb : Code := Code.sb c27_bbbabklbakb
noncomputable def K27_bbbabklbakba (lf : Nat) (rec : Rec) (g : Nat) (k : Env → AH → Ans) (e : Nat → Env → AH → Ans) : Env → AH → Ans := fun env H => (codeA Tryz.prog lf 74 c27_bbbabklbakbb) rec env H (K27_bbbabklba lf rec g k e) (E27_bbbabklba lf rec g k e) R27
theorem J27_bbbabklbakba_eq (lf : Nat) (rec : Rec) (g : Nat) (k : Env → AH → Ans) (e : Nat → Env → AH → Ans) (t0 t1 t2 t3 t4 t5 t6 t11 t12 t13 t14 t15 t16 t17 t18 t19 t20 t21 t22 t23 t24 t70 t71 t72 t73 : AV) (c : AV → AH → Ans) (hc : ∀ (t7 t8 t9 t10 t25 t26 t27 t28 t29 t30 t31 t32 t33 t34 t35 t36 t37 t38 t39 t40 t41 t42 t43 t44 t45 t46 t47 t48 t49 t50 t51 t52 t53 t54 t55 t56 t57 t58 t59 t60 t61 t62 t63 t64 t65 t66 t67 t68 t69 : AV) (H : AH), kLoopN (codeA Tryz.prog lf 74 c27_bbbabkl) g rec (env27 t0 t1 t2 t3 t4 t5 t6 t7 t8 t9 t10 t11 t12 t13 t14 t15 t16 t17 t18 t19 t20 t21 t22 t23 t24 t25 t26 t27 t28 t29 t30 t31 t32 t33 t34 t35 t36 t37 t38 t39 t40 t41 t42 t43 t44 t45 t46 t47 t48 t49 t50 t51 t52 t53 t54 t55 t56 t57 t58 t59 t60 t61 t62 t63 t64 t65 t66 t67 t68 t69 t70 t71 t72 t73) H k e R27 = c t7 H) (kx0 : AH → Ans) (_hx0 : ∀ (t7 t8 t9 t10 t25 t26 t27 t28 t29 t30 t31 t32 t33 t34 t35 t36 t37 t38 t39 t40 t41 t42 t43 t44 t45 t46 t47 t48 t49 t50 t51 t52 t53 t54 t55 t56 t57 t58 t59 t60 t61 t62 t63 t64 t65 t66 t67 t68 t69 : AV) (H : AH), e 0 (env27 t0 t1 t2 t3 t4 t5 t6 t7 t8 t9 t10 t11 t12 t13 t14 t15 t16 t17 t18 t19 t20 t21 t22 t23 t24 t25 t26 t27 t28 t29 t30 t31 t32 t33 t34 t35 t36 t37 t38 t39 t40 t41 t42 t43 t44 t45 t46 t47 t48 t49 t50 t51 t52 t53 t54 t55 t56 t57 t58 t59 t60 t61 t62 t63 t64 t65 t66 t67 t68 t69 t70 t71 t72 t73) H = kx0  H) (t7 t8 t9 t10 t25 t26 t27 t28 t29 t30 t31 t32 t33 t34 t35 t36 t37 t38 t39 t40 t41 t42 t43 t44 t45 t46 t47 t48 t49 t50 t51 t52 t53 t54 t55 t56 t57 t58 t59 t60 t61 t62 t63 t64 t65 t66 t67 t68 t69 : AV) (H : AH) : (K27_bbbabklbakba lf rec g k e) (env27 t0 t1 t2 t3 t4 t5 t6 t7 t8 t9 t10 t11 t12 t13 t14 t15 t16 t17 t18 t19 t20 t21 t22 t23 t24 t25 t26 t27 t28 t29 t30 t31 t32 t33 t34 t35 t36 t37 t38 t39 t40 t41 t42 t43 t44 t45 t46 t47 t48 t49 t50 t51 t52 t53 t54 t55 t56 t57 t58 t59 t60 t61 t62 t63 t64 t65 t66 t67 t68 t69 t70 t71 t72 t73) H = J27_bbbabklbakba lf rec t0 t1 t6 c kx0 t7 t8 H := by
  refine Eq.trans (b :=
  lenSA t1 fun v43 =>
  binI fAdd t7 v43 fun v44 =>
  cvA .u32 t8 fun v46 =>
  ixsA 1 t6 v44 fun v47 =>
  stA 1 H v47 (cellsOf v46) fun H49 =>
  binI fAdd t7 (.int .i64 (.ofNat 1)) fun v51 =>
  kLoopN (codeA Tryz.prog lf 74 c27_bbbabkl) g rec (env27 t0 t1 t2 t3 t4 t5 t6 v51 t8 t9 t10 t11 t12 t13 t14 t15 t16 t17 t18 t19 t20 t21 t22 t23 t24 t25 t26 t27 t28 t7 v51 t31 t32 t33 t34 t35 t36 t37 t38 t39 t40 t41 t42 t43 t44 t45 t46 t47 t48 t49 t50 t51 t52 t53 t54 t55 t56 t57 t58 t59 t60 t61 t6 t7 t1 v43 v44 t8 v46 v47 t70 t71 t72 t73) H49 k e R27) (by kernel_rfl) ?_
  first | (simp only [hc]; done) | (simp only [hc]; with_reducible_and_instances rfl) | (simp only [hc]; kernel_rfl)
noncomputable def E27_bbbabklbakbab (lf : Nat) (rec : Rec) (g : Nat) (k : Env → AH → Ans) (e : Nat → Env → AH → Ans) : Nat → Env → AH → Ans := fun j env H => bt (Nat.beq j 2) ((K27_bbbabklbakba lf rec g k e) env H) ((E27_bbbabklba lf rec g k e) j env H)
noncomputable def L27_1 (lf : Nat) (rec : Rec) (t0 t1 t6 : AV) (kx0 : AH → Ans) : Nat → AV → AH → Ans
  | 0, _, _ => none
  | g + 1, t7, H =>
    lenSA t0 fun v55 =>
    binI fLss t7 v55 fun v56 =>
    ifA v56 (
      L27_2 lf rec t0 t1 t6 t7 (fun w8 H => J27_bbbabklbakba lf rec t0 t1 t6 (L27_1 lf rec t0 t1 t6 kx0 g) kx0 t7 w8 H) lf (.int .u64 (.ofNat 0)) (.int .i64 (.ofNat 0)) H) (
      kx0  H)
theorem L27_1_eq (lf : Nat) (rec : Rec) (k : Env → AH → Ans) (e : Nat → Env → AH → Ans) (t0 t1 t2 t3 t4 t5 t6 t11 t12 t13 t14 t15 t16 t17 t18 t19 t20 t21 t22 t23 t24 t70 t71 t72 t73 : AV) (kx0 : AH → Ans) (hx0 : ∀ (t7 t8 t9 t10 t25 t26 t27 t28 t29 t30 t31 t32 t33 t34 t35 t36 t37 t38 t39 t40 t41 t42 t43 t44 t45 t46 t47 t48 t49 t50 t51 t52 t53 t54 t55 t56 t57 t58 t59 t60 t61 t62 t63 t64 t65 t66 t67 t68 t69 : AV) (H : AH), e 0 (env27 t0 t1 t2 t3 t4 t5 t6 t7 t8 t9 t10 t11 t12 t13 t14 t15 t16 t17 t18 t19 t20 t21 t22 t23 t24 t25 t26 t27 t28 t29 t30 t31 t32 t33 t34 t35 t36 t37 t38 t39 t40 t41 t42 t43 t44 t45 t46 t47 t48 t49 t50 t51 t52 t53 t54 t55 t56 t57 t58 t59 t60 t61 t62 t63 t64 t65 t66 t67 t68 t69 t70 t71 t72 t73) H = kx0  H) : ∀ (g : Nat) (t7 t8 t9 t10 t25 t26 t27 t28 t29 t30 t31 t32 t33 t34 t35 t36 t37 t38 t39 t40 t41 t42 t43 t44 t45 t46 t47 t48 t49 t50 t51 t52 t53 t54 t55 t56 t57 t58 t59 t60 t61 t62 t63 t64 t65 t66 t67 t68 t69 : AV) (H : AH), kLoopN (codeA Tryz.prog lf 74 c27_bbbabkl) g rec (env27 t0 t1 t2 t3 t4 t5 t6 t7 t8 t9 t10 t11 t12 t13 t14 t15 t16 t17 t18 t19 t20 t21 t22 t23 t24 t25 t26 t27 t28 t29 t30 t31 t32 t33 t34 t35 t36 t37 t38 t39 t40 t41 t42 t43 t44 t45 t46 t47 t48 t49 t50 t51 t52 t53 t54 t55 t56 t57 t58 t59 t60 t61 t62 t63 t64 t65 t66 t67 t68 t69 t70 t71 t72 t73) H k e R27 = L27_1 lf rec t0 t1 t6 kx0 g t7 H := by
  intro g
  induction g with
  | zero => intros; rfl
  | succ g hc =>
  intro t7 t8 t9 t10 t25 t26 t27 t28 t29 t30 t31 t32 t33 t34 t35 t36 t37 t38 t39 t40 t41 t42 t43 t44 t45 t46 t47 t48 t49 t50 t51 t52 t53 t54 t55 t56 t57 t58 t59 t60 t61 t62 t63 t64 t65 t66 t67 t68 t69 H
  have hL27_2 : ∀ (t7 t8 t9 t10 t25 t26 t27 t28 t29 t30 t31 t32 t33 t34 t35 t36 t37 t38 t39 t40 t41 t42 t43 t44 t45 t46 t47 t48 t49 t50 t51 t52 t53 t54 t55 t56 t57 t58 t59 t60 t61 t62 t63 t64 t65 t66 t67 t68 t69 : AV) (H : AH), kLoop lf (codeA Tryz.prog lf 74 c27_bbbabklbakbabkl) rec (env27 t0 t1 t2 t3 t4 t5 t6 t7 t8 t9 t10 t11 t12 t13 t14 t15 t16 t17 t18 t19 t20 t21 t22 t23 t24 t25 t26 t27 t28 t29 t30 t31 t32 t33 t34 t35 t36 t37 t38 t39 t40 t41 t42 t43 t44 t45 t46 t47 t48 t49 t50 t51 t52 t53 t54 t55 t56 t57 t58 t59 t60 t61 t62 t63 t64 t65 t66 t67 t68 t69 t70 t71 t72 t73) H (K27_bbbabklbakba lf rec g k e) (E27_bbbabklbakbab lf rec g k e) R27 = L27_2 lf rec t0 t1 t6 t7 (fun w8 H => J27_bbbabklbakba lf rec t0 t1 t6 (L27_1 lf rec t0 t1 t6 kx0 g) kx0 t7 w8 H) lf t8 t9 H := fun t7 t8 t9 t10 t25 t26 t27 t28 t29 t30 t31 t32 t33 t34 t35 t36 t37 t38 t39 t40 t41 t42 t43 t44 t45 t46 t47 t48 t49 t50 t51 t52 t53 t54 t55 t56 t57 t58 t59 t60 t61 t62 t63 t64 t65 t66 t67 t68 t69 H => L27_2_eq lf rec (K27_bbbabklbakba lf rec g k e) (E27_bbbabklbakbab lf rec g k e) t0 t1 t2 t3 t4 t5 t6 t7 t11 t12 t13 t14 t15 t16 t17 t18 t19 t20 t21 t22 t23 t24 t25 t26 t27 t28 t29 t30 t62 t63 t64 t65 t66 t67 t68 t69 t70 t71 t72 t73 (fun w8 H => J27_bbbabklbakba lf rec t0 t1 t6 (L27_1 lf rec t0 t1 t6 kx0 g) kx0 t7 w8 H) (fun t8 t9 t10 t31 t32 t33 t34 t35 t36 t37 t38 t39 t40 t41 t42 t43 t44 t45 t46 t47 t48 t49 t50 t51 t52 t53 t54 t55 t56 t57 t58 t59 t60 t61 H => J27_bbbabklbakba_eq lf rec g k e t0 t1 t2 t3 t4 t5 t6 t11 t12 t13 t14 t15 t16 t17 t18 t19 t20 t21 t22 t23 t24 t70 t71 t72 t73 (L27_1 lf rec t0 t1 t6 kx0 g) hc kx0 hx0 t7 t8 t9 t10 t25 t26 t27 t28 t29 t30 t31 t32 t33 t34 t35 t36 t37 t38 t39 t40 t41 t42 t43 t44 t45 t46 t47 t48 t49 t50 t51 t52 t53 t54 t55 t56 t57 t58 t59 t60 t61 t62 t63 t64 t65 t66 t67 t68 t69 H) lf t8 t9 t10 t31 t32 t33 t34 t35 t36 t37 t38 t39 t40 t41 t42 t43 t44 t45 t46 t47 t48 t49 t50 t51 t52 t53 t54 t55 t56 t57 t58 t59 t60 t61 H
  refine Eq.trans (b :=
    lenSA t0 fun v55 =>
    binI fLss t7 v55 fun v56 =>
    ifA v56 (
      kLoop lf (codeA Tryz.prog lf 74 c27_bbbabklbakbabkl) rec (env27 t0 t1 t2 t3 t4 t5 t6 t7 (.int .u64 (.ofNat 0)) (.int .i64 (.ofNat 0)) t10 t11 t12 t13 t14 t15 t16 t17 t18 t19 t20 t21 t22 t23 t24 t7 t0 v55 v56 t29 t30 t31 t32 t33 t34 t35 t36 t37 t38 t39 t40 t41 t42 t43 t44 t45 t46 t47 t48 t49 t50 t51 t52 t53 t54 t55 t56 t57 t58 t59 t60 t61 t62 t63 t64 t65 t66 t67 t68 t69 t70 t71 t72 t73) H (K27_bbbabklbakba lf rec g k e) (E27_bbbabklbakbab lf rec g k e) R27) (
      e 0 (env27 t0 t1 t2 t3 t4 t5 t6 t7 t8 t9 t10 t11 t12 t13 t14 t15 t16 t17 t18 t19 t20 t21 t22 t23 t24 t7 t0 v55 v56 t29 t30 t31 t32 t33 t34 t35 t36 t37 t38 t39 t40 t41 t42 t43 t44 t45 t46 t47 t48 t49 t50 t51 t52 t53 t54 t55 t56 t57 t58 t59 t60 t61 t62 t63 t64 t65 t66 t67 t68 t69 t70 t71 t72 t73) H)) (by kernel_rfl) ?_
  simp only [hx0, hL27_2]
  rw [L27_1]
noncomputable def J27_bbba (_lf : Nat) (rec : Rec) (t6 : AV) (H : AH) : Ans :=
  callF rec 84 [t6] H fun v60 H61 =>
  extA 0 v60 fun v62 =>
  extA 1 v60 fun v63 =>
  some (.tup [v62, v63], H61)
noncomputable def c27_bbbb : Code := Code.sb c27_bbb
noncomputable def K27_bbba (lf : Nat) (rec : Rec) : Env → AH → Ans := fun env H => (codeA Tryz.prog lf 74 c27_bbbb) rec env H R27 E0 R27
theorem J27_bbba_eq (lf : Nat) (rec : Rec) (t0 t1 t2 t3 t4 t5 t6 t7 t8 t9 t10 t11 t12 t13 t14 t15 t16 t17 t18 t19 t20 t21 t22 t23 t24 t25 t26 t27 t28 t29 t30 t31 t32 t33 t34 t35 t36 t37 t38 t39 t40 t41 t42 t43 t44 t45 t46 t47 t48 t49 t50 t51 t52 t53 t54 t55 t56 t57 t58 t59 t60 t61 t62 t63 t64 t65 t66 t67 t68 t69 t70 t71 t72 t73 : AV) (H : AH) : (K27_bbba lf rec) (env27 t0 t1 t2 t3 t4 t5 t6 t7 t8 t9 t10 t11 t12 t13 t14 t15 t16 t17 t18 t19 t20 t21 t22 t23 t24 t25 t26 t27 t28 t29 t30 t31 t32 t33 t34 t35 t36 t37 t38 t39 t40 t41 t42 t43 t44 t45 t46 t47 t48 t49 t50 t51 t52 t53 t54 t55 t56 t57 t58 t59 t60 t61 t62 t63 t64 t65 t66 t67 t68 t69 t70 t71 t72 t73) H = J27_bbba lf rec t6 H := by
  refine Eq.trans (b :=
  callF rec 84 [t6] H fun v60 H61 =>
  extA 0 v60 fun v62 =>
  extA 1 v60 fun v63 =>
  some (.tup [v62, v63], H61)) (by kernel_rfl) ?_
  kernel_rfl
noncomputable def E27_bbbab (lf : Nat) (rec : Rec) : Nat → Env → AH → Ans := fun j env H => bt (Nat.beq j 0) ((K27_bbba lf rec) env H) (E0 j env H)
noncomputable def F27 (lf : Nat) (rec : Rec) (t0 t1 : AV) (H : AH) : Ans :=
  callF rec 56 [t0] H fun v69 H70 =>
  notA v69 fun v71 =>
  gd false v71 H70 (fun k => k t1 H70) fun v74 H75 =>
  gd false v71 H75 (fun k => callF rec 56 [v74] H75 fun v76 H77 => k v76 H77) fun v78 H79 =>
  gd false v71 H79 (fun k => notA v78 fun v80 => k v80 H79) fun v81 H82 =>
  pickA v71 (.bool true) v81 fun v83 =>
  ifA v83 (
    some (.tup [(.nils : AV), (.int .i64 (.ofNat 1))], H82)) (
    lenSA t0 fun v87 =>
    lenSA t1 fun v89 =>
    binI fAdd v87 v89 fun v90 =>
    mksA [(.int .u32 (.ofNat 0))] H82 v90 v90 fun v91 H92 =>
    L27_1 lf rec t0 t1 v91 (fun H => J27_bbba lf rec v91 H) lf (.int .i64 (.ofNat 0)) H92)
theorem F27_eq (lf fuel : Nat) (t0 t1 : AV) (H : AH) : ev Tryz.prog lf noRec (fuel + 1) 27 [t0, t1] H = F27 lf (ev Tryz.prog lf noRec fuel) t0 t1 H := by
  generalize hrec : ev Tryz.prog lf noRec fuel = rec
  refine Eq.trans (b := codeA Tryz.prog lf 74 c27 rec (env27 t0 t1 undef undef undef undef undef undef undef undef undef undef undef undef undef undef undef undef undef undef undef undef undef undef undef undef undef undef undef undef undef undef undef undef undef undef undef undef undef undef undef undef undef undef undef undef undef undef undef undef undef undef undef undef undef undef undef undef undef undef undef undef undef undef undef undef undef undef undef undef undef undef undef undef) H R27 E0 R27) (by subst hrec; kernel_rfl) ?_
  have hL27_1 : ∀ (t0 t1 t2 t3 t4 t5 t6 t7 t8 t9 t10 t11 t12 t13 t14 t15 t16 t17 t18 t19 t20 t21 t22 t23 t24 t25 t26 t27 t28 t29 t30 t31 t32 t33 t34 t35 t36 t37 t38 t39 t40 t41 t42 t43 t44 t45 t46 t47 t48 t49 t50 t51 t52 t53 t54 t55 t56 t57 t58 t59 t60 t61 t62 t63 t64 t65 t66 t67 t68 t69 t70 t71 t72 t73 : AV) (H : AH), kLoop lf (codeA Tryz.prog lf 74 c27_bbbabkl) rec (env27 t0 t1 t2 t3 t4 t5 t6 t7 t8 t9 t10 t11 t12 t13 t14 t15 t16 t17 t18 t19 t20 t21 t22 t23 t24 t25 t26 t27 t28 t29 t30 t31 t32 t33 t34 t35 t36 t37 t38 t39 t40 t41 t42 t43 t44 t45 t46 t47 t48 t49 t50 t51 t52 t53 t54 t55 t56 t57 t58 t59 t60 t61 t62 t63 t64 t65 t66 t67 t68 t69 t70 t71 t72 t73) H (K27_bbba lf rec) (E27_bbbab lf rec) R27 = L27_1 lf rec t0 t1 t6 (fun H => J27_bbba lf rec t6 H) lf t7 H := fun t0 t1 t2 t3 t4 t5 t6 t7 t8 t9 t10 t11 t12 t13 t14 t15 t16 t17 t18 t19 t20 t21 t22 t23 t24 t25 t26 t27 t28 t29 t30 t31 t32 t33 t34 t35 t36 t37 t38 t39 t40 t41 t42 t43 t44 t45 t46 t47 t48 t49 t50 t51 t52 t53 t54 t55 t56 t57 t58 t59 t60 t61 t62 t63 t64 t65 t66 t67 t68 t69 t70 t71 t72 t73 H => L27_1_eq lf rec (K27_bbba lf rec) (E27_bbbab lf rec) t0 t1 t2 t3 t4 t5 t6 t11 t12 t13 t14 t15 t16 t17 t18 t19 t20 t21 t22 t23 t24 t70 t71 t72 t73 (fun H => J27_bbba lf rec t6 H) (fun t7 t8 t9 t10 t25 t26 t27 t28 t29 t30 t31 t32 t33 t34 t35 t36 t37 t38 t39 t40 t41 t42 t43 t44 t45 t46 t47 t48 t49 t50 t51 t52 t53 t54 t55 t56 t57 t58 t59 t60 t61 t62 t63 t64 t65 t66 t67 t68 t69 H => J27_bbba_eq lf rec t0 t1 t2 t3 t4 t5 t6 t7 t8 t9 t10 t11 t12 t13 t14 t15 t16 t17 t18 t19 t20 t21 t22 t23 t24 t25 t26 t27 t28 t29 t30 t31 t32 t33 t34 t35 t36 t37 t38 t39 t40 t41 t42 t43 t44 t45 t46 t47 t48 t49 t50 t51 t52 t53 t54 t55 t56 t57 t58 t59 t60 t61 t62 t63 t64 t65 t66 t67 t68 t69 t70 t71 t72 t73 H) lf t7 t8 t9 t10 t25 t26 t27 t28 t29 t30 t31 t32 t33 t34 t35 t36 t37 t38 t39 t40 t41 t42 t43 t44 t45 t46 t47 t48 t49 t50 t51 t52 t53 t54 t55 t56 t57 t58 t59 t60 t61 t62 t63 t64 t65 t66 t67 t68 t69 H
  refine Eq.trans (b :=
  callF rec 56 [t0] H fun v69 H70 =>
  notA v69 fun v71 =>
  gd false v71 H70 (fun k => k t1 H70) fun v74 H75 =>
  gd false v71 H75 (fun k => callF rec 56 [v74] H75 fun v76 H77 => k v76 H77) fun v78 H79 =>
  gd false v71 H79 (fun k => notA v78 fun v80 => k v80 H79) fun v81 H82 =>
  pickA v71 (.bool true) v81 fun v83 =>
  ifA v83 (
    some (.tup [(.nils : AV), (.int .i64 (.ofNat 1))], H82)) (
    lenSA t0 fun v87 =>
    lenSA t1 fun v89 =>
    binI fAdd v87 v89 fun v90 =>
    mksA [(.int .u32 (.ofNat 0))] H82 v90 v90 fun v91 H92 =>
    kLoop lf (codeA Tryz.prog lf 74 c27_bbbabkl) rec (env27 t0 t1 undef undef (.nils : AV) (.int .i64 (.ofNat 0)) v91 (.int .i64 (.ofNat 0)) undef undef undef t0 v69 v71 v71 v74 v78 v81 v83 t0 v87 t1 v89 v90 v91 undef undef undef undef undef undef undef undef undef undef undef undef undef undef undef undef undef undef undef undef undef undef undef undef undef undef undef undef undef undef undef undef undef undef undef undef undef undef undef undef undef undef undef undef undef undef undef undef undef) H92 (K27_bbba lf rec) (E27_bbbab lf rec) R27)) (by kernel_rfl) ?_
  first | (simp only [hL27_1]; done) | (simp only [hL27_1]; with_reducible_and_instances rfl) | (simp only [hL27_1]; kernel_rfl)

end
end Go.Ev.Tw

