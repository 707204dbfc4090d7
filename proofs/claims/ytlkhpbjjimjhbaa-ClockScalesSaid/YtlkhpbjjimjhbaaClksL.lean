/-
  Each function keeps its contract.
-/
import Derived.Test.YtlkhpbjjimjhbaaClksP
namespace Go.Proofs.Ytlkhpbjjimjhbaa.Clks
open Go.Sx
set_option maxRecDepth 100000
attribute [local irreducible] vc vcF

theorem kf0_ok : CtrsOkF Try.prog kf0 := trivial
theorem ks0_ok : CtrsOk Try.prog ks0 := trivial
theorem names_ok : namesOk Try.prog = true := by kernel_rfl
theorem mixed_ok : Try.prog.follows .mixedOrders = true := by kernel_rfl
theorem v_equal (x : HL (cEqual : Ctr).as) (hp : (cEqual : Ctr).pre x) (hl : LensL (cEqual : Ctr).as x) : vc (fx_equal x) 1 18 Try.f18 (cEqual) x := by
  rw [E_equal_eq]
  exact e_equal x hp hl
theorem kf1_ok : CtrsOkF Try.prog kf1 := kf0_ok
theorem c_equal : CtrOk Try.prog 18 (cEqual) :=
  ctr_of_vc (c := cEqual) (fn := Try.f18) (X := fx_equal) (n := 1) (fun _ => mkFxF_all env_ok mixed_ok names_ok ks0_ok kf0_ok) Try.func18 (by kernel_rfl) (by kernel_rfl) (of_decide_eq_true (by kernel_rfl)) v_equal
theorem ks1_ok : CtrsOk Try.prog ks1 := ⟨c_equal, ks0_ok⟩
theorem v_wrong (x : HL (cWrong : Ctr).as) (hp : (cWrong : Ctr).pre x) (hl : LensL (cWrong : Ctr).as x) : vc (fx_wrong x) 1 69 Try.f69 (cWrong) x := by
  rw [E_wrong_eq]
  exact e_wrong x hp hl
theorem kf2_ok : CtrsOkF Try.prog kf2 := kf1_ok
theorem c_wrong : CtrOk Try.prog 69 (cWrong) :=
  ctr_of_vc (c := cWrong) (fn := Try.f69) (X := fx_wrong) (n := 1) (fun _ => mkFxF_all env_ok mixed_ok names_ok ks1_ok kf1_ok) Try.func69 (by kernel_rfl) (by kernel_rfl) (of_decide_eq_true (by kernel_rfl)) v_wrong
theorem ks2_ok : CtrsOk Try.prog ks2 := ⟨c_wrong, ks1_ok⟩
theorem v_wwrong (x : HL (cWrong : Ctr).as) (hp : (cWrong : Ctr).pre x) (hl : LensL (cWrong : Ctr).as x) : vc (fx_wwrong x) 1 37 Try.f37 (cWrong) x := by
  rw [E_wwrong_eq]
  exact e_wwrong x hp hl
theorem kf3_ok : CtrsOkF Try.prog kf3 := kf2_ok
theorem c_wwrong : CtrOk Try.prog 37 (cWrong) :=
  ctr_of_vc (c := cWrong) (fn := Try.f37) (X := fx_wwrong) (n := 1) (fun _ => mkFxF_all env_ok mixed_ok names_ok ks2_ok kf2_ok) Try.func37 (by kernel_rfl) (by kernel_rfl) (of_decide_eq_true (by kernel_rfl)) v_wwrong
theorem ks3_ok : CtrsOk Try.prog ks3 := ⟨c_wwrong, ks2_ok⟩
theorem v_mul (x : HL (cMul : Ctr).as) (hp : (cMul : Ctr).pre x) (hl : LensL (cMul : Ctr).as x) : vc (fx_mul x) 1 72 Try.f72 (cMul) x := by
  rw [E_mul_eq]
  exact e_mul x hp hl
theorem kf4_ok : CtrsOkF Try.prog kf4 := kf3_ok
theorem c_mul : CtrOk Try.prog 72 (cMul) :=
  ctr_of_vc (c := cMul) (fn := Try.f72) (X := fx_mul) (n := 1) (fun _ => mkFxF_all env_ok mixed_ok names_ok ks3_ok kf3_ok) Try.func72 (by kernel_rfl) (by kernel_rfl) (of_decide_eq_true (by kernel_rfl)) v_mul
theorem ks4_ok : CtrsOk Try.prog ks4 := ⟨c_mul, ks3_ok⟩
theorem v_div (x : HL (cDiv : Ctr).as) (hp : (cDiv : Ctr).pre x) (hl : LensL (cDiv : Ctr).as x) : vc (fx_div x) 1 73 Try.f73 (cDiv) x := by
  rw [E_div_eq]
  exact e_div x hp hl
theorem kf5_ok : CtrsOkF Try.prog kf5 := kf4_ok
theorem c_div : CtrOk Try.prog 73 (cDiv) :=
  ctr_of_vc (c := cDiv) (fn := Try.f73) (X := fx_div) (n := 1) (fun _ => mkFxF_all env_ok mixed_ok names_ok ks4_ok kf4_ok) Try.func73 (by kernel_rfl) (by kernel_rfl) (of_decide_eq_true (by kernel_rfl)) v_div
theorem ks5_ok : CtrsOk Try.prog ks5 := ⟨c_div, ks4_ok⟩
theorem v_thr (x : HL (cThr : Ctr).as) (hp : (cThr : Ctr).pre x) (hl : LensL (cThr : Ctr).as x) : vc (fx_thr x) 1 38 Try.f38 (cThr) x := by
  rw [E_thr_eq]
  exact e_thr x hp hl
theorem kf6_ok : CtrsOkF Try.prog kf6 := kf5_ok
theorem c_thr : CtrOk Try.prog 38 (cThr) :=
  ctr_of_vc (c := cThr) (fn := Try.f38) (X := fx_thr) (n := 1) (fun _ => mkFxF_all env_ok mixed_ok names_ok ks5_ok kf5_ok) Try.func38 (by kernel_rfl) (by kernel_rfl) (of_decide_eq_true (by kernel_rfl)) v_thr
theorem ks6_ok : CtrsOk Try.prog ks6 := ⟨c_thr, ks5_ok⟩
theorem v_scale (x : HL (cScale : Ctr).as) (hp : (cScale : Ctr).pre x) (hl : LensL (cScale : Ctr).as x) : vc (fx_scale x) 1 32 Try.f32 (cScale) x := by
  rw [E_scale_eq]
  exact e_scale x hp hl
theorem kf7_ok : CtrsOkF Try.prog kf7 := kf6_ok
theorem c_scale : CtrOk Try.prog 32 (cScale) :=
  ctr_of_vc (c := cScale) (fn := Try.f32) (X := fx_scale) (n := 1) (fun _ => mkFxF_all env_ok mixed_ok names_ok ks6_ok kf6_ok) Try.func32 (by kernel_rfl) (by kernel_rfl) (of_decide_eq_true (by kernel_rfl)) v_scale
theorem ks7_ok : CtrsOk Try.prog ks7 := ⟨c_scale, ks6_ok⟩
theorem v_wscale (x : HL (cScale : Ctr).as) (hp : (cScale : Ctr).pre x) (hl : LensL (cScale : Ctr).as x) : vc (fx_wscale x) 1 33 Try.f33 (cScale) x := by
  rw [E_wscale_eq]
  exact e_wscale x hp hl
theorem kf8_ok : CtrsOkF Try.prog kf8 := kf7_ok
theorem c_wscale : CtrOk Try.prog 33 (cScale) :=
  ctr_of_vc (c := cScale) (fn := Try.f33) (X := fx_wscale) (n := 1) (fun _ => mkFxF_all env_ok mixed_ok names_ok ks7_ok kf7_ok) Try.func33 (by kernel_rfl) (by kernel_rfl) (of_decide_eq_true (by kernel_rfl)) v_wscale
theorem ks8_ok : CtrsOk Try.prog ks8 := ⟨c_wscale, ks7_ok⟩
theorem v_any (x : HL (cAny : Ctr).as) (hp : (cAny : Ctr).pre x) (hl : LensL (cAny : Ctr).as x) : vcF (fx_any x) 3 70 71 Try.f70 (cAny) x := by
  rw [E_any_eq]
  exact e_any x hp hl
theorem c_any : CtrOkF Try.prog 70 71 (cAny) :=
  ctrF_of_vc (c := cAny) (fn := Try.f70) (X := fx_any) (n := 3) (fun _ => mkFxF_all env_ok mixed_ok names_ok ks8_ok kf8_ok) Try.func70 (by kernel_rfl) (by kernel_rfl) (of_decide_eq_true (by kernel_rfl)) v_any
theorem ks9_ok : CtrsOk Try.prog ks9 := ks8_ok
theorem kf9_ok : CtrsOkF Try.prog kf9 := ⟨c_any, kf8_ok⟩
theorem v_steps (x : HL (cSteps : Ctr).as) (hp : (cSteps : Ctr).pre x) (hl : LensL (cSteps : Ctr).as x) : vc (fx_steps x) 1 34 Try.f34 (cSteps) x := by
  rw [E_steps_eq]
  exact e_steps x hp hl
theorem kf10_ok : CtrsOkF Try.prog kf10 := kf9_ok
theorem c_steps : CtrOk Try.prog 34 (cSteps) :=
  ctr_of_vc (c := cSteps) (fn := Try.f34) (X := fx_steps) (n := 1) (fun _ => mkFxF_all env_ok mixed_ok names_ok ks9_ok kf9_ok) Try.func34 (by kernel_rfl) (by kernel_rfl) (of_decide_eq_true (by kernel_rfl)) v_steps
theorem ks10_ok : CtrsOk Try.prog ks10 := ⟨c_steps, ks9_ok⟩
theorem v_wsteps (x : HL (cSteps : Ctr).as) (hp : (cSteps : Ctr).pre x) (hl : LensL (cSteps : Ctr).as x) : vc (fx_wsteps x) 1 35 Try.f35 (cSteps) x := by
  rw [E_wsteps_eq]
  exact e_wsteps x hp hl
theorem kf11_ok : CtrsOkF Try.prog kf11 := kf10_ok
theorem c_wsteps : CtrOk Try.prog 35 (cSteps) :=
  ctr_of_vc (c := cSteps) (fn := Try.f35) (X := fx_wsteps) (n := 1) (fun _ => mkFxF_all env_ok mixed_ok names_ok ks10_ok kf10_ok) Try.func35 (by kernel_rfl) (by kernel_rfl) (of_decide_eq_true (by kernel_rfl)) v_wsteps
theorem ks11_ok : CtrsOk Try.prog ks11 := ⟨c_wsteps, ks10_ok⟩
theorem v_ticks (x : HL (cTicks : Ctr).as) (hp : (cTicks : Ctr).pre x) (hl : LensL (cTicks : Ctr).as x) : vc (fx_ticks x) 1 36 Try.f36 (cTicks) x := by
  rw [E_ticks_eq]
  exact e_ticks x hp hl
theorem kf12_ok : CtrsOkF Try.prog kf12 := kf11_ok
theorem c_ticks : CtrOk Try.prog 36 (cTicks) :=
  ctr_of_vc (c := cTicks) (fn := Try.f36) (X := fx_ticks) (n := 1) (fun _ => mkFxF_all env_ok mixed_ok names_ok ks11_ok kf11_ok) Try.func36 (by kernel_rfl) (by kernel_rfl) (of_decide_eq_true (by kernel_rfl)) v_ticks
theorem ks12_ok : CtrsOk Try.prog ks12 := ⟨c_ticks, ks11_ok⟩
theorem v_scales (x : HL (cLaw : Ctr).as) (hp : (cLaw : Ctr).pre x) (hl : LensL (cLaw : Ctr).as x) : vc (fx_scales x) 1 9 Try.f9 (cLaw) x := by
  rw [E_scales_eq]
  exact e_scales x hp hl
theorem kf13_ok : CtrsOkF Try.prog kf13 := kf12_ok
theorem c_scales : CtrOk Try.prog 9 (cLaw) :=
  ctr_of_vc (c := cLaw) (fn := Try.f9) (X := fx_scales) (n := 1) (fun _ => mkFxF_all env_ok mixed_ok names_ok ks12_ok kf12_ok) Try.func9 (by kernel_rfl) (by kernel_rfl) (of_decide_eq_true (by kernel_rfl)) v_scales
theorem ks13_ok : CtrsOk Try.prog ks13 := ⟨c_scales, ks12_ok⟩
theorem ksAll_ok : CtrsOk Try.prog ksAll := ks13_ok
end Go.Proofs.Ytlkhpbjjimjhbaa.Clks
