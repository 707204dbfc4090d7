/-
  Each function keeps its contract.
-/
import Derived.Test.YtollphjlheabdaaPipeP
namespace Go.Proofs.Ytollphjlheabdaa.Pipe
open Go.Sx
set_option maxRecDepth 100000
attribute [local irreducible] vc

theorem ks0_ok : CtrsOk Try.prog ks0 := trivial
theorem names_ok : namesOk Try.prog = true := by kernel_rfl
theorem mixed_ok : Try.prog.follows .mixedOrders = true := by kernel_rfl
theorem v_clone (x : HL (cClone : Ctr).as) (hp : (cClone : Ctr).pre x) (hl : LensL (cClone : Ctr).as x) : vc (fx_clone x) 1 70 Try.f70 (cClone) x := by
  rw [E_clone_eq]
  exact e_clone x hp hl
theorem c_clone : CtrOk Try.prog 70 (cClone) :=
  ctr_of_vc (c := cClone) (fn := Try.f70) (X := fx_clone) (n := 1) (fun _ => mkFx_all env_ok mixed_ok names_ok ks0_ok) Try.func70 (by kernel_rfl) (by kernel_rfl) (of_decide_eq_true (by kernel_rfl)) v_clone
theorem ks1_ok : CtrsOk Try.prog ks1 := ⟨c_clone, ks0_ok⟩
theorem v_equal (x : HL (cEqual : Ctr).as) (hp : (cEqual : Ctr).pre x) (hl : LensL (cEqual : Ctr).as x) : vc (fx_equal x) 1 63 Try.f63 (cEqual) x := by
  rw [E_equal_eq]
  exact e_equal x hp hl
theorem c_equal : CtrOk Try.prog 63 (cEqual) :=
  ctr_of_vc (c := cEqual) (fn := Try.f63) (X := fx_equal) (n := 1) (fun _ => mkFx_all env_ok mixed_ok names_ok ks1_ok) Try.func63 (by kernel_rfl) (by kernel_rfl) (of_decide_eq_true (by kernel_rfl)) v_equal
theorem ks2_ok : CtrsOk Try.prog ks2 := ⟨c_equal, ks1_ok⟩
theorem v_right (x : HL (cRight : Ctr).as) (hp : (cRight : Ctr).pre x) (hl : LensL (cRight : Ctr).as x) : vc (fx_right x) 1 46 Try.f46 (cRight) x := by
  rw [E_right_eq]
  exact e_right x hp hl
theorem c_right : CtrOk Try.prog 46 (cRight) :=
  ctr_of_vc (c := cRight) (fn := Try.f46) (X := fx_right) (n := 1) (fun _ => mkFx_all env_ok mixed_ok names_ok ks2_ok) Try.func46 (by kernel_rfl) (by kernel_rfl) (of_decide_eq_true (by kernel_rfl)) v_right
theorem ks3_ok : CtrsOk Try.prog ks3 := ⟨c_right, ks2_ok⟩
theorem v_uright (x : HL (cRight : Ctr).as) (hp : (cRight : Ctr).pre x) (hl : LensL (cRight : Ctr).as x) : vc (fx_uright x) 1 47 Try.f47 (cRight) x := by
  rw [E_uright_eq]
  exact e_uright x hp hl
theorem c_uright : CtrOk Try.prog 47 (cRight) :=
  ctr_of_vc (c := cRight) (fn := Try.f47) (X := fx_uright) (n := 1) (fun _ => mkFx_all env_ok mixed_ok names_ok ks3_ok) Try.func47 (by kernel_rfl) (by kernel_rfl) (of_decide_eq_true (by kernel_rfl)) v_uright
theorem ks4_ok : CtrsOk Try.prog ks4 := ⟨c_uright, ks3_ok⟩
theorem v_step (x : HL (cStep : Ctr).as) (hp : (cStep : Ctr).pre x) (hl : LensL (cStep : Ctr).as x) : vc (fx_step x) 2 44 Try.f44 (cStep) x := by
  rw [E_step_eq]
  exact e_step x hp hl
theorem c_step : CtrOk Try.prog 44 (cStep) :=
  ctr_of_vc (c := cStep) (fn := Try.f44) (X := fx_step) (n := 2) (fun _ => mkFx_all env_ok mixed_ok names_ok ks4_ok) Try.func44 (by kernel_rfl) (by kernel_rfl) (of_decide_eq_true (by kernel_rfl)) v_step
theorem ks5_ok : CtrsOk Try.prog ks5 := ⟨c_step, ks4_ok⟩
theorem v_ustep (x : HL (cStep : Ctr).as) (hp : (cStep : Ctr).pre x) (hl : LensL (cStep : Ctr).as x) : vc (fx_ustep x) 1 45 Try.f45 (cStep) x := by
  rw [E_ustep_eq]
  exact e_ustep x hp hl
theorem c_ustep : CtrOk Try.prog 45 (cStep) :=
  ctr_of_vc (c := cStep) (fn := Try.f45) (X := fx_ustep) (n := 1) (fun _ => mkFx_all env_ok mixed_ok names_ok ks5_ok) Try.func45 (by kernel_rfl) (by kernel_rfl) (of_decide_eq_true (by kernel_rfl)) v_ustep
theorem ks6_ok : CtrsOk Try.prog ks6 := ⟨c_ustep, ks5_ok⟩
theorem v_same (x : HL (cSame : Ctr).as) (hp : (cSame : Ctr).pre x) (hl : LensL (cSame : Ctr).as x) : vc (fx_same x) 1 48 Try.f48 (cSame) x := by
  rw [E_same_eq]
  exact e_same x hp hl
theorem c_same : CtrOk Try.prog 48 (cSame) :=
  ctr_of_vc (c := cSame) (fn := Try.f48) (X := fx_same) (n := 1) (fun _ => mkFx_all env_ok mixed_ok names_ok ks6_ok) Try.func48 (by kernel_rfl) (by kernel_rfl) (of_decide_eq_true (by kernel_rfl)) v_same
theorem ks7_ok : CtrsOk Try.prog ks7 := ⟨c_same, ks6_ok⟩
theorem v_steps (x : HL (cLaw : Ctr).as) (hp : (cLaw : Ctr).pre x) (hl : LensL (cLaw : Ctr).as x) : vc (fx_steps x) 1 10 Try.f10 (cLaw) x := by
  rw [E_steps_eq]
  exact e_steps x hp hl
theorem c_steps : CtrOk Try.prog 10 (cLaw) :=
  ctr_of_vc (c := cLaw) (fn := Try.f10) (X := fx_steps) (n := 1) (fun _ => mkFx_all env_ok mixed_ok names_ok ks7_ok) Try.func10 (by kernel_rfl) (by kernel_rfl) (of_decide_eq_true (by kernel_rfl)) v_steps
theorem ks8_ok : CtrsOk Try.prog ks8 := ⟨c_steps, ks7_ok⟩
theorem ksAll_ok : CtrsOk Try.prog ksAll := ks8_ok
end Go.Proofs.Ytollphjlheabdaa.Pipe
