/-
  Each function keeps its contract.
-/
import Derived.Test.YtollphjlheabdaaNicP
namespace Go.Proofs.Ytollphjlheabdaa.Nic
open Go.Sx
set_option maxRecDepth 100000
attribute [local irreducible] vc

theorem ks0_ok : CtrsOk Try.prog ks0 := trivial
theorem names_ok : namesOk Try.prog = true := by kernel_rfl
theorem mixed_ok : Try.prog.follows .mixedOrders = true := by kernel_rfl
theorem v_equal (x : HL (cEqual : Ctr).as) (hp : (cEqual : Ctr).pre x) (hl : LensL (cEqual : Ctr).as x) : vc (fx_equal x) 1 20 Try.f20 (cEqual) x := by
  rw [E_equal_eq]
  exact e_equal x hp hl
theorem c_equal : CtrOk Try.prog 20 (cEqual) :=
  ctr_of_vc (c := cEqual) (fn := Try.f20) (X := fx_equal) (n := 1) (fun _ => mkFx_all env_ok mixed_ok names_ok ks0_ok) Try.func20 (by kernel_rfl) (by kernel_rfl) (of_decide_eq_true (by kernel_rfl)) v_equal
theorem ks1_ok : CtrsOk Try.prog ks1 := ⟨c_equal, ks0_ok⟩
theorem v_clone (x : HL (cClone : Ctr).as) (hp : (cClone : Ctr).pre x) (hl : LensL (cClone : Ctr).as x) : vc (fx_clone x) 1 76 Try.f76 (cClone) x := by
  rw [E_clone_eq]
  exact e_clone x hp hl
theorem c_clone : CtrOk Try.prog 76 (cClone) :=
  ctr_of_vc (c := cClone) (fn := Try.f76) (X := fx_clone) (n := 1) (fun _ => mkFx_all env_ok mixed_ok names_ok ks1_ok) Try.func76 (by kernel_rfl) (by kernel_rfl) (of_decide_eq_true (by kernel_rfl)) v_clone
theorem ks2_ok : CtrsOk Try.prog ks2 := ⟨c_clone, ks1_ok⟩
theorem v_right (x : HL (cRight : Ctr).as) (hp : (cRight : Ctr).pre x) (hl : LensL (cRight : Ctr).as x) : vc (fx_right x) 1 41 Try.f41 (cRight) x := by
  rw [E_right_eq]
  exact e_right x hp hl
theorem c_right : CtrOk Try.prog 41 (cRight) :=
  ctr_of_vc (c := cRight) (fn := Try.f41) (X := fx_right) (n := 1) (fun _ => mkFx_all env_ok mixed_ok names_ok ks2_ok) Try.func41 (by kernel_rfl) (by kernel_rfl) (of_decide_eq_true (by kernel_rfl)) v_right
theorem ks3_ok : CtrsOk Try.prog ks3 := ⟨c_right, ks2_ok⟩
theorem v_tright (x : HL (cRight : Ctr).as) (hp : (cRight : Ctr).pre x) (hl : LensL (cRight : Ctr).as x) : vc (fx_tright x) 1 42 Try.f42 (cRight) x := by
  rw [E_tright_eq]
  exact e_tright x hp hl
theorem c_tright : CtrOk Try.prog 42 (cRight) :=
  ctr_of_vc (c := cRight) (fn := Try.f42) (X := fx_tright) (n := 1) (fun _ => mkFx_all env_ok mixed_ok names_ok ks3_ok) Try.func42 (by kernel_rfl) (by kernel_rfl) (of_decide_eq_true (by kernel_rfl)) v_tright
theorem ks4_ok : CtrsOk Try.prog ks4 := ⟨c_tright, ks3_ok⟩
theorem v_step (x : HL (cStep : Ctr).as) (hp : (cStep : Ctr).pre x) (hl : LensL (cStep : Ctr).as x) : vc (fx_step x) 2 39 Try.f39 (cStep) x := by
  rw [E_step_eq]
  exact e_step x hp hl
theorem c_step : CtrOk Try.prog 39 (cStep) :=
  ctr_of_vc (c := cStep) (fn := Try.f39) (X := fx_step) (n := 2) (fun _ => mkFx_all env_ok mixed_ok names_ok ks4_ok) Try.func39 (by kernel_rfl) (by kernel_rfl) (of_decide_eq_true (by kernel_rfl)) v_step
theorem ks5_ok : CtrsOk Try.prog ks5 := ⟨c_step, ks4_ok⟩
theorem v_tstep (x : HL (cStep : Ctr).as) (hp : (cStep : Ctr).pre x) (hl : LensL (cStep : Ctr).as x) : vc (fx_tstep x) 1 40 Try.f40 (cStep) x := by
  rw [E_tstep_eq]
  exact e_tstep x hp hl
theorem c_tstep : CtrOk Try.prog 40 (cStep) :=
  ctr_of_vc (c := cStep) (fn := Try.f40) (X := fx_tstep) (n := 1) (fun _ => mkFx_all env_ok mixed_ok names_ok ks5_ok) Try.func40 (by kernel_rfl) (by kernel_rfl) (of_decide_eq_true (by kernel_rfl)) v_tstep
theorem ks6_ok : CtrsOk Try.prog ks6 := ⟨c_tstep, ks5_ok⟩
theorem v_same (x : HL (cSame : Ctr).as) (hp : (cSame : Ctr).pre x) (hl : LensL (cSame : Ctr).as x) : vc (fx_same x) 1 43 Try.f43 (cSame) x := by
  rw [E_same_eq]
  exact e_same x hp hl
theorem c_same : CtrOk Try.prog 43 (cSame) :=
  ctr_of_vc (c := cSame) (fn := Try.f43) (X := fx_same) (n := 1) (fun _ => mkFx_all env_ok mixed_ok names_ok ks6_ok) Try.func43 (by kernel_rfl) (by kernel_rfl) (of_decide_eq_true (by kernel_rfl)) v_same
theorem ks7_ok : CtrsOk Try.prog ks7 := ⟨c_same, ks6_ok⟩
theorem v_steps (x : HL (cLaw : Ctr).as) (hp : (cLaw : Ctr).pre x) (hl : LensL (cLaw : Ctr).as x) : vc (fx_steps x) 1 9 Try.f9 (cLaw) x := by
  rw [E_steps_eq]
  exact e_steps x hp hl
theorem c_steps : CtrOk Try.prog 9 (cLaw) :=
  ctr_of_vc (c := cLaw) (fn := Try.f9) (X := fx_steps) (n := 1) (fun _ => mkFx_all env_ok mixed_ok names_ok ks7_ok) Try.func9 (by kernel_rfl) (by kernel_rfl) (of_decide_eq_true (by kernel_rfl)) v_steps
theorem ks8_ok : CtrsOk Try.prog ks8 := ⟨c_steps, ks7_ok⟩
theorem ksAll_ok : CtrsOk Try.prog ksAll := ks8_ok
end Go.Proofs.Ytollphjlheabdaa.Nic
