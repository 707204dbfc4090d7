/-
  Each function keeps its contract.
-/
import Derived.Test.YtollphjlheabdaaTicketP
namespace Go.Proofs.Ytollphjlheabdaa.Ticket
open Go.Sx
set_option maxRecDepth 100000
attribute [local irreducible] vc

theorem ks0_ok : CtrsOk Try.prog ks0 := trivial
theorem names_ok : namesOk Try.prog = true := by kernel_rfl
theorem mixed_ok : Try.prog.follows .mixedOrders = true := by kernel_rfl
theorem v_right (x : HL (cRight : Ctr).as) (hp : (cRight : Ctr).pre x) (hl : LensL (cRight : Ctr).as x) : vc (fx_right x) 1 38 Try.f38 (cRight) x := by
  rw [E_right_eq]
  exact e_right x hp hl
theorem c_right : CtrOk Try.prog 38 (cRight) :=
  ctr_of_vc (c := cRight) (fn := Try.f38) (X := fx_right) (n := 1) (fun _ => mkFx_all env_ok mixed_ok names_ok ks0_ok) Try.func38 (by kernel_rfl) (by kernel_rfl) (of_decide_eq_true (by kernel_rfl)) v_right
theorem ks1_ok : CtrsOk Try.prog ks1 := ⟨c_right, ks0_ok⟩
theorem v_fq (x : HL (cFq : Ctr).as) (hp : (cFq : Ctr).pre x) (hl : LensL (cFq : Ctr).as x) : vc (fx_fq x) 1 37 Try.f37 (cFq) x := by
  rw [E_fq_eq]
  exact e_fq x hp hl
theorem c_fq : CtrOk Try.prog 37 (cFq) :=
  ctr_of_vc (c := cFq) (fn := Try.f37) (X := fx_fq) (n := 1) (fun _ => mkFx_all env_ok mixed_ok names_ok ks1_ok) Try.func37 (by kernel_rfl) (by kernel_rfl) (of_decide_eq_true (by kernel_rfl)) v_fq
theorem ks2_ok : CtrsOk Try.prog ks2 := ⟨c_fq, ks1_ok⟩
theorem v_step (x : HL (cStep : Ctr).as) (hp : (cStep : Ctr).pre x) (hl : LensL (cStep : Ctr).as x) : vc (fx_step x) 2 35 Try.f35 (cStep) x := by
  rw [E_step_eq]
  exact e_step x hp hl
theorem c_step : CtrOk Try.prog 35 (cStep) :=
  ctr_of_vc (c := cStep) (fn := Try.f35) (X := fx_step) (n := 2) (fun _ => mkFx_all env_ok mixed_ok names_ok ks2_ok) Try.func35 (by kernel_rfl) (by kernel_rfl) (of_decide_eq_true (by kernel_rfl)) v_step
theorem ks3_ok : CtrsOk Try.prog ks3 := ⟨c_step, ks2_ok⟩
theorem v_fstep (x : HL (cStep : Ctr).as) (hp : (cStep : Ctr).pre x) (hl : LensL (cStep : Ctr).as x) : vc (fx_fstep x) 1 36 Try.f36 (cStep) x := by
  rw [E_fstep_eq]
  exact e_fstep x hp hl
theorem c_fstep : CtrOk Try.prog 36 (cStep) :=
  ctr_of_vc (c := cStep) (fn := Try.f36) (X := fx_fstep) (n := 1) (fun _ => mkFx_all env_ok mixed_ok names_ok ks3_ok) Try.func36 (by kernel_rfl) (by kernel_rfl) (of_decide_eq_true (by kernel_rfl)) v_fstep
theorem ks4_ok : CtrsOk Try.prog ks4 := ⟨c_fstep, ks3_ok⟩
theorem v_steps (x : HL (cLaw : Ctr).as) (hp : (cLaw : Ctr).pre x) (hl : LensL (cLaw : Ctr).as x) : vc (fx_steps x) 1 8 Try.f8 (cLaw) x := by
  rw [E_steps_eq]
  exact e_steps x hp hl
theorem c_steps : CtrOk Try.prog 8 (cLaw) :=
  ctr_of_vc (c := cLaw) (fn := Try.f8) (X := fx_steps) (n := 1) (fun _ => mkFx_all env_ok mixed_ok names_ok ks4_ok) Try.func8 (by kernel_rfl) (by kernel_rfl) (of_decide_eq_true (by kernel_rfl)) v_steps
theorem ks5_ok : CtrsOk Try.prog ks5 := ⟨c_steps, ks4_ok⟩
theorem ksAll_ok : CtrsOk Try.prog ksAll := ks5_ok
end Go.Proofs.Ytollphjlheabdaa.Ticket
