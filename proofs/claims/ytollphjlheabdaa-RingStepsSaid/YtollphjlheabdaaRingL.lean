/-
  Each function keeps its contract.
-/
import Derived.Test.YtollphjlheabdaaRingP
namespace Go.Proofs.Ytollphjlheabdaa.Ring
open Go.Sx
set_option maxRecDepth 100000
attribute [local irreducible] vc

theorem ks0_ok : CtrsOk Try.prog ks0 := trivial
theorem names_ok : namesOk Try.prog = true := by kernel_rfl
theorem mixed_ok : Try.prog.follows .mixedOrders = true := by kernel_rfl
theorem v_clone (x : HL (cClone : Ctr).as) (hp : (cClone : Ctr).pre x) (hl : LensL (cClone : Ctr).as x) : vc (fx_clone x) 1 78 Try.f78 (cClone) x := by
  rw [E_clone_eq]
  exact e_clone x hp hl
theorem c_clone : CtrOk Try.prog 78 (cClone) :=
  ctr_of_vc (c := cClone) (fn := Try.f78) (X := fx_clone) (n := 1) (fun _ => mkFx_all env_ok mixed_ok names_ok ks0_ok) Try.func78 (by kernel_rfl) (by kernel_rfl) (of_decide_eq_true (by kernel_rfl)) v_clone
theorem ks1_ok : CtrsOk Try.prog ks1 := ⟨c_clone, ks0_ok⟩
theorem v_ahead (x : HL (cAhead : Ctr).as) (hp : (cAhead : Ctr).pre x) (hl : LensL (cAhead : Ctr).as x) : vc (fx_ahead x) 1 79 Try.f79 (cAhead) x := by
  rw [E_ahead_eq]
  exact e_ahead x hp hl
theorem c_ahead : CtrOk Try.prog 79 (cAhead) :=
  ctr_of_vc (c := cAhead) (fn := Try.f79) (X := fx_ahead) (n := 1) (fun _ => mkFx_all env_ok mixed_ok names_ok ks1_ok) Try.func79 (by kernel_rfl) (by kernel_rfl) (of_decide_eq_true (by kernel_rfl)) v_ahead
theorem ks2_ok : CtrsOk Try.prog ks2 := ⟨c_ahead, ks1_ok⟩
theorem v_right (x : HL (cRight : Ctr).as) (hp : (cRight : Ctr).pre x) (hl : LensL (cRight : Ctr).as x) : vc (fx_right x) 1 54 Try.f54 (cRight) x := by
  rw [E_right_eq]
  exact e_right x hp hl
theorem c_right : CtrOk Try.prog 54 (cRight) :=
  ctr_of_vc (c := cRight) (fn := Try.f54) (X := fx_right) (n := 1) (fun _ => mkFx_all env_ok mixed_ok names_ok ks2_ok) Try.func54 (by kernel_rfl) (by kernel_rfl) (of_decide_eq_true (by kernel_rfl)) v_right
theorem ks3_ok : CtrsOk Try.prog ks3 := ⟨c_right, ks2_ok⟩
theorem v_parts (x : HL (cParts : Ctr).as) (hp : (cParts : Ctr).pre x) (hl : LensL (cParts : Ctr).as x) : vc (fx_parts x) 1 51 Try.f51 (cParts) x := by
  rw [E_parts_eq]
  exact e_parts x hp hl
theorem c_parts : CtrOk Try.prog 51 (cParts) :=
  ctr_of_vc (c := cParts) (fn := Try.f51) (X := fx_parts) (n := 1) (fun _ => mkFx_all env_ok mixed_ok names_ok ks3_ok) Try.func51 (by kernel_rfl) (by kernel_rfl) (of_decide_eq_true (by kernel_rfl)) v_parts
theorem ks4_ok : CtrsOk Try.prog ks4 := ⟨c_parts, ks3_ok⟩
theorem v_step (x : HL (cStep : Ctr).as) (hp : (cStep : Ctr).pre x) (hl : LensL (cStep : Ctr).as x) : vc (fx_step x) 1 49 Try.f49 (cStep) x := by
  rw [E_step_eq]
  exact e_step x hp hl
theorem c_step : CtrOk Try.prog 49 (cStep) :=
  ctr_of_vc (c := cStep) (fn := Try.f49) (X := fx_step) (n := 1) (fun _ => mkFx_all env_ok mixed_ok names_ok ks4_ok) Try.func49 (by kernel_rfl) (by kernel_rfl) (of_decide_eq_true (by kernel_rfl)) v_step
theorem ks5_ok : CtrsOk Try.prog ks5 := ⟨c_step, ks4_ok⟩
theorem v_rstep (x : HL (cRStep : Ctr).as) (hp : (cRStep : Ctr).pre x) (hl : LensL (cRStep : Ctr).as x) : vc (fx_rstep x) 1 50 Try.f50 (cRStep) x := by
  rw [E_rstep_eq]
  exact e_rstep x hp hl
theorem c_rstep : CtrOk Try.prog 50 (cRStep) :=
  ctr_of_vc (c := cRStep) (fn := Try.f50) (X := fx_rstep) (n := 1) (fun _ => mkFx_all env_ok mixed_ok names_ok ks5_ok) Try.func50 (by kernel_rfl) (by kernel_rfl) (of_decide_eq_true (by kernel_rfl)) v_rstep
theorem ks6_ok : CtrsOk Try.prog ks6 := ⟨c_rstep, ks5_ok⟩
theorem v_new (x : HL (cNew : Ctr).as) (hp : (cNew : Ctr).pre x) (hl : LensL (cNew : Ctr).as x) : vc (fx_new x) 1 52 Try.f52 (cNew) x := by
  rw [E_new_eq]
  exact e_new x hp hl
theorem c_new : CtrOk Try.prog 52 (cNew) :=
  ctr_of_vc (c := cNew) (fn := Try.f52) (X := fx_new) (n := 1) (fun _ => mkFx_all env_ok mixed_ok names_ok ks6_ok) Try.func52 (by kernel_rfl) (by kernel_rfl) (of_decide_eq_true (by kernel_rfl)) v_new
theorem ks7_ok : CtrsOk Try.prog ks7 := ⟨c_new, ks6_ok⟩
theorem v_none (x : HL (cNone : Ctr).as) (hp : (cNone : Ctr).pre x) (hl : LensL (cNone : Ctr).as x) : vc (fx_none x) 1 53 Try.f53 (cNone) x := by
  rw [E_none_eq]
  exact e_none x hp hl
theorem c_none : CtrOk Try.prog 53 (cNone) :=
  ctr_of_vc (c := cNone) (fn := Try.f53) (X := fx_none) (n := 1) (fun _ => mkFx_all env_ok mixed_ok names_ok ks7_ok) Try.func53 (by kernel_rfl) (by kernel_rfl) (of_decide_eq_true (by kernel_rfl)) v_none
theorem ks8_ok : CtrsOk Try.prog ks8 := ⟨c_none, ks7_ok⟩
theorem v_same (x : HL (cSame : Ctr).as) (hp : (cSame : Ctr).pre x) (hl : LensL (cSame : Ctr).as x) : vc (fx_same x) 1 55 Try.f55 (cSame) x := by
  rw [E_same_eq]
  exact e_same x hp hl
theorem c_same : CtrOk Try.prog 55 (cSame) :=
  ctr_of_vc (c := cSame) (fn := Try.f55) (X := fx_same) (n := 1) (fun _ => mkFx_all env_ok mixed_ok names_ok ks8_ok) Try.func55 (by kernel_rfl) (by kernel_rfl) (of_decide_eq_true (by kernel_rfl)) v_same
theorem ks9_ok : CtrsOk Try.prog ks9 := ⟨c_same, ks8_ok⟩
theorem v_steps (x : HL (cLaw : Ctr).as) (hp : (cLaw : Ctr).pre x) (hl : LensL (cLaw : Ctr).as x) : vc (fx_steps x) 1 11 Try.f11 (cLaw) x := by
  rw [E_steps_eq]
  exact e_steps x hp hl
theorem c_steps : CtrOk Try.prog 11 (cLaw) :=
  ctr_of_vc (c := cLaw) (fn := Try.f11) (X := fx_steps) (n := 1) (fun _ => mkFx_all env_ok mixed_ok names_ok ks9_ok) Try.func11 (by kernel_rfl) (by kernel_rfl) (of_decide_eq_true (by kernel_rfl)) v_steps
theorem ks10_ok : CtrsOk Try.prog ks10 := ⟨c_steps, ks9_ok⟩
theorem ksAll_ok : CtrsOk Try.prog ksAll := ks10_ok
end Go.Proofs.Ytollphjlheabdaa.Ring
