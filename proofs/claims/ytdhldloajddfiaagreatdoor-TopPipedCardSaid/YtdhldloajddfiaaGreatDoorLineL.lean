/-
 Each function keeps its contract.
-/
import Derived.Test.YtdhldloajddfiaaGreatDoorLinePJ
namespace Go.Proofs.YtdhldloajddfiaaGreatDoor.Line
open Go.Sx
set_option maxRecDepth 100000
attribute [local irreducible] vc

theorem ks0_ok : CtrsOk Tryz.prog ks0 := trivial
theorem names_ok : namesOk Tryz.prog = true := by kernel_rfl
theorem mixed_ok : Tryz.prog.follows .mixedOrders = true := by kernel_rfl
theorem v_clone (x : HL (cClone : Ctr).as) (hp : (cClone : Ctr).pre x) (hl : LensL (cClone : Ctr).as x) : vc (fx_clone x) 1 110 Tryz.f110 (cClone) x := by
 rw [E_clone_eq]
 exact e_clone x hp hl
theorem c_clone : CtrOk Tryz.prog 110 (cClone) :=
 ctr_of_vc (c := cClone) (fn := Tryz.f110) (X := fx_clone) (n := 1) (fun _ => mkFx_all env_ok mixed_ok names_ok ks0_ok) Tryz.func110 (by kernel_rfl) (by kernel_rfl) (of_decide_eq_true (by kernel_rfl)) v_clone
theorem ks1_ok : CtrsOk Tryz.prog ks1 := ⟨c_clone, ks0_ok⟩
theorem v_badp (x : HL (cBad : Ctr).as) (hp : (cBad : Ctr).pre x) (hl : LensL (cBad : Ctr).as x) : vc (fx_badp x) 1 115 Tryz.f115 (cBad) x := by
 rw [E_badp_eq]
 exact e_badp x hp hl
theorem c_badp : CtrOk Tryz.prog 115 (cBad) :=
 ctr_of_vc (c := cBad) (fn := Tryz.f115) (X := fx_badp) (n := 1) (fun _ => mkFx_all env_ok mixed_ok names_ok ks1_ok) Tryz.func115 (by kernel_rfl) (by kernel_rfl) (of_decide_eq_true (by kernel_rfl)) v_badp
theorem ks2_ok : CtrsOk Tryz.prog ks2 := ⟨c_badp, ks1_ok⟩
theorem v_right (x : HL (cRight : Ctr).as) (hp : (cRight : Ctr).pre x) (hl : LensL (cRight : Ctr).as x) : vc (fx_right x) 3 109 Tryz.f109 (cRight) x := by
 rw [E_right_eq]
 exact e_right x hp hl
theorem c_right : CtrOk Tryz.prog 109 (cRight) :=
 ctr_of_vc (c := cRight) (fn := Tryz.f109) (X := fx_right) (n := 3) (fun _ => mkFx_all env_ok mixed_ok names_ok ks2_ok) Tryz.func109 (by kernel_rfl) (by kernel_rfl) (of_decide_eq_true (by kernel_rfl)) v_right
theorem ks3_ok : CtrsOk Tryz.prog ks3 := ⟨c_right, ks2_ok⟩
theorem v_step (x : HL (cStep : Ctr).as) (hp : (cStep : Ctr).pre x) (hl : LensL (cStep : Ctr).as x) : vc (fx_step x) 2 96 Tryz.f96 (cStep) x := by
 rw [E_step_eq]
 exact e_step x hp hl
theorem c_step : CtrOk Tryz.prog 96 (cStep) :=
 ctr_of_vc (c := cStep) (fn := Tryz.f96) (X := fx_step) (n := 2) (fun _ => mkFx_all env_ok mixed_ok names_ok ks3_ok) Tryz.func96 (by kernel_rfl) (by kernel_rfl) (of_decide_eq_true (by kernel_rfl)) v_step
theorem ks4_ok : CtrsOk Tryz.prog ks4 := ⟨c_step, ks3_ok⟩
theorem ksAll_ok : CtrsOk Tryz.prog ksAll := ks4_ok
end Go.Proofs.YtdhldloajddfiaaGreatDoor.Line
