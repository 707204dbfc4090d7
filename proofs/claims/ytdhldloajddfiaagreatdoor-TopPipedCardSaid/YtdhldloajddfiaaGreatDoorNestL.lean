/-
 Each function keeps its contract.
-/
import Derived.Test.YtdhldloajddfiaaGreatDoorNestPJ
namespace Go.Proofs.YtdhldloajddfiaaGreatDoor.Nest
open Go.Sx
set_option maxRecDepth 100000
attribute [local irreducible] vc

theorem ks0_ok : CtrsOk Tryz.prog ks0 := trivial
theorem names_ok : namesOk Tryz.prog = true := by kernel_rfl
theorem mixed_ok : Tryz.prog.follows .mixedOrders = true := by kernel_rfl
theorem v_clone (x : HL (cClone : Ctr).as) (hp : (cClone : Ctr).pre x) (hl : LensL (cClone : Ctr).as x) : vc (fx_clone x) 1 100 Tryz.f100 (cClone) x := by
 rw [E_clone_eq]
 exact e_clone x hp hl
theorem c_clone : CtrOk Tryz.prog 100 (cClone) :=
 ctr_of_vc (c := cClone) (fn := Tryz.f100) (X := fx_clone) (n := 1) (fun _ => mkFx_all env_ok mixed_ok names_ok ks0_ok) Tryz.func100 (by kernel_rfl) (by kernel_rfl) (of_decide_eq_true (by kernel_rfl)) v_clone
theorem ks1_ok : CtrsOk Tryz.prog ks1 := ⟨c_clone, ks0_ok⟩
theorem v_right (x : HL (cRight : Ctr).as) (hp : (cRight : Ctr).pre x) (hl : LensL (cRight : Ctr).as x) : vc (fx_right x) 1 99 Tryz.f99 (cRight) x := by
 rw [E_right_eq]
 exact e_right x hp hl
theorem c_right : CtrOk Tryz.prog 99 (cRight) :=
 ctr_of_vc (c := cRight) (fn := Tryz.f99) (X := fx_right) (n := 1) (fun _ => mkFx_all env_ok mixed_ok names_ok ks1_ok) Tryz.func99 (by kernel_rfl) (by kernel_rfl) (of_decide_eq_true (by kernel_rfl)) v_right
theorem ks2_ok : CtrsOk Tryz.prog ks2 := ⟨c_right, ks1_ok⟩
theorem v_step (x : HL (cStep : Ctr).as) (hp : (cStep : Ctr).pre x) (hl : LensL (cStep : Ctr).as x) : vc (fx_step x) 1 79 Tryz.f79 (cStep) x := by
 rw [E_step_eq]
 exact e_step x hp hl
theorem c_step : CtrOk Tryz.prog 79 (cStep) :=
 ctr_of_vc (c := cStep) (fn := Tryz.f79) (X := fx_step) (n := 1) (fun _ => mkFx_all env_ok mixed_ok names_ok ks2_ok) Tryz.func79 (by kernel_rfl) (by kernel_rfl) (of_decide_eq_true (by kernel_rfl)) v_step
theorem ks3_ok : CtrsOk Tryz.prog ks3 := ⟨c_step, ks2_ok⟩
theorem ksAll_ok : CtrsOk Tryz.prog ksAll := ks3_ok
end Go.Proofs.YtdhldloajddfiaaGreatDoor.Nest
