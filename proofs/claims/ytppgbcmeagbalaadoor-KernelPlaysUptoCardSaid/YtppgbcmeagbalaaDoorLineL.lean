/-
 Each function keeps its contract.
-/
import Derived.Test.YtppgbcmeagbalaaDoorLineP
namespace Go.Proofs.YtppgbcmeagbalaaDoor.Line
open Go.Sx
set_option maxRecDepth 100000
attribute [local irreducible] vc

theorem ks0_ok : CtrsOk Tryd.prog ks0 := trivial
theorem names_ok : namesOk Tryd.prog = true := by kernel_rfl
theorem mixed_ok : Tryd.prog.follows .mixedOrders = true := by kernel_rfl
theorem v_clone (x : HL (cClone : Ctr).as) (hp : (cClone : Ctr).pre x) (hl : LensL (cClone : Ctr).as x) : vc (fx_clone x) 1 55 Tryd.f55 (cClone) x := by
 rw [E_clone_eq]
 exact e_clone x hp hl
theorem c_clone : CtrOk Tryd.prog 55 (cClone) :=
 ctr_of_vc (c := cClone) (fn := Tryd.f55) (X := fx_clone) (n := 1) (fun _ => mkFx_all env_ok mixed_ok names_ok ks0_ok) Tryd.func55 (by kernel_rfl) (by kernel_rfl) (of_decide_eq_true (by kernel_rfl)) v_clone
theorem ks1_ok : CtrsOk Tryd.prog ks1 := ⟨c_clone, ks0_ok⟩
theorem v_badp (x : HL (cBad : Ctr).as) (hp : (cBad : Ctr).pre x) (hl : LensL (cBad : Ctr).as x) : vc (fx_badp x) 1 62 Tryd.f62 (cBad) x := by
 rw [E_badp_eq]
 exact e_badp x hp hl
theorem c_badp : CtrOk Tryd.prog 62 (cBad) :=
 ctr_of_vc (c := cBad) (fn := Tryd.f62) (X := fx_badp) (n := 1) (fun _ => mkFx_all env_ok mixed_ok names_ok ks1_ok) Tryd.func62 (by kernel_rfl) (by kernel_rfl) (of_decide_eq_true (by kernel_rfl)) v_badp
theorem ks2_ok : CtrsOk Tryd.prog ks2 := ⟨c_badp, ks1_ok⟩
theorem v_right (x : HL (cRight : Ctr).as) (hp : (cRight : Ctr).pre x) (hl : LensL (cRight : Ctr).as x) : vc (fx_right x) 3 54 Tryd.f54 (cRight) x := by
 rw [E_right_eq]
 exact e_right x hp hl
theorem c_right : CtrOk Tryd.prog 54 (cRight) :=
 ctr_of_vc (c := cRight) (fn := Tryd.f54) (X := fx_right) (n := 3) (fun _ => mkFx_all env_ok mixed_ok names_ok ks2_ok) Tryd.func54 (by kernel_rfl) (by kernel_rfl) (of_decide_eq_true (by kernel_rfl)) v_right
theorem ks3_ok : CtrsOk Tryd.prog ks3 := ⟨c_right, ks2_ok⟩
theorem ksAll_ok : CtrsOk Tryd.prog ksAll := ks3_ok
end Go.Proofs.YtppgbcmeagbalaaDoor.Line
