/-
  Each function keeps its contract.
-/
import Derived.Test.YtollphjlheabdaaNamP
namespace Go.Proofs.Ytollphjlheabdaa.Nam
open Go.Sx
set_option maxRecDepth 100000
attribute [local irreducible] vc

theorem ks0_ok : CtrsOk Try.prog ks0 := trivial
theorem names_ok : namesOk Try.prog = true := by kernel_rfl
theorem mixed_ok : Try.prog.follows .mixedOrders = true := by kernel_rfl
theorem v_names (x : HL (cLaw : Ctr).as) (hp : (cLaw : Ctr).pre x) (hl : LensL (cLaw : Ctr).as x) : vc (fx_names x) 1 14 Try.f14 (cLaw) x := by
  rw [E_names_eq]
  exact e_names x hp hl
theorem c_names : CtrOk Try.prog 14 (cLaw) :=
  ctr_of_vc (c := cLaw) (fn := Try.f14) (X := fx_names) (n := 1) (fun _ => mkFx_all env_ok mixed_ok names_ok ks0_ok) Try.func14 (by kernel_rfl) (by kernel_rfl) (of_decide_eq_true (by kernel_rfl)) v_names
theorem ks1_ok : CtrsOk Try.prog ks1 := ⟨c_names, ks0_ok⟩
theorem ksAll_ok : CtrsOk Try.prog ksAll := ks1_ok
end Go.Proofs.Ytollphjlheabdaa.Nam
