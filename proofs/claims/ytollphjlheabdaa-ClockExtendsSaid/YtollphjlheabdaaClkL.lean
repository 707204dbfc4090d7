/-
  Each function keeps its contract.
-/
import Derived.Test.YtollphjlheabdaaClkP
namespace Go.Proofs.Ytollphjlheabdaa.Clk
open Go.Sx
set_option maxRecDepth 100000

theorem ks0_ok : CtrsOk Try.prog ks0 := trivial
theorem names_ok : namesOk Try.prog = true := by kernel_rfl
theorem mixed_ok : Try.prog.follows .mixedOrders = true := by kernel_rfl
theorem c_equal : CtrOk Try.prog 20 (cEqual) :=
  ctr_of_vc (X := fx_equal) (n := 1) (fun _ => mkFx_all env_ok mixed_ok names_ok ks0_ok) Try.func20 (by kernel_rfl) (by kernel_rfl) (of_decide_eq_true (by kernel_rfl)) (fun x hp hl => (E_equal_eq x).symm ▸ e_equal x hp hl)
theorem ks1_ok : CtrsOk Try.prog ks1 := ⟨c_equal, ks0_ok⟩
theorem c_ext : CtrOk Try.prog 23 (cExt) :=
  ctr_of_vc (X := fx_ext) (n := 1) (fun _ => mkFx_all env_ok mixed_ok names_ok ks1_ok) Try.func23 (by kernel_rfl) (by kernel_rfl) (of_decide_eq_true (by kernel_rfl)) (fun x hp hl => (E_ext_eq x).symm ▸ e_ext x hp hl)
theorem ks2_ok : CtrsOk Try.prog ks2 := ⟨c_ext, ks1_ok⟩
theorem c_wext : CtrOk Try.prog 24 (cExt) :=
  ctr_of_vc (X := fx_wext) (n := 1) (fun _ => mkFx_all env_ok mixed_ok names_ok ks2_ok) Try.func24 (by kernel_rfl) (by kernel_rfl) (of_decide_eq_true (by kernel_rfl)) (fun x hp hl => (E_wext_eq x).symm ▸ e_wext x hp hl)
theorem ks3_ok : CtrsOk Try.prog ks3 := ⟨c_wext, ks2_ok⟩
theorem c_wrong : CtrOk Try.prog 25 (cWrong) :=
  ctr_of_vc (X := fx_wrong) (n := 1) (fun _ => mkFx_all env_ok mixed_ok names_ok ks3_ok) Try.func25 (by kernel_rfl) (by kernel_rfl) (of_decide_eq_true (by kernel_rfl)) (fun x hp hl => (E_wrong_eq x).symm ▸ e_wrong x hp hl)
theorem ks4_ok : CtrsOk Try.prog ks4 := ⟨c_wrong, ks3_ok⟩
theorem c_wwrong : CtrOk Try.prog 26 (cWrong) :=
  ctr_of_vc (X := fx_wwrong) (n := 1) (fun _ => mkFx_all env_ok mixed_ok names_ok ks4_ok) Try.func26 (by kernel_rfl) (by kernel_rfl) (of_decide_eq_true (by kernel_rfl)) (fun x hp hl => (E_wwrong_eq x).symm ▸ e_wwrong x hp hl)
theorem ks5_ok : CtrsOk Try.prog ks5 := ⟨c_wwrong, ks4_ok⟩
theorem c_law : CtrOk Try.prog 5 (cLaw) :=
  ctr_of_vc (X := fx_law) (n := 1) (fun _ => mkFx_all env_ok mixed_ok names_ok ks5_ok) Try.func5 (by kernel_rfl) (by kernel_rfl) (of_decide_eq_true (by kernel_rfl)) (fun x hp hl => (E_law_eq x).symm ▸ e_law x hp hl)
theorem ks6_ok : CtrsOk Try.prog ks6 := ⟨c_law, ks5_ok⟩
theorem ksAll_ok : CtrsOk Try.prog ksAll := ks6_ok
end Go.Proofs.Ytollphjlheabdaa.Clk
