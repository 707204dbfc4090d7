/-
  Each function keeps its contract.
-/
import Derived.Test.YtollphjlheabdaaRankP
namespace Go.Proofs.Ytollphjlheabdaa.Rank
open Go.Sx
set_option maxRecDepth 100000
attribute [local irreducible] vc

theorem ks0_ok : CtrsOk Try.prog ks0 := trivial
theorem names_ok : namesOk Try.prog = true := by kernel_rfl
theorem mixed_ok : Try.prog.follows .mixedOrders = true := by kernel_rfl
theorem v_equal (x : HL (cEqual : Ctr).as) (hp : (cEqual : Ctr).pre x) (hl : LensL (cEqual : Ctr).as x) : vc (fx_equal x) 1 20 Try.f20 (cEqual) x := by
  rw [E_equal_eq]
  exact e_equal x hp hl
theorem c_equal : CtrOk Try.prog 20 (cEqual) :=
  ctr_of_vc (c := cEqual) (fn := Try.f20) (X := fx_equal) (n := 1) (fun _ => mkFx_all env_ok mixed_ok names_ok ks0_ok) Try.func20 (by kernel_rfl) (by kernel_rfl) (of_decide_eq_true (by kernel_rfl)) v_equal
theorem ks1_ok : CtrsOk Try.prog ks1 := ⟨c_equal, ks0_ok⟩
theorem v_circ (x : HL (cCirc : Ctr).as) (hp : (cCirc : Ctr).pre x) (hl : LensL (cCirc : Ctr).as x) : vc (fx_circ x) 2 21 Try.f21 (cCirc) x := by
  rw [E_circ_eq]
  exact e_circ x hp hl
theorem c_circ : CtrOk Try.prog 21 (cCirc) :=
  ctr_of_vc (c := cCirc) (fn := Try.f21) (X := fx_circ) (n := 2) (fun _ => mkFx_all env_ok mixed_ok names_ok ks1_ok) Try.func21 (by kernel_rfl) (by kernel_rfl) (of_decide_eq_true (by kernel_rfl)) v_circ
theorem ks2_ok : CtrsOk Try.prog ks2 := ⟨c_circ, ks1_ok⟩
theorem v_hcirc (x : HL (cCirc : Ctr).as) (hp : (cCirc : Ctr).pre x) (hl : LensL (cCirc : Ctr).as x) : vc (fx_hcirc x) 1 22 Try.f22 (cCirc) x := by
  rw [E_hcirc_eq]
  exact e_hcirc x hp hl
theorem c_hcirc : CtrOk Try.prog 22 (cCirc) :=
  ctr_of_vc (c := cCirc) (fn := Try.f22) (X := fx_hcirc) (n := 1) (fun _ => mkFx_all env_ok mixed_ok names_ok ks2_ok) Try.func22 (by kernel_rfl) (by kernel_rfl) (of_decide_eq_true (by kernel_rfl)) v_hcirc
theorem ks3_ok : CtrsOk Try.prog ks3 := ⟨c_hcirc, ks2_ok⟩
theorem v_law (x : HL (cLaw : Ctr).as) (hp : (cLaw : Ctr).pre x) (hl : LensL (cLaw : Ctr).as x) : vc (fx_law x) 1 4 Try.f4 (cLaw) x := by
  rw [E_law_eq]
  exact e_law x hp hl
theorem c_law : CtrOk Try.prog 4 (cLaw) :=
  ctr_of_vc (c := cLaw) (fn := Try.f4) (X := fx_law) (n := 1) (fun _ => mkFx_all env_ok mixed_ok names_ok ks3_ok) Try.func4 (by kernel_rfl) (by kernel_rfl) (of_decide_eq_true (by kernel_rfl)) v_law
theorem ks4_ok : CtrsOk Try.prog ks4 := ⟨c_law, ks3_ok⟩
theorem ksAll_ok : CtrsOk Try.prog ksAll := ks4_ok
end Go.Proofs.Ytollphjlheabdaa.Rank
