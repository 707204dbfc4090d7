/-
  Each function keeps its contract.
-/
import Derived.Test.YtollphjlheabdaaBitsP2
namespace Go.Proofs.Ytollphjlheabdaa.Bits
open Go.Sx
set_option maxRecDepth 100000
attribute [local irreducible] vc vcF

theorem kf0_ok : CtrsOkF Try.prog kf0 := trivial
theorem ks0_ok : CtrsOk Try.prog ks0 := trivial
theorem names_ok : namesOk Try.prog = true := by kernel_rfl
theorem mixed_ok : Try.prog.follows .mixedOrders = true := by kernel_rfl
theorem v_row (x : HL (cRow : Ctr).as) (hp : (cRow : Ctr).pre x) (hl : LensL (cRow : Ctr).as x) : vc (fx_row x) 1 66 Try.f66 (cRow) x := by
  rw [E_row_eq]
  exact e_row x hp hl
theorem kf1_ok : CtrsOkF Try.prog kf1 := kf0_ok
theorem c_row : CtrOk Try.prog 66 (cRow) :=
  ctr_of_vc (c := cRow) (fn := Try.f66) (X := fx_row) (n := 1) (fun _ => mkFxF_all env_ok mixed_ok names_ok ks0_ok kf0_ok) Try.func66 (by kernel_rfl) (by kernel_rfl) (of_decide_eq_true (by kernel_rfl)) v_row
theorem ks1_ok : CtrsOk Try.prog ks1 := ⟨c_row, ks0_ok⟩
theorem v_bits (x : HL (cBits : Ctr).as) (hp : (cBits : Ctr).pre x) (hl : LensL (cBits : Ctr).as x) : vc (fx_bits x) 1 67 Try.f67 (cBits) x := by
  rw [E_bits_eq]
  exact e_bits x hp hl
theorem kf2_ok : CtrsOkF Try.prog kf2 := kf1_ok
theorem c_bits : CtrOk Try.prog 67 (cBits) :=
  ctr_of_vc (c := cBits) (fn := Try.f67) (X := fx_bits) (n := 1) (fun _ => mkFxF_all env_ok mixed_ok names_ok ks1_ok kf1_ok) Try.func67 (by kernel_rfl) (by kernel_rfl) (of_decide_eq_true (by kernel_rfl)) v_bits
theorem ks2_ok : CtrsOk Try.prog ks2 := ⟨c_bits, ks1_ok⟩
theorem v_and (x : HL (cAnd : Ctr).as) (hp : (cAnd : Ctr).pre x) (hl : LensL (cAnd : Ctr).as x) : vc (fx_and x) 1 17 Try.f17 (cAnd) x := by
  rw [E_and_eq]
  exact e_and x hp hl
theorem kf3_ok : CtrsOkF Try.prog kf3 := kf2_ok
theorem c_and : CtrOk Try.prog 17 (cAnd) :=
  ctr_of_vc (c := cAnd) (fn := Try.f17) (X := fx_and) (n := 1) (fun _ => mkFxF_all env_ok mixed_ok names_ok ks2_ok kf2_ok) Try.func17 (by kernel_rfl) (by kernel_rfl) (of_decide_eq_true (by kernel_rfl)) v_and
theorem ks3_ok : CtrsOk Try.prog ks3 := ⟨c_and, ks2_ok⟩
theorem v_or (x : HL (cOr : Ctr).as) (hp : (cOr : Ctr).pre x) (hl : LensL (cOr : Ctr).as x) : vc (fx_or x) 1 19 Try.f19 (cOr) x := by
  rw [E_or_eq]
  exact e_or x hp hl
theorem kf4_ok : CtrsOkF Try.prog kf4 := kf3_ok
theorem c_or : CtrOk Try.prog 19 (cOr) :=
  ctr_of_vc (c := cOr) (fn := Try.f19) (X := fx_or) (n := 1) (fun _ => mkFxF_all env_ok mixed_ok names_ok ks3_ok kf3_ok) Try.func19 (by kernel_rfl) (by kernel_rfl) (of_decide_eq_true (by kernel_rfl)) v_or
theorem ks4_ok : CtrsOk Try.prog ks4 := ⟨c_or, ks3_ok⟩
theorem v_both (x : HL (cMixA : Ctr).as) (hp : (cMixA : Ctr).pre x) (hl : LensL (cMixA : Ctr).as x) : vc (fx_both x) 1 15 Try.f15 (cMixA) x := by
  rw [E_both_eq]
  exact e_both x hp hl
theorem kf5_ok : CtrsOkF Try.prog kf5 := kf4_ok
theorem c_both : CtrOk Try.prog 15 (cMixA) :=
  ctr_of_vc (c := cMixA) (fn := Try.f15) (X := fx_both) (n := 1) (fun _ => mkFxF_all env_ok mixed_ok names_ok ks4_ok kf4_ok) Try.func15 (by kernel_rfl) (by kernel_rfl) (of_decide_eq_true (by kernel_rfl)) v_both
theorem ks5_ok : CtrsOk Try.prog ks5 := ⟨c_both, ks4_ok⟩
theorem v_either (x : HL (cMixO : Ctr).as) (hp : (cMixO : Ctr).pre x) (hl : LensL (cMixO : Ctr).as x) : vc (fx_either x) 1 18 Try.f18 (cMixO) x := by
  rw [E_either_eq]
  exact e_either x hp hl
theorem kf6_ok : CtrsOkF Try.prog kf6 := kf5_ok
theorem c_either : CtrOk Try.prog 18 (cMixO) :=
  ctr_of_vc (c := cMixO) (fn := Try.f18) (X := fx_either) (n := 1) (fun _ => mkFxF_all env_ok mixed_ok names_ok ks5_ok kf5_ok) Try.func18 (by kernel_rfl) (by kernel_rfl) (of_decide_eq_true (by kernel_rfl)) v_either
theorem ks6_ok : CtrsOk Try.prog ks6 := ⟨c_either, ks5_ok⟩
theorem v_mixa (x : HL (cMixA : Ctr).as) (hp : (cMixA : Ctr).pre x) (hl : LensL (cMixA : Ctr).as x) : vcF (fx_mixa x) 1 16 17 Try.f16 (cMixA) x := by
  rw [E_mixa_eq]
  exact e_mixa x hp hl
theorem c_mixa : CtrOkF Try.prog 16 17 (cMixA) :=
  ctrF_of_vc (c := cMixA) (fn := Try.f16) (X := fx_mixa) (n := 1) (fun _ => mkFxF_all env_ok mixed_ok names_ok ks6_ok kf6_ok) Try.func16 (by kernel_rfl) (by kernel_rfl) (of_decide_eq_true (by kernel_rfl)) v_mixa
theorem ks7_ok : CtrsOk Try.prog ks7 := ks6_ok
theorem kf7_ok : CtrsOkF Try.prog kf7 := ⟨c_mixa, kf6_ok⟩
theorem v_mixo (x : HL (cMixO : Ctr).as) (hp : (cMixO : Ctr).pre x) (hl : LensL (cMixO : Ctr).as x) : vcF (fx_mixo x) 1 16 19 Try.f16 (cMixO) x := by
  rw [E_mixo_eq]
  exact e_mixo x hp hl
theorem c_mixo : CtrOkF Try.prog 16 19 (cMixO) :=
  ctrF_of_vc (c := cMixO) (fn := Try.f16) (X := fx_mixo) (n := 1) (fun _ => mkFxF_all env_ok mixed_ok names_ok ks7_ok kf7_ok) Try.func16 (by kernel_rfl) (by kernel_rfl) (of_decide_eq_true (by kernel_rfl)) v_mixo
theorem ks8_ok : CtrsOk Try.prog ks8 := ks7_ok
theorem kf8_ok : CtrsOkF Try.prog kf8 := ⟨c_mixo, kf7_ok⟩
theorem v_mixes (x : HL (cLaw : Ctr).as) (hp : (cLaw : Ctr).pre x) (hl : LensL (cLaw : Ctr).as x) : vc (fx_mixes x) 1 3 Try.f3 (cLaw) x := by
  rw [E_mixes_eq]
  exact e_mixes x hp hl
theorem kf9_ok : CtrsOkF Try.prog kf9 := kf8_ok
theorem c_mixes : CtrOk Try.prog 3 (cLaw) :=
  ctr_of_vc (c := cLaw) (fn := Try.f3) (X := fx_mixes) (n := 1) (fun _ => mkFxF_all env_ok mixed_ok names_ok ks8_ok kf8_ok) Try.func3 (by kernel_rfl) (by kernel_rfl) (of_decide_eq_true (by kernel_rfl)) v_mixes
theorem ks9_ok : CtrsOk Try.prog ks9 := ⟨c_mixes, ks8_ok⟩
theorem ksAll_ok : CtrsOk Try.prog ksAll := ks9_ok
end Go.Proofs.Ytollphjlheabdaa.Bits
