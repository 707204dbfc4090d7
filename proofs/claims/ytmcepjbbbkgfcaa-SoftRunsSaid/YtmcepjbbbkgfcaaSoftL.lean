/-
  Each function keeps its contract.
-/
import Derived.Test.YtmcepjbbbkgfcaaSoftP
namespace Go.Proofs.Ytmcepjbbbkgfcaa.Soft
open Go.Sx
set_option maxRecDepth 100000
attribute [local irreducible] vc

theorem ks0_ok : CtrsOk Try.prog ks0 := trivial
theorem names_ok : namesOk Try.prog = true := by kernel_rfl
theorem mixed_ok : Try.prog.follows .mixedOrders = true := by kernel_rfl
theorem v_equal (x : HL (cEqual : Ctr).as) (hp : (cEqual : Ctr).pre x) (hl : LensL (cEqual : Ctr).as x) : vc (fx_equal x) 1 18 Try.f18 (cEqual) x := by
  rw [E_equal_eq]
  exact e_equal x hp hl
theorem c_equal : CtrOk Try.prog 18 (cEqual) :=
  ctr_of_vc (c := cEqual) (fn := Try.f18) (X := fx_equal) (n := 1) (fun _ => mkFx_all env_ok mixed_ok names_ok ks0_ok) Try.func18 (by kernel_rfl) (by kernel_rfl) (of_decide_eq_true (by kernel_rfl)) v_equal
theorem ks1_ok : CtrsOk Try.prog ks1 := ⟨c_equal, ks0_ok⟩
theorem v_index (x : HL (cIndex : Ctr).as) (hp : (cIndex : Ctr).pre x) (hl : LensL (cIndex : Ctr).as x) : vc (fx_index x) 1 91 Try.f91 (cIndex) x := by
  rw [E_index_eq]
  exact e_index x hp hl
theorem c_index : CtrOk Try.prog 91 (cIndex) :=
  ctr_of_vc (c := cIndex) (fn := Try.f91) (X := fx_index) (n := 1) (fun _ => mkFx_all env_ok mixed_ok names_ok ks1_ok) Try.func91 (by kernel_rfl) (by kernel_rfl) (of_decide_eq_true (by kernel_rfl)) v_index
theorem ks2_ok : CtrsOk Try.prog ks2 := ⟨c_index, ks1_ok⟩
theorem v_contains (x : HL (cContains : Ctr).as) (hp : (cContains : Ctr).pre x) (hl : LensL (cContains : Ctr).as x) : vc (fx_contains x) 1 75 Try.f75 (cContains) x := by
  rw [E_contains_eq]
  exact e_contains x hp hl
theorem c_contains : CtrOk Try.prog 75 (cContains) :=
  ctr_of_vc (c := cContains) (fn := Try.f75) (X := fx_contains) (n := 1) (fun _ => mkFx_all env_ok mixed_ok names_ok ks2_ok) Try.func75 (by kernel_rfl) (by kernel_rfl) (of_decide_eq_true (by kernel_rfl)) v_contains
theorem ks3_ok : CtrsOk Try.prog ks3 := ⟨c_contains, ks2_ok⟩
theorem v_soft (x : HL (cSoft : Ctr).as) (hp : (cSoft : Ctr).pre x) (hl : LensL (cSoft : Ctr).as x) : vc (fx_soft x) 1 57 Try.f57 (cSoft) x := by
  rw [E_soft_eq]
  exact e_soft x hp hl
theorem c_soft : CtrOk Try.prog 57 (cSoft) :=
  ctr_of_vc (c := cSoft) (fn := Try.f57) (X := fx_soft) (n := 1) (fun _ => mkFx_all env_ok mixed_ok names_ok ks3_ok) Try.func57 (by kernel_rfl) (by kernel_rfl) (of_decide_eq_true (by kernel_rfl)) v_soft
theorem ks4_ok : CtrsOk Try.prog ks4 := ⟨c_soft, ks3_ok⟩
theorem v_right (x : HL (cRight : Ctr).as) (hp : (cRight : Ctr).pre x) (hl : LensL (cRight : Ctr).as x) : vc (fx_right x) 1 24 Try.f24 (cRight) x := by
  rw [E_right_eq]
  exact e_right x hp hl
theorem c_right : CtrOk Try.prog 24 (cRight) :=
  ctr_of_vc (c := cRight) (fn := Try.f24) (X := fx_right) (n := 1) (fun _ => mkFx_all env_ok mixed_ok names_ok ks4_ok) Try.func24 (by kernel_rfl) (by kernel_rfl) (of_decide_eq_true (by kernel_rfl)) v_right
theorem ks5_ok : CtrsOk Try.prog ks5 := ⟨c_right, ks4_ok⟩
theorem v_jright (x : HL (cRight : Ctr).as) (hp : (cRight : Ctr).pre x) (hl : LensL (cRight : Ctr).as x) : vc (fx_jright x) 1 23 Try.f23 (cRight) x := by
  rw [E_jright_eq]
  exact e_jright x hp hl
theorem c_jright : CtrOk Try.prog 23 (cRight) :=
  ctr_of_vc (c := cRight) (fn := Try.f23) (X := fx_jright) (n := 1) (fun _ => mkFx_all env_ok mixed_ok names_ok ks5_ok) Try.func23 (by kernel_rfl) (by kernel_rfl) (of_decide_eq_true (by kernel_rfl)) v_jright
theorem ks6_ok : CtrsOk Try.prog ks6 := ⟨c_jright, ks5_ok⟩
theorem v_run (x : HL (cRun : Ctr).as) (hp : (cRun : Ctr).pre x) (hl : LensL (cRun : Ctr).as x) : vc (fx_run x) 4 22 Try.f22 (cRun) x := by
  rw [E_run_eq]
  exact e_run x hp hl
theorem c_run : CtrOk Try.prog 22 (cRun) :=
  ctr_of_vc (c := cRun) (fn := Try.f22) (X := fx_run) (n := 4) (fun _ => mkFx_all env_ok mixed_ok names_ok ks6_ok) Try.func22 (by kernel_rfl) (by kernel_rfl) (of_decide_eq_true (by kernel_rfl)) v_run
theorem ks7_ok : CtrsOk Try.prog ks7 := ⟨c_run, ks6_ok⟩
theorem v_jrun (x : HL (cJRun : Ctr).as) (hp : (cJRun : Ctr).pre x) (hl : LensL (cJRun : Ctr).as x) : vc (fx_jrun x) 2 25 Try.f25 (cJRun) x := by
  rw [E_jrun_eq]
  exact e_jrun x hp hl
theorem c_jrun : CtrOk Try.prog 25 (cJRun) :=
  ctr_of_vc (c := cJRun) (fn := Try.f25) (X := fx_jrun) (n := 2) (fun _ => mkFx_all env_ok mixed_ok names_ok ks7_ok) Try.func25 (by kernel_rfl) (by kernel_rfl) (of_decide_eq_true (by kernel_rfl)) v_jrun
theorem ks8_ok : CtrsOk Try.prog ks8 := ⟨c_jrun, ks7_ok⟩
theorem v_softs (x : HL (cLaw : Ctr).as) (hp : (cLaw : Ctr).pre x) (hl : LensL (cLaw : Ctr).as x) : vc (fx_softs x) 1 5 Try.f5 (cLaw) x := by
  rw [E_softs_eq]
  exact e_softs x hp hl
theorem c_softs : CtrOk Try.prog 5 (cLaw) :=
  ctr_of_vc (c := cLaw) (fn := Try.f5) (X := fx_softs) (n := 1) (fun _ => mkFx_all env_ok mixed_ok names_ok ks8_ok) Try.func5 (by kernel_rfl) (by kernel_rfl) (of_decide_eq_true (by kernel_rfl)) v_softs
theorem ks9_ok : CtrsOk Try.prog ks9 := ⟨c_softs, ks8_ok⟩
theorem ksAll_ok : CtrsOk Try.prog ksAll := ks9_ok
end Go.Proofs.Ytmcepjbbbkgfcaa.Soft
