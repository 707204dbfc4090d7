/-
  Each function keeps its contract.
-/
import Derived.Test.YtmcepjbbbkgfcaaPipepP
namespace Go.Proofs.Ytmcepjbbbkgfcaa.Pipep
open Go.Sx
set_option maxRecDepth 100000
attribute [local irreducible] vc

theorem ks0_ok : CtrsOk Try.prog ks0 := trivial
theorem names_ok : namesOk Try.prog = true := by kernel_rfl
theorem mixed_ok : Try.prog.follows .mixedOrders = true := by kernel_rfl
theorem v_clone (x : HL (cClone : Ctr).as) (hp : (cClone : Ctr).pre x) (hl : LensL (cClone : Ctr).as x) : vc (fx_clone x) 1 83 Try.f83 (cClone) x := by
  rw [E_clone_eq]
  exact e_clone x hp hl
theorem c_clone : CtrOk Try.prog 83 (cClone) :=
  ctr_of_vc (c := cClone) (fn := Try.f83) (X := fx_clone) (n := 1) (fun _ => mkFx_all env_ok mixed_ok names_ok ks0_ok) Try.func83 (by kernel_rfl) (by kernel_rfl) (of_decide_eq_true (by kernel_rfl)) v_clone
theorem ks1_ok : CtrsOk Try.prog ks1 := ⟨c_clone, ks0_ok⟩
theorem v_equal (x : HL (cEqual : Ctr).as) (hp : (cEqual : Ctr).pre x) (hl : LensL (cEqual : Ctr).as x) : vc (fx_equal x) 1 21 Try.f21 (cEqual) x := by
  rw [E_equal_eq]
  exact e_equal x hp hl
theorem c_equal : CtrOk Try.prog 21 (cEqual) :=
  ctr_of_vc (c := cEqual) (fn := Try.f21) (X := fx_equal) (n := 1) (fun _ => mkFx_all env_ok mixed_ok names_ok ks1_ok) Try.func21 (by kernel_rfl) (by kernel_rfl) (of_decide_eq_true (by kernel_rfl)) v_equal
theorem ks2_ok : CtrsOk Try.prog ks2 := ⟨c_equal, ks1_ok⟩
theorem v_right (x : HL (cRight : Ctr).as) (hp : (cRight : Ctr).pre x) (hl : LensL (cRight : Ctr).as x) : vc (fx_right x) 1 82 Try.f82 (cRight) x := by
  rw [E_right_eq]
  exact e_right x hp hl
theorem c_right : CtrOk Try.prog 82 (cRight) :=
  ctr_of_vc (c := cRight) (fn := Try.f82) (X := fx_right) (n := 1) (fun _ => mkFx_all env_ok mixed_ok names_ok ks2_ok) Try.func82 (by kernel_rfl) (by kernel_rfl) (of_decide_eq_true (by kernel_rfl)) v_right
theorem ks3_ok : CtrsOk Try.prog ks3 := ⟨c_right, ks2_ok⟩
theorem v_uright (x : HL (cRight : Ctr).as) (hp : (cRight : Ctr).pre x) (hl : LensL (cRight : Ctr).as x) : vc (fx_uright x) 1 84 Try.f84 (cRight) x := by
  rw [E_uright_eq]
  exact e_uright x hp hl
theorem c_uright : CtrOk Try.prog 84 (cRight) :=
  ctr_of_vc (c := cRight) (fn := Try.f84) (X := fx_uright) (n := 1) (fun _ => mkFx_all env_ok mixed_ok names_ok ks3_ok) Try.func84 (by kernel_rfl) (by kernel_rfl) (of_decide_eq_true (by kernel_rfl)) v_uright
theorem ks4_ok : CtrsOk Try.prog ks4 := ⟨c_uright, ks3_ok⟩
theorem v_step (x : HL (cStep : Ctr).as) (hp : (cStep : Ctr).pre x) (hl : LensL (cStep : Ctr).as x) : vc (fx_step x) 2 66 Try.f66 (cStep) x := by
  rw [E_step_eq]
  exact e_step x hp hl
theorem c_step : CtrOk Try.prog 66 (cStep) :=
  ctr_of_vc (c := cStep) (fn := Try.f66) (X := fx_step) (n := 2) (fun _ => mkFx_all env_ok mixed_ok names_ok ks4_ok) Try.func66 (by kernel_rfl) (by kernel_rfl) (of_decide_eq_true (by kernel_rfl)) v_step
theorem ks5_ok : CtrsOk Try.prog ks5 := ⟨c_step, ks4_ok⟩
theorem v_ustep (x : HL (cStep : Ctr).as) (hp : (cStep : Ctr).pre x) (hl : LensL (cStep : Ctr).as x) : vc (fx_ustep x) 1 67 Try.f67 (cStep) x := by
  rw [E_ustep_eq]
  exact e_ustep x hp hl
theorem c_ustep : CtrOk Try.prog 67 (cStep) :=
  ctr_of_vc (c := cStep) (fn := Try.f67) (X := fx_ustep) (n := 1) (fun _ => mkFx_all env_ok mixed_ok names_ok ks5_ok) Try.func67 (by kernel_rfl) (by kernel_rfl) (of_decide_eq_true (by kernel_rfl)) v_ustep
theorem ks6_ok : CtrsOk Try.prog ks6 := ⟨c_ustep, ks5_ok⟩
theorem v_same (x : HL (cSame : Ctr).as) (hp : (cSame : Ctr).pre x) (hl : LensL (cSame : Ctr).as x) : vc (fx_same x) 1 38 Try.f38 (cSame) x := by
  rw [E_same_eq]
  exact e_same x hp hl
theorem c_same : CtrOk Try.prog 38 (cSame) :=
  ctr_of_vc (c := cSame) (fn := Try.f38) (X := fx_same) (n := 1) (fun _ => mkFx_all env_ok mixed_ok names_ok ks6_ok) Try.func38 (by kernel_rfl) (by kernel_rfl) (of_decide_eq_true (by kernel_rfl)) v_same
theorem ks7_ok : CtrsOk Try.prog ks7 := ⟨c_same, ks6_ok⟩
theorem v_play (x : HL (cPlay : Ctr).as) (hp : (cPlay : Ctr).pre x) (hl : LensL (cPlay : Ctr).as x) : vc (fx_play x) 1 36 Try.f36 (cPlay) x := by
  rw [E_play_eq]
  exact e_play x hp hl
theorem c_play : CtrOk Try.prog 36 (cPlay) :=
  ctr_of_vc (c := cPlay) (fn := Try.f36) (X := fx_play) (n := 1) (fun _ => mkFx_all env_ok mixed_ok names_ok ks7_ok) Try.func36 (by kernel_rfl) (by kernel_rfl) (of_decide_eq_true (by kernel_rfl)) v_play
theorem ks8_ok : CtrsOk Try.prog ks8 := ⟨c_play, ks7_ok⟩
theorem v_uplay (x : HL (cPlay : Ctr).as) (hp : (cPlay : Ctr).pre x) (hl : LensL (cPlay : Ctr).as x) : vc (fx_uplay x) 1 37 Try.f37 (cPlay) x := by
  rw [E_uplay_eq]
  exact e_uplay x hp hl
theorem c_uplay : CtrOk Try.prog 37 (cPlay) :=
  ctr_of_vc (c := cPlay) (fn := Try.f37) (X := fx_uplay) (n := 1) (fun _ => mkFx_all env_ok mixed_ok names_ok ks8_ok) Try.func37 (by kernel_rfl) (by kernel_rfl) (of_decide_eq_true (by kernel_rfl)) v_uplay
theorem ks9_ok : CtrsOk Try.prog ks9 := ⟨c_uplay, ks8_ok⟩
theorem v_plays (x : HL (cLawP : Ctr).as) (hp : (cLawP : Ctr).pre x) (hl : LensL (cLawP : Ctr).as x) : vc (fx_plays x) 1 8 Try.f8 (cLawP) x := by
  rw [E_plays_eq]
  exact e_plays x hp hl
theorem c_plays : CtrOk Try.prog 8 (cLawP) :=
  ctr_of_vc (c := cLawP) (fn := Try.f8) (X := fx_plays) (n := 1) (fun _ => mkFx_all env_ok mixed_ok names_ok ks9_ok) Try.func8 (by kernel_rfl) (by kernel_rfl) (of_decide_eq_true (by kernel_rfl)) v_plays
theorem ks10_ok : CtrsOk Try.prog ks10 := ⟨c_plays, ks9_ok⟩
theorem ksAll_ok : CtrsOk Try.prog ksAll := ks10_ok
end Go.Proofs.Ytmcepjbbbkgfcaa.Pipep
