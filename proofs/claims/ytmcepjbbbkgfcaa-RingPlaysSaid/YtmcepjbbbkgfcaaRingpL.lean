/-
  Each function keeps its contract.
-/
import Derived.Test.YtmcepjbbbkgfcaaRingpP
namespace Go.Proofs.Ytmcepjbbbkgfcaa.Ringp
open Go.Sx
set_option maxRecDepth 100000
attribute [local irreducible] vc

theorem ks0_ok : CtrsOk Try.prog ks0 := trivial
theorem names_ok : namesOk Try.prog = true := by kernel_rfl
theorem mixed_ok : Try.prog.follows .mixedOrders = true := by kernel_rfl
theorem v_clone (x : HL (cClone : Ctr).as) (hp : (cClone : Ctr).pre x) (hl : LensL (cClone : Ctr).as x) : vc (fx_clone x) 1 89 Try.f89 (cClone) x := by
  rw [E_clone_eq]
  exact e_clone x hp hl
theorem c_clone : CtrOk Try.prog 89 (cClone) :=
  ctr_of_vc (c := cClone) (fn := Try.f89) (X := fx_clone) (n := 1) (fun _ => mkFx_all env_ok mixed_ok names_ok ks0_ok) Try.func89 (by kernel_rfl) (by kernel_rfl) (of_decide_eq_true (by kernel_rfl)) v_clone
theorem ks1_ok : CtrsOk Try.prog ks1 := ⟨c_clone, ks0_ok⟩
theorem v_ahead (x : HL (cAhead : Ctr).as) (hp : (cAhead : Ctr).pre x) (hl : LensL (cAhead : Ctr).as x) : vc (fx_ahead x) 1 90 Try.f90 (cAhead) x := by
  rw [E_ahead_eq]
  exact e_ahead x hp hl
theorem c_ahead : CtrOk Try.prog 90 (cAhead) :=
  ctr_of_vc (c := cAhead) (fn := Try.f90) (X := fx_ahead) (n := 1) (fun _ => mkFx_all env_ok mixed_ok names_ok ks1_ok) Try.func90 (by kernel_rfl) (by kernel_rfl) (of_decide_eq_true (by kernel_rfl)) v_ahead
theorem ks2_ok : CtrsOk Try.prog ks2 := ⟨c_ahead, ks1_ok⟩
theorem v_right (x : HL (cRight : Ctr).as) (hp : (cRight : Ctr).pre x) (hl : LensL (cRight : Ctr).as x) : vc (fx_right x) 1 88 Try.f88 (cRight) x := by
  rw [E_right_eq]
  exact e_right x hp hl
theorem c_right : CtrOk Try.prog 88 (cRight) :=
  ctr_of_vc (c := cRight) (fn := Try.f88) (X := fx_right) (n := 1) (fun _ => mkFx_all env_ok mixed_ok names_ok ks2_ok) Try.func88 (by kernel_rfl) (by kernel_rfl) (of_decide_eq_true (by kernel_rfl)) v_right
theorem ks3_ok : CtrsOk Try.prog ks3 := ⟨c_right, ks2_ok⟩
theorem v_step (x : HL (cStep : Ctr).as) (hp : (cStep : Ctr).pre x) (hl : LensL (cStep : Ctr).as x) : vc (fx_step x) 1 71 Try.f71 (cStep) x := by
  rw [E_step_eq]
  exact e_step x hp hl
theorem c_step : CtrOk Try.prog 71 (cStep) :=
  ctr_of_vc (c := cStep) (fn := Try.f71) (X := fx_step) (n := 1) (fun _ => mkFx_all env_ok mixed_ok names_ok ks3_ok) Try.func71 (by kernel_rfl) (by kernel_rfl) (of_decide_eq_true (by kernel_rfl)) v_step
theorem ks4_ok : CtrsOk Try.prog ks4 := ⟨c_step, ks3_ok⟩
theorem v_new (x : HL (cNew : Ctr).as) (hp : (cNew : Ctr).pre x) (hl : LensL (cNew : Ctr).as x) : vc (fx_new x) 1 70 Try.f70 (cNew) x := by
  rw [E_new_eq]
  exact e_new x hp hl
theorem c_new : CtrOk Try.prog 70 (cNew) :=
  ctr_of_vc (c := cNew) (fn := Try.f70) (X := fx_new) (n := 1) (fun _ => mkFx_all env_ok mixed_ok names_ok ks4_ok) Try.func70 (by kernel_rfl) (by kernel_rfl) (of_decide_eq_true (by kernel_rfl)) v_new
theorem ks5_ok : CtrsOk Try.prog ks5 := ⟨c_new, ks4_ok⟩
theorem v_same (x : HL (cSame : Ctr).as) (hp : (cSame : Ctr).pre x) (hl : LensL (cSame : Ctr).as x) : vc (fx_same x) 1 47 Try.f47 (cSame) x := by
  rw [E_same_eq]
  exact e_same x hp hl
theorem c_same : CtrOk Try.prog 47 (cSame) :=
  ctr_of_vc (c := cSame) (fn := Try.f47) (X := fx_same) (n := 1) (fun _ => mkFx_all env_ok mixed_ok names_ok ks5_ok) Try.func47 (by kernel_rfl) (by kernel_rfl) (of_decide_eq_true (by kernel_rfl)) v_same
theorem ks6_ok : CtrsOk Try.prog ks6 := ⟨c_same, ks5_ok⟩
theorem v_equal (x : HL (cEqual : Ctr).as) (hp : (cEqual : Ctr).pre x) (hl : LensL (cEqual : Ctr).as x) : vc (fx_equal x) 1 18 Try.f18 (cEqual) x := by
  rw [E_equal_eq]
  exact e_equal x hp hl
theorem c_equal : CtrOk Try.prog 18 (cEqual) :=
  ctr_of_vc (c := cEqual) (fn := Try.f18) (X := fx_equal) (n := 1) (fun _ => mkFx_all env_ok mixed_ok names_ok ks6_ok) Try.func18 (by kernel_rfl) (by kernel_rfl) (of_decide_eq_true (by kernel_rfl)) v_equal
theorem ks7_ok : CtrsOk Try.prog ks7 := ⟨c_equal, ks6_ok⟩
theorem v_equale (x : HL (cEqual : Ctr).as) (hp : (cEqual : Ctr).pre x) (hl : LensL (cEqual : Ctr).as x) : vc (fx_equale x) 1 21 Try.f21 (cEqual) x := by
  rw [E_equale_eq]
  exact e_equale x hp hl
theorem c_equale : CtrOk Try.prog 21 (cEqual) :=
  ctr_of_vc (c := cEqual) (fn := Try.f21) (X := fx_equale) (n := 1) (fun _ => mkFx_all env_ok mixed_ok names_ok ks7_ok) Try.func21 (by kernel_rfl) (by kernel_rfl) (of_decide_eq_true (by kernel_rfl)) v_equale
theorem ks8_ok : CtrsOk Try.prog ks8 := ⟨c_equale, ks7_ok⟩
theorem v_play (x : HL (cRPlay : Ctr).as) (hp : (cRPlay : Ctr).pre x) (hl : LensL (cRPlay : Ctr).as x) : vc (fx_play x) 1 45 Try.f45 (cRPlay) x := by
  rw [E_play_eq]
  exact e_play x hp hl
theorem c_play : CtrOk Try.prog 45 (cRPlay) :=
  ctr_of_vc (c := cRPlay) (fn := Try.f45) (X := fx_play) (n := 1) (fun _ => mkFx_all env_ok mixed_ok names_ok ks8_ok) Try.func45 (by kernel_rfl) (by kernel_rfl) (of_decide_eq_true (by kernel_rfl)) v_play
theorem ks9_ok : CtrsOk Try.prog ks9 := ⟨c_play, ks8_ok⟩
theorem v_rplay (x : HL (cRPlay : Ctr).as) (hp : (cRPlay : Ctr).pre x) (hl : LensL (cRPlay : Ctr).as x) : vc (fx_rplay x) 1 46 Try.f46 (cRPlay) x := by
  rw [E_rplay_eq]
  exact e_rplay x hp hl
theorem c_rplay : CtrOk Try.prog 46 (cRPlay) :=
  ctr_of_vc (c := cRPlay) (fn := Try.f46) (X := fx_rplay) (n := 1) (fun _ => mkFx_all env_ok mixed_ok names_ok ks9_ok) Try.func46 (by kernel_rfl) (by kernel_rfl) (of_decide_eq_true (by kernel_rfl)) v_rplay
theorem ks10_ok : CtrsOk Try.prog ks10 := ⟨c_rplay, ks9_ok⟩
theorem v_plays (x : HL (cLawP : Ctr).as) (hp : (cLawP : Ctr).pre x) (hl : LensL (cLawP : Ctr).as x) : vc (fx_plays x) 1 12 Try.f12 (cLawP) x := by
  rw [E_plays_eq]
  exact e_plays x hp hl
theorem c_plays : CtrOk Try.prog 12 (cLawP) :=
  ctr_of_vc (c := cLawP) (fn := Try.f12) (X := fx_plays) (n := 1) (fun _ => mkFx_all env_ok mixed_ok names_ok ks10_ok) Try.func12 (by kernel_rfl) (by kernel_rfl) (of_decide_eq_true (by kernel_rfl)) v_plays
theorem ks11_ok : CtrsOk Try.prog ks11 := ⟨c_plays, ks10_ok⟩
theorem ksAll_ok : CtrsOk Try.prog ksAll := ks11_ok
end Go.Proofs.Ytmcepjbbbkgfcaa.Ringp
