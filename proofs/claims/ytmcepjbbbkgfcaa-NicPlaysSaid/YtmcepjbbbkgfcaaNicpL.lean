/-
  Each function keeps its contract.
-/
import Derived.Test.YtmcepjbbbkgfcaaNicpP
namespace Go.Proofs.Ytmcepjbbbkgfcaa.Nicp
open Go.Sx
set_option maxRecDepth 100000
attribute [local irreducible] vc

theorem ks0_ok : CtrsOk Try.prog ks0 := trivial
theorem names_ok : namesOk Try.prog = true := by kernel_rfl
theorem mixed_ok : Try.prog.follows .mixedOrders = true := by kernel_rfl
theorem v_equal (x : HL (cEqual : Ctr).as) (hp : (cEqual : Ctr).pre x) (hl : LensL (cEqual : Ctr).as x) : vc (fx_equal x) 1 18 Try.f18 (cEqual) x := by
  rw [E_equal_eq]
  exact e_equal x hp hl
theorem c_equal : CtrOk Try.prog 18 (cEqual) :=
  ctr_of_vc (c := cEqual) (fn := Try.f18) (X := fx_equal) (n := 1) (fun _ => mkFx_all env_ok mixed_ok names_ok ks0_ok) Try.func18 (by kernel_rfl) (by kernel_rfl) (of_decide_eq_true (by kernel_rfl)) v_equal
theorem ks1_ok : CtrsOk Try.prog ks1 := ⟨c_equal, ks0_ok⟩
theorem v_clone (x : HL (cClone : Ctr).as) (hp : (cClone : Ctr).pre x) (hl : LensL (cClone : Ctr).as x) : vc (fx_clone x) 1 79 Try.f79 (cClone) x := by
  rw [E_clone_eq]
  exact e_clone x hp hl
theorem c_clone : CtrOk Try.prog 79 (cClone) :=
  ctr_of_vc (c := cClone) (fn := Try.f79) (X := fx_clone) (n := 1) (fun _ => mkFx_all env_ok mixed_ok names_ok ks1_ok) Try.func79 (by kernel_rfl) (by kernel_rfl) (of_decide_eq_true (by kernel_rfl)) v_clone
theorem ks2_ok : CtrsOk Try.prog ks2 := ⟨c_clone, ks1_ok⟩
theorem v_right (x : HL (cRight : Ctr).as) (hp : (cRight : Ctr).pre x) (hl : LensL (cRight : Ctr).as x) : vc (fx_right x) 1 78 Try.f78 (cRight) x := by
  rw [E_right_eq]
  exact e_right x hp hl
theorem c_right : CtrOk Try.prog 78 (cRight) :=
  ctr_of_vc (c := cRight) (fn := Try.f78) (X := fx_right) (n := 1) (fun _ => mkFx_all env_ok mixed_ok names_ok ks2_ok) Try.func78 (by kernel_rfl) (by kernel_rfl) (of_decide_eq_true (by kernel_rfl)) v_right
theorem ks3_ok : CtrsOk Try.prog ks3 := ⟨c_right, ks2_ok⟩
theorem v_tright (x : HL (cRight : Ctr).as) (hp : (cRight : Ctr).pre x) (hl : LensL (cRight : Ctr).as x) : vc (fx_tright x) 1 80 Try.f80 (cRight) x := by
  rw [E_tright_eq]
  exact e_tright x hp hl
theorem c_tright : CtrOk Try.prog 80 (cRight) :=
  ctr_of_vc (c := cRight) (fn := Try.f80) (X := fx_tright) (n := 1) (fun _ => mkFx_all env_ok mixed_ok names_ok ks3_ok) Try.func80 (by kernel_rfl) (by kernel_rfl) (of_decide_eq_true (by kernel_rfl)) v_tright
theorem ks4_ok : CtrsOk Try.prog ks4 := ⟨c_tright, ks3_ok⟩
theorem v_step (x : HL (cStep : Ctr).as) (hp : (cStep : Ctr).pre x) (hl : LensL (cStep : Ctr).as x) : vc (fx_step x) 2 64 Try.f64 (cStep) x := by
  rw [E_step_eq]
  exact e_step x hp hl
theorem c_step : CtrOk Try.prog 64 (cStep) :=
  ctr_of_vc (c := cStep) (fn := Try.f64) (X := fx_step) (n := 2) (fun _ => mkFx_all env_ok mixed_ok names_ok ks4_ok) Try.func64 (by kernel_rfl) (by kernel_rfl) (of_decide_eq_true (by kernel_rfl)) v_step
theorem ks5_ok : CtrsOk Try.prog ks5 := ⟨c_step, ks4_ok⟩
theorem v_tstep (x : HL (cStep : Ctr).as) (hp : (cStep : Ctr).pre x) (hl : LensL (cStep : Ctr).as x) : vc (fx_tstep x) 1 65 Try.f65 (cStep) x := by
  rw [E_tstep_eq]
  exact e_tstep x hp hl
theorem c_tstep : CtrOk Try.prog 65 (cStep) :=
  ctr_of_vc (c := cStep) (fn := Try.f65) (X := fx_tstep) (n := 1) (fun _ => mkFx_all env_ok mixed_ok names_ok ks5_ok) Try.func65 (by kernel_rfl) (by kernel_rfl) (of_decide_eq_true (by kernel_rfl)) v_tstep
theorem ks6_ok : CtrsOk Try.prog ks6 := ⟨c_tstep, ks5_ok⟩
theorem v_same (x : HL (cSame : Ctr).as) (hp : (cSame : Ctr).pre x) (hl : LensL (cSame : Ctr).as x) : vc (fx_same x) 1 35 Try.f35 (cSame) x := by
  rw [E_same_eq]
  exact e_same x hp hl
theorem c_same : CtrOk Try.prog 35 (cSame) :=
  ctr_of_vc (c := cSame) (fn := Try.f35) (X := fx_same) (n := 1) (fun _ => mkFx_all env_ok mixed_ok names_ok ks6_ok) Try.func35 (by kernel_rfl) (by kernel_rfl) (of_decide_eq_true (by kernel_rfl)) v_same
theorem ks7_ok : CtrsOk Try.prog ks7 := ⟨c_same, ks6_ok⟩
theorem v_new (x : HL (cNew : Ctr).as) (hp : (cNew : Ctr).pre x) (hl : LensL (cNew : Ctr).as x) : vc (fx_new x) 1 34 Try.f34 (cNew) x := by
  rw [E_new_eq]
  exact e_new x hp hl
theorem c_new : CtrOk Try.prog 34 (cNew) :=
  ctr_of_vc (c := cNew) (fn := Try.f34) (X := fx_new) (n := 1) (fun _ => mkFx_all env_ok mixed_ok names_ok ks7_ok) Try.func34 (by kernel_rfl) (by kernel_rfl) (of_decide_eq_true (by kernel_rfl)) v_new
theorem ks8_ok : CtrsOk Try.prog ks8 := ⟨c_new, ks7_ok⟩
theorem v_play (x : HL (cPlay : Ctr).as) (hp : (cPlay : Ctr).pre x) (hl : LensL (cPlay : Ctr).as x) : vc (fx_play x) 1 32 Try.f32 (cPlay) x := by
  rw [E_play_eq]
  exact e_play x hp hl
theorem c_play : CtrOk Try.prog 32 (cPlay) :=
  ctr_of_vc (c := cPlay) (fn := Try.f32) (X := fx_play) (n := 1) (fun _ => mkFx_all env_ok mixed_ok names_ok ks8_ok) Try.func32 (by kernel_rfl) (by kernel_rfl) (of_decide_eq_true (by kernel_rfl)) v_play
theorem ks9_ok : CtrsOk Try.prog ks9 := ⟨c_play, ks8_ok⟩
theorem v_tplay (x : HL (cPlay : Ctr).as) (hp : (cPlay : Ctr).pre x) (hl : LensL (cPlay : Ctr).as x) : vc (fx_tplay x) 1 33 Try.f33 (cPlay) x := by
  rw [E_tplay_eq]
  exact e_tplay x hp hl
theorem c_tplay : CtrOk Try.prog 33 (cPlay) :=
  ctr_of_vc (c := cPlay) (fn := Try.f33) (X := fx_tplay) (n := 1) (fun _ => mkFx_all env_ok mixed_ok names_ok ks9_ok) Try.func33 (by kernel_rfl) (by kernel_rfl) (of_decide_eq_true (by kernel_rfl)) v_tplay
theorem ks10_ok : CtrsOk Try.prog ks10 := ⟨c_tplay, ks9_ok⟩
theorem v_plays (x : HL (cLawP : Ctr).as) (hp : (cLawP : Ctr).pre x) (hl : LensL (cLawP : Ctr).as x) : vc (fx_plays x) 1 7 Try.f7 (cLawP) x := by
  rw [E_plays_eq]
  exact e_plays x hp hl
theorem c_plays : CtrOk Try.prog 7 (cLawP) :=
  ctr_of_vc (c := cLawP) (fn := Try.f7) (X := fx_plays) (n := 1) (fun _ => mkFx_all env_ok mixed_ok names_ok ks10_ok) Try.func7 (by kernel_rfl) (by kernel_rfl) (of_decide_eq_true (by kernel_rfl)) v_plays
theorem ks11_ok : CtrsOk Try.prog ks11 := ⟨c_plays, ks10_ok⟩
theorem ksAll_ok : CtrsOk Try.prog ksAll := ks11_ok
end Go.Proofs.Ytmcepjbbbkgfcaa.Nicp
