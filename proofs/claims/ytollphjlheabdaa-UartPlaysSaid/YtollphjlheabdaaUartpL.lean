/-
  Each function keeps its contract.
-/
import Derived.Test.YtollphjlheabdaaUartpP
namespace Go.Proofs.Ytollphjlheabdaa.Uartp
open Go.Sx
set_option maxRecDepth 100000
attribute [local irreducible] vc

theorem ks0_ok : CtrsOk Try.prog ks0 := trivial
theorem names_ok : namesOk Try.prog = true := by kernel_rfl
theorem mixed_ok : Try.prog.follows .mixedOrders = true := by kernel_rfl
theorem v_clone (x : HL (cClone : Ctr).as) (hp : (cClone : Ctr).pre x) (hl : LensL (cClone : Ctr).as x) : vc (fx_clone x) 1 70 Try.f70 (cClone) x := by
  rw [E_clone_eq]
  exact e_clone x hp hl
theorem c_clone : CtrOk Try.prog 70 (cClone) :=
  ctr_of_vc (c := cClone) (fn := Try.f70) (X := fx_clone) (n := 1) (fun _ => mkFx_all env_ok mixed_ok names_ok ks0_ok) Try.func70 (by kernel_rfl) (by kernel_rfl) (of_decide_eq_true (by kernel_rfl)) v_clone
theorem ks1_ok : CtrsOk Try.prog ks1 := ⟨c_clone, ks0_ok⟩
theorem v_right (x : HL (cRight : Ctr).as) (hp : (cRight : Ctr).pre x) (hl : LensL (cRight : Ctr).as x) : vc (fx_right x) 1 29 Try.f29 (cRight) x := by
  rw [E_right_eq]
  exact e_right x hp hl
theorem c_right : CtrOk Try.prog 29 (cRight) :=
  ctr_of_vc (c := cRight) (fn := Try.f29) (X := fx_right) (n := 1) (fun _ => mkFx_all env_ok mixed_ok names_ok ks1_ok) Try.func29 (by kernel_rfl) (by kernel_rfl) (of_decide_eq_true (by kernel_rfl)) v_right
theorem ks2_ok : CtrsOk Try.prog ks2 := ⟨c_right, ks1_ok⟩
theorem v_pright (x : HL (cRight : Ctr).as) (hp : (cRight : Ctr).pre x) (hl : LensL (cRight : Ctr).as x) : vc (fx_pright x) 1 30 Try.f30 (cRight) x := by
  rw [E_pright_eq]
  exact e_pright x hp hl
theorem c_pright : CtrOk Try.prog 30 (cRight) :=
  ctr_of_vc (c := cRight) (fn := Try.f30) (X := fx_pright) (n := 1) (fun _ => mkFx_all env_ok mixed_ok names_ok ks2_ok) Try.func30 (by kernel_rfl) (by kernel_rfl) (of_decide_eq_true (by kernel_rfl)) v_pright
theorem ks3_ok : CtrsOk Try.prog ks3 := ⟨c_pright, ks2_ok⟩
theorem v_step (x : HL (cStep : Ctr).as) (hp : (cStep : Ctr).pre x) (hl : LensL (cStep : Ctr).as x) : vc (fx_step x) 2 27 Try.f27 (cStep) x := by
  rw [E_step_eq]
  exact e_step x hp hl
theorem c_step : CtrOk Try.prog 27 (cStep) :=
  ctr_of_vc (c := cStep) (fn := Try.f27) (X := fx_step) (n := 2) (fun _ => mkFx_all env_ok mixed_ok names_ok ks3_ok) Try.func27 (by kernel_rfl) (by kernel_rfl) (of_decide_eq_true (by kernel_rfl)) v_step
theorem ks4_ok : CtrsOk Try.prog ks4 := ⟨c_step, ks3_ok⟩
theorem v_pstep (x : HL (cStep : Ctr).as) (hp : (cStep : Ctr).pre x) (hl : LensL (cStep : Ctr).as x) : vc (fx_pstep x) 1 28 Try.f28 (cStep) x := by
  rw [E_pstep_eq]
  exact e_pstep x hp hl
theorem c_pstep : CtrOk Try.prog 28 (cStep) :=
  ctr_of_vc (c := cStep) (fn := Try.f28) (X := fx_pstep) (n := 1) (fun _ => mkFx_all env_ok mixed_ok names_ok ks4_ok) Try.func28 (by kernel_rfl) (by kernel_rfl) (of_decide_eq_true (by kernel_rfl)) v_pstep
theorem ks5_ok : CtrsOk Try.prog ks5 := ⟨c_pstep, ks4_ok⟩
theorem v_same (x : HL (cSame : Ctr).as) (hp : (cSame : Ctr).pre x) (hl : LensL (cSame : Ctr).as x) : vc (fx_same x) 1 31 Try.f31 (cSame) x := by
  rw [E_same_eq]
  exact e_same x hp hl
theorem c_same : CtrOk Try.prog 31 (cSame) :=
  ctr_of_vc (c := cSame) (fn := Try.f31) (X := fx_same) (n := 1) (fun _ => mkFx_all env_ok mixed_ok names_ok ks5_ok) Try.func31 (by kernel_rfl) (by kernel_rfl) (of_decide_eq_true (by kernel_rfl)) v_same
theorem ks6_ok : CtrsOk Try.prog ks6 := ⟨c_same, ks5_ok⟩
theorem v_play (x : HL (cPlay : Ctr).as) (hp : (cPlay : Ctr).pre x) (hl : LensL (cPlay : Ctr).as x) : vc (fx_play x) 1 64 Try.f64 (cPlay) x := by
  rw [E_play_eq]
  exact e_play x hp hl
theorem c_play : CtrOk Try.prog 64 (cPlay) :=
  ctr_of_vc (c := cPlay) (fn := Try.f64) (X := fx_play) (n := 1) (fun _ => mkFx_all env_ok mixed_ok names_ok ks6_ok) Try.func64 (by kernel_rfl) (by kernel_rfl) (of_decide_eq_true (by kernel_rfl)) v_play
theorem ks7_ok : CtrsOk Try.prog ks7 := ⟨c_play, ks6_ok⟩
theorem v_pplay (x : HL (cPlay : Ctr).as) (hp : (cPlay : Ctr).pre x) (hl : LensL (cPlay : Ctr).as x) : vc (fx_pplay x) 1 65 Try.f65 (cPlay) x := by
  rw [E_pplay_eq]
  exact e_pplay x hp hl
theorem c_pplay : CtrOk Try.prog 65 (cPlay) :=
  ctr_of_vc (c := cPlay) (fn := Try.f65) (X := fx_pplay) (n := 1) (fun _ => mkFx_all env_ok mixed_ok names_ok ks7_ok) Try.func65 (by kernel_rfl) (by kernel_rfl) (of_decide_eq_true (by kernel_rfl)) v_pplay
theorem ks8_ok : CtrsOk Try.prog ks8 := ⟨c_pplay, ks7_ok⟩
theorem v_plays (x : HL (cLawP : Ctr).as) (hp : (cLawP : Ctr).pre x) (hl : LensL (cLawP : Ctr).as x) : vc (fx_plays x) 1 13 Try.f13 (cLawP) x := by
  rw [E_plays_eq]
  exact e_plays x hp hl
theorem c_plays : CtrOk Try.prog 13 (cLawP) :=
  ctr_of_vc (c := cLawP) (fn := Try.f13) (X := fx_plays) (n := 1) (fun _ => mkFx_all env_ok mixed_ok names_ok ks8_ok) Try.func13 (by kernel_rfl) (by kernel_rfl) (of_decide_eq_true (by kernel_rfl)) v_plays
theorem ks9_ok : CtrsOk Try.prog ks9 := ⟨c_plays, ks8_ok⟩
theorem ksAll_ok : CtrsOk Try.prog ksAll := ks9_ok
end Go.Proofs.Ytollphjlheabdaa.Uartp
