/-
  Each function keeps its contract.
-/
import Derived.Test.YtmcepjbbbkgfcaaLinepP
namespace Go.Proofs.Ytmcepjbbbkgfcaa.Linep
open Go.Sx
set_option maxRecDepth 100000
attribute [local irreducible] vc

theorem ks0_ok : CtrsOk Try.prog ks0 := trivial
theorem names_ok : namesOk Try.prog = true := by kernel_rfl
theorem mixed_ok : Try.prog.follows .mixedOrders = true := by kernel_rfl
theorem v_eqp (x : HL (cEqP : Ctr).as) (hp : (cEqP : Ctr).pre x) (hl : LensL (cEqP : Ctr).as x) : vc (fx_eqp x) 1 30 Try.f30 (cEqP) x := by
  rw [E_eqp_eq]
  exact e_eqp x hp hl
theorem c_eqp : CtrOk Try.prog 30 (cEqP) :=
  ctr_of_vc (c := cEqP) (fn := Try.f30) (X := fx_eqp) (n := 1) (fun _ => mkFx_all env_ok mixed_ok names_ok ks0_ok) Try.func30 (by kernel_rfl) (by kernel_rfl) (of_decide_eq_true (by kernel_rfl)) v_eqp
theorem ks1_ok : CtrsOk Try.prog ks1 := ⟨c_eqp, ks0_ok⟩
theorem v_eqs (x : HL (cEqS : Ctr).as) (hp : (cEqS : Ctr).pre x) (hl : LensL (cEqS : Ctr).as x) : vc (fx_eqs x) 1 31 Try.f31 (cEqS) x := by
  rw [E_eqs_eq]
  exact e_eqs x hp hl
theorem c_eqs : CtrOk Try.prog 31 (cEqS) :=
  ctr_of_vc (c := cEqS) (fn := Try.f31) (X := fx_eqs) (n := 1) (fun _ => mkFx_all env_ok mixed_ok names_ok ks1_ok) Try.func31 (by kernel_rfl) (by kernel_rfl) (of_decide_eq_true (by kernel_rfl)) v_eqs
theorem ks2_ok : CtrsOk Try.prog ks2 := ⟨c_eqs, ks1_ok⟩
theorem v_clone (x : HL (cClone : Ctr).as) (hp : (cClone : Ctr).pre x) (hl : LensL (cClone : Ctr).as x) : vc (fx_clone x) 1 59 Try.f59 (cClone) x := by
  rw [E_clone_eq]
  exact e_clone x hp hl
theorem c_clone : CtrOk Try.prog 59 (cClone) :=
  ctr_of_vc (c := cClone) (fn := Try.f59) (X := fx_clone) (n := 1) (fun _ => mkFx_all env_ok mixed_ok names_ok ks2_ok) Try.func59 (by kernel_rfl) (by kernel_rfl) (of_decide_eq_true (by kernel_rfl)) v_clone
theorem ks3_ok : CtrsOk Try.prog ks3 := ⟨c_clone, ks2_ok⟩
theorem v_badp (x : HL (cBad : Ctr).as) (hp : (cBad : Ctr).pre x) (hl : LensL (cBad : Ctr).as x) : vc (fx_badp x) 1 62 Try.f62 (cBad) x := by
  rw [E_badp_eq]
  exact e_badp x hp hl
theorem c_badp : CtrOk Try.prog 62 (cBad) :=
  ctr_of_vc (c := cBad) (fn := Try.f62) (X := fx_badp) (n := 1) (fun _ => mkFx_all env_ok mixed_ok names_ok ks3_ok) Try.func62 (by kernel_rfl) (by kernel_rfl) (of_decide_eq_true (by kernel_rfl)) v_badp
theorem ks4_ok : CtrsOk Try.prog ks4 := ⟨c_badp, ks3_ok⟩
theorem v_right (x : HL (cRight : Ctr).as) (hp : (cRight : Ctr).pre x) (hl : LensL (cRight : Ctr).as x) : vc (fx_right x) 3 28 Try.f28 (cRight) x := by
  rw [E_right_eq]
  exact e_right x hp hl
theorem c_right : CtrOk Try.prog 28 (cRight) :=
  ctr_of_vc (c := cRight) (fn := Try.f28) (X := fx_right) (n := 3) (fun _ => mkFx_all env_ok mixed_ok names_ok ks4_ok) Try.func28 (by kernel_rfl) (by kernel_rfl) (of_decide_eq_true (by kernel_rfl)) v_right
theorem ks5_ok : CtrsOk Try.prog ks5 := ⟨c_right, ks4_ok⟩
theorem v_cright (x : HL (cRight : Ctr).as) (hp : (cRight : Ctr).pre x) (hl : LensL (cRight : Ctr).as x) : vc (fx_cright x) 1 27 Try.f27 (cRight) x := by
  rw [E_cright_eq]
  exact e_cright x hp hl
theorem c_cright : CtrOk Try.prog 27 (cRight) :=
  ctr_of_vc (c := cRight) (fn := Try.f27) (X := fx_cright) (n := 1) (fun _ => mkFx_all env_ok mixed_ok names_ok ks5_ok) Try.func27 (by kernel_rfl) (by kernel_rfl) (of_decide_eq_true (by kernel_rfl)) v_cright
theorem ks6_ok : CtrsOk Try.prog ks6 := ⟨c_cright, ks5_ok⟩
theorem v_cstep (x : HL (cCStep : Ctr).as) (hp : (cCStep : Ctr).pre x) (hl : LensL (cCStep : Ctr).as x) : vc (fx_cstep x) 1 63 Try.f63 (cCStep) x := by
  rw [E_cstep_eq]
  exact e_cstep x hp hl
theorem c_cstep : CtrOk Try.prog 63 (cCStep) :=
  ctr_of_vc (c := cCStep) (fn := Try.f63) (X := fx_cstep) (n := 1) (fun _ => mkFx_all env_ok mixed_ok names_ok ks6_ok) Try.func63 (by kernel_rfl) (by kernel_rfl) (of_decide_eq_true (by kernel_rfl)) v_cstep
theorem ks7_ok : CtrsOk Try.prog ks7 := ⟨c_cstep, ks6_ok⟩
theorem v_step (x : HL (cStep : Ctr).as) (hp : (cStep : Ctr).pre x) (hl : LensL (cStep : Ctr).as x) : vc (fx_step x) 2 26 Try.f26 (cStep) x := by
  rw [E_step_eq]
  exact e_step x hp hl
theorem c_step : CtrOk Try.prog 26 (cStep) :=
  ctr_of_vc (c := cStep) (fn := Try.f26) (X := fx_step) (n := 2) (fun _ => mkFx_all env_ok mixed_ok names_ok ks7_ok) Try.func26 (by kernel_rfl) (by kernel_rfl) (of_decide_eq_true (by kernel_rfl)) v_step
theorem ks8_ok : CtrsOk Try.prog ks8 := ⟨c_step, ks7_ok⟩
theorem v_cplay (x : HL (cCPlay : Ctr).as) (hp : (cCPlay : Ctr).pre x) (hl : LensL (cCPlay : Ctr).as x) : vc (fx_cplay x) 1 29 Try.f29 (cCPlay) x := by
  rw [E_cplay_eq]
  exact e_cplay x hp hl
theorem c_cplay : CtrOk Try.prog 29 (cCPlay) :=
  ctr_of_vc (c := cCPlay) (fn := Try.f29) (X := fx_cplay) (n := 1) (fun _ => mkFx_all env_ok mixed_ok names_ok ks8_ok) Try.func29 (by kernel_rfl) (by kernel_rfl) (of_decide_eq_true (by kernel_rfl)) v_cplay
theorem ks9_ok : CtrsOk Try.prog ks9 := ⟨c_cplay, ks8_ok⟩
theorem v_steps (x : HL (cLaw : Ctr).as) (hp : (cLaw : Ctr).pre x) (hl : LensL (cLaw : Ctr).as x) : vc (fx_steps x) 1 6 Try.f6 (cLaw) x := by
  rw [E_steps_eq]
  exact e_steps x hp hl
theorem c_steps : CtrOk Try.prog 6 (cLaw) :=
  ctr_of_vc (c := cLaw) (fn := Try.f6) (X := fx_steps) (n := 1) (fun _ => mkFx_all env_ok mixed_ok names_ok ks9_ok) Try.func6 (by kernel_rfl) (by kernel_rfl) (of_decide_eq_true (by kernel_rfl)) v_steps
theorem ks10_ok : CtrsOk Try.prog ks10 := ⟨c_steps, ks9_ok⟩
theorem v_play (x : HL (cPlay : Ctr).as) (hp : (cPlay : Ctr).pre x) (hl : LensL (cPlay : Ctr).as x) : vc (fx_play x) 1 39 Try.f39 (cPlay) x := by
  rw [E_play_eq]
  exact e_play x hp hl
theorem c_play : CtrOk Try.prog 39 (cPlay) :=
  ctr_of_vc (c := cPlay) (fn := Try.f39) (X := fx_play) (n := 1) (fun _ => mkFx_all env_ok mixed_ok names_ok ks10_ok) Try.func39 (by kernel_rfl) (by kernel_rfl) (of_decide_eq_true (by kernel_rfl)) v_play
theorem ks11_ok : CtrsOk Try.prog ks11 := ⟨c_play, ks10_ok⟩
theorem v_plays (x : HL (cLawP : Ctr).as) (hp : (cLawP : Ctr).pre x) (hl : LensL (cLawP : Ctr).as x) : vc (fx_plays x) 1 9 Try.f9 (cLawP) x := by
  rw [E_plays_eq]
  exact e_plays x hp hl
theorem c_plays : CtrOk Try.prog 9 (cLawP) :=
  ctr_of_vc (c := cLawP) (fn := Try.f9) (X := fx_plays) (n := 1) (fun _ => mkFx_all env_ok mixed_ok names_ok ks11_ok) Try.func9 (by kernel_rfl) (by kernel_rfl) (of_decide_eq_true (by kernel_rfl)) v_plays
theorem ks12_ok : CtrsOk Try.prog ks12 := ⟨c_plays, ks11_ok⟩
theorem ksAll_ok : CtrsOk Try.prog ksAll := ks12_ok
end Go.Proofs.Ytmcepjbbbkgfcaa.Linep
