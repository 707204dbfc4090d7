/-
  Each function keeps its contract.
-/
import Derived.Test.YtollphjlheabdaaNestP
namespace Go.Proofs.Ytollphjlheabdaa.Nest
open Go.Sx
set_option maxRecDepth 100000
attribute [local irreducible] vc

theorem ks0_ok : CtrsOk Try.prog ks0 := trivial
theorem names_ok : namesOk Try.prog = true := by kernel_rfl
theorem mixed_ok : Try.prog.follows .mixedOrders = true := by kernel_rfl
theorem v_clone (x : HL (cClone : Ctr).as) (hp : (cClone : Ctr).pre x) (hl : LensL (cClone : Ctr).as x) : vc (fx_clone x) 1 80 Try.f80 (cClone) x := by
  rw [E_clone_eq]
  exact e_clone x hp hl
theorem c_clone : CtrOk Try.prog 80 (cClone) :=
  ctr_of_vc (c := cClone) (fn := Try.f80) (X := fx_clone) (n := 1) (fun _ => mkFx_all env_ok mixed_ok names_ok ks0_ok) Try.func80 (by kernel_rfl) (by kernel_rfl) (of_decide_eq_true (by kernel_rfl)) v_clone
theorem ks1_ok : CtrsOk Try.prog ks1 := ⟨c_clone, ks0_ok⟩
theorem v_right (x : HL (cRight : Ctr).as) (hp : (cRight : Ctr).pre x) (hl : LensL (cRight : Ctr).as x) : vc (fx_right x) 1 60 Try.f60 (cRight) x := by
  rw [E_right_eq]
  exact e_right x hp hl
theorem c_right : CtrOk Try.prog 60 (cRight) :=
  ctr_of_vc (c := cRight) (fn := Try.f60) (X := fx_right) (n := 1) (fun _ => mkFx_all env_ok mixed_ok names_ok ks1_ok) Try.func60 (by kernel_rfl) (by kernel_rfl) (of_decide_eq_true (by kernel_rfl)) v_right
theorem ks2_ok : CtrsOk Try.prog ks2 := ⟨c_right, ks1_ok⟩
theorem v_gright (x : HL (cRight : Ctr).as) (hp : (cRight : Ctr).pre x) (hl : LensL (cRight : Ctr).as x) : vc (fx_gright x) 1 61 Try.f61 (cRight) x := by
  rw [E_gright_eq]
  exact e_gright x hp hl
theorem c_gright : CtrOk Try.prog 61 (cRight) :=
  ctr_of_vc (c := cRight) (fn := Try.f61) (X := fx_gright) (n := 1) (fun _ => mkFx_all env_ok mixed_ok names_ok ks2_ok) Try.func61 (by kernel_rfl) (by kernel_rfl) (of_decide_eq_true (by kernel_rfl)) v_gright
theorem ks3_ok : CtrsOk Try.prog ks3 := ⟨c_gright, ks2_ok⟩
theorem v_step (x : HL (cStep : Ctr).as) (hp : (cStep : Ctr).pre x) (hl : LensL (cStep : Ctr).as x) : vc (fx_step x) 1 56 Try.f56 (cStep) x := by
  rw [E_step_eq]
  exact e_step x hp hl
theorem c_step : CtrOk Try.prog 56 (cStep) :=
  ctr_of_vc (c := cStep) (fn := Try.f56) (X := fx_step) (n := 1) (fun _ => mkFx_all env_ok mixed_ok names_ok ks3_ok) Try.func56 (by kernel_rfl) (by kernel_rfl) (of_decide_eq_true (by kernel_rfl)) v_step
theorem ks4_ok : CtrsOk Try.prog ks4 := ⟨c_step, ks3_ok⟩
theorem v_gstep (x : HL (cStep : Ctr).as) (hp : (cStep : Ctr).pre x) (hl : LensL (cStep : Ctr).as x) : vc (fx_gstep x) 1 57 Try.f57 (cStep) x := by
  rw [E_gstep_eq]
  exact e_gstep x hp hl
theorem c_gstep : CtrOk Try.prog 57 (cStep) :=
  ctr_of_vc (c := cStep) (fn := Try.f57) (X := fx_gstep) (n := 1) (fun _ => mkFx_all env_ok mixed_ok names_ok ks4_ok) Try.func57 (by kernel_rfl) (by kernel_rfl) (of_decide_eq_true (by kernel_rfl)) v_gstep
theorem ks5_ok : CtrsOk Try.prog ks5 := ⟨c_gstep, ks4_ok⟩
theorem v_play (x : HL (cPlay : Ctr).as) (hp : (cPlay : Ctr).pre x) (hl : LensL (cPlay : Ctr).as x) : vc (fx_play x) 1 58 Try.f58 (cPlay) x := by
  rw [E_play_eq]
  exact e_play x hp hl
theorem c_play : CtrOk Try.prog 58 (cPlay) :=
  ctr_of_vc (c := cPlay) (fn := Try.f58) (X := fx_play) (n := 1) (fun _ => mkFx_all env_ok mixed_ok names_ok ks5_ok) Try.func58 (by kernel_rfl) (by kernel_rfl) (of_decide_eq_true (by kernel_rfl)) v_play
theorem ks6_ok : CtrsOk Try.prog ks6 := ⟨c_play, ks5_ok⟩
theorem v_gplay (x : HL (cPlay : Ctr).as) (hp : (cPlay : Ctr).pre x) (hl : LensL (cPlay : Ctr).as x) : vc (fx_gplay x) 1 59 Try.f59 (cPlay) x := by
  rw [E_gplay_eq]
  exact e_gplay x hp hl
theorem c_gplay : CtrOk Try.prog 59 (cPlay) :=
  ctr_of_vc (c := cPlay) (fn := Try.f59) (X := fx_gplay) (n := 1) (fun _ => mkFx_all env_ok mixed_ok names_ok ks6_ok) Try.func59 (by kernel_rfl) (by kernel_rfl) (of_decide_eq_true (by kernel_rfl)) v_gplay
theorem ks7_ok : CtrsOk Try.prog ks7 := ⟨c_gplay, ks6_ok⟩
theorem v_same (x : HL (cSame : Ctr).as) (hp : (cSame : Ctr).pre x) (hl : LensL (cSame : Ctr).as x) : vc (fx_same x) 1 62 Try.f62 (cSame) x := by
  rw [E_same_eq]
  exact e_same x hp hl
theorem c_same : CtrOk Try.prog 62 (cSame) :=
  ctr_of_vc (c := cSame) (fn := Try.f62) (X := fx_same) (n := 1) (fun _ => mkFx_all env_ok mixed_ok names_ok ks7_ok) Try.func62 (by kernel_rfl) (by kernel_rfl) (of_decide_eq_true (by kernel_rfl)) v_same
theorem ks8_ok : CtrsOk Try.prog ks8 := ⟨c_same, ks7_ok⟩
theorem v_equal (x : HL (cEqual : Ctr).as) (hp : (cEqual : Ctr).pre x) (hl : LensL (cEqual : Ctr).as x) : vc (fx_equal x) 1 63 Try.f63 (cEqual) x := by
  rw [E_equal_eq]
  exact e_equal x hp hl
theorem c_equal : CtrOk Try.prog 63 (cEqual) :=
  ctr_of_vc (c := cEqual) (fn := Try.f63) (X := fx_equal) (n := 1) (fun _ => mkFx_all env_ok mixed_ok names_ok ks8_ok) Try.func63 (by kernel_rfl) (by kernel_rfl) (of_decide_eq_true (by kernel_rfl)) v_equal
theorem ks9_ok : CtrsOk Try.prog ks9 := ⟨c_equal, ks8_ok⟩
theorem v_tells (x : HL (cLaw : Ctr).as) (hp : (cLaw : Ctr).pre x) (hl : LensL (cLaw : Ctr).as x) : vc (fx_tells x) 1 12 Try.f12 (cLaw) x := by
  rw [E_tells_eq]
  exact e_tells x hp hl
theorem c_tells : CtrOk Try.prog 12 (cLaw) :=
  ctr_of_vc (c := cLaw) (fn := Try.f12) (X := fx_tells) (n := 1) (fun _ => mkFx_all env_ok mixed_ok names_ok ks9_ok) Try.func12 (by kernel_rfl) (by kernel_rfl) (of_decide_eq_true (by kernel_rfl)) v_tells
theorem ks10_ok : CtrsOk Try.prog ks10 := ⟨c_tells, ks9_ok⟩
theorem ksAll_ok : CtrsOk Try.prog ksAll := ks10_ok
end Go.Proofs.Ytollphjlheabdaa.Nest
