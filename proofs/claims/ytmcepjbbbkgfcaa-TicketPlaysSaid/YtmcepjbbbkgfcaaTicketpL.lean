/-
  Each function keeps its contract.
-/
import Derived.Test.YtmcepjbbbkgfcaaTicketpP
namespace Go.Proofs.Ytmcepjbbbkgfcaa.Ticketp
open Go.Sx
set_option maxRecDepth 100000
attribute [local irreducible] vc

theorem ks0_ok : CtrsOk Try.prog ks0 := trivial
theorem names_ok : namesOk Try.prog = true := by kernel_rfl
theorem mixed_ok : Try.prog.follows .mixedOrders = true := by kernel_rfl
theorem v_right (x : HL (cRight : Ctr).as) (hp : (cRight : Ctr).pre x) (hl : LensL (cRight : Ctr).as x) : vc (fx_right x) 1 86 Try.f86 (cRight) x := by
  rw [E_right_eq]
  exact e_right x hp hl
theorem c_right : CtrOk Try.prog 86 (cRight) :=
  ctr_of_vc (c := cRight) (fn := Try.f86) (X := fx_right) (n := 1) (fun _ => mkFx_all env_ok mixed_ok names_ok ks0_ok) Try.func86 (by kernel_rfl) (by kernel_rfl) (of_decide_eq_true (by kernel_rfl)) v_right
theorem ks1_ok : CtrsOk Try.prog ks1 := ⟨c_right, ks0_ok⟩
theorem v_fq (x : HL (cFq : Ctr).as) (hp : (cFq : Ctr).pre x) (hl : LensL (cFq : Ctr).as x) : vc (fx_fq x) 1 87 Try.f87 (cFq) x := by
  rw [E_fq_eq]
  exact e_fq x hp hl
theorem c_fq : CtrOk Try.prog 87 (cFq) :=
  ctr_of_vc (c := cFq) (fn := Try.f87) (X := fx_fq) (n := 1) (fun _ => mkFx_all env_ok mixed_ok names_ok ks1_ok) Try.func87 (by kernel_rfl) (by kernel_rfl) (of_decide_eq_true (by kernel_rfl)) v_fq
theorem ks2_ok : CtrsOk Try.prog ks2 := ⟨c_fq, ks1_ok⟩
theorem v_step (x : HL (cStep : Ctr).as) (hp : (cStep : Ctr).pre x) (hl : LensL (cStep : Ctr).as x) : vc (fx_step x) 2 68 Try.f68 (cStep) x := by
  rw [E_step_eq]
  exact e_step x hp hl
theorem c_step : CtrOk Try.prog 68 (cStep) :=
  ctr_of_vc (c := cStep) (fn := Try.f68) (X := fx_step) (n := 2) (fun _ => mkFx_all env_ok mixed_ok names_ok ks2_ok) Try.func68 (by kernel_rfl) (by kernel_rfl) (of_decide_eq_true (by kernel_rfl)) v_step
theorem ks3_ok : CtrsOk Try.prog ks3 := ⟨c_step, ks2_ok⟩
theorem v_fstep (x : HL (cStep : Ctr).as) (hp : (cStep : Ctr).pre x) (hl : LensL (cStep : Ctr).as x) : vc (fx_fstep x) 1 69 Try.f69 (cStep) x := by
  rw [E_fstep_eq]
  exact e_fstep x hp hl
theorem c_fstep : CtrOk Try.prog 69 (cStep) :=
  ctr_of_vc (c := cStep) (fn := Try.f69) (X := fx_fstep) (n := 1) (fun _ => mkFx_all env_ok mixed_ok names_ok ks3_ok) Try.func69 (by kernel_rfl) (by kernel_rfl) (of_decide_eq_true (by kernel_rfl)) v_fstep
theorem ks4_ok : CtrsOk Try.prog ks4 := ⟨c_fstep, ks3_ok⟩
theorem v_equal (x : HL (cEqual : Ctr).as) (hp : (cEqual : Ctr).pre x) (hl : LensL (cEqual : Ctr).as x) : vc (fx_equal x) 1 18 Try.f18 (cEqual) x := by
  rw [E_equal_eq]
  exact e_equal x hp hl
theorem c_equal : CtrOk Try.prog 18 (cEqual) :=
  ctr_of_vc (c := cEqual) (fn := Try.f18) (X := fx_equal) (n := 1) (fun _ => mkFx_all env_ok mixed_ok names_ok ks4_ok) Try.func18 (by kernel_rfl) (by kernel_rfl) (of_decide_eq_true (by kernel_rfl)) v_equal
theorem ks5_ok : CtrsOk Try.prog ks5 := ⟨c_equal, ks4_ok⟩
theorem v_new (x : HL (cNew : Ctr).as) (hp : (cNew : Ctr).pre x) (hl : LensL (cNew : Ctr).as x) : vc (fx_new x) 1 44 Try.f44 (cNew) x := by
  rw [E_new_eq]
  exact e_new x hp hl
theorem c_new : CtrOk Try.prog 44 (cNew) :=
  ctr_of_vc (c := cNew) (fn := Try.f44) (X := fx_new) (n := 1) (fun _ => mkFx_all env_ok mixed_ok names_ok ks5_ok) Try.func44 (by kernel_rfl) (by kernel_rfl) (of_decide_eq_true (by kernel_rfl)) v_new
theorem ks6_ok : CtrsOk Try.prog ks6 := ⟨c_new, ks5_ok⟩
theorem v_play (x : HL (cPlay : Ctr).as) (hp : (cPlay : Ctr).pre x) (hl : LensL (cPlay : Ctr).as x) : vc (fx_play x) 1 42 Try.f42 (cPlay) x := by
  rw [E_play_eq]
  exact e_play x hp hl
theorem c_play : CtrOk Try.prog 42 (cPlay) :=
  ctr_of_vc (c := cPlay) (fn := Try.f42) (X := fx_play) (n := 1) (fun _ => mkFx_all env_ok mixed_ok names_ok ks6_ok) Try.func42 (by kernel_rfl) (by kernel_rfl) (of_decide_eq_true (by kernel_rfl)) v_play
theorem ks7_ok : CtrsOk Try.prog ks7 := ⟨c_play, ks6_ok⟩
theorem v_fplay (x : HL (cPlay : Ctr).as) (hp : (cPlay : Ctr).pre x) (hl : LensL (cPlay : Ctr).as x) : vc (fx_fplay x) 1 43 Try.f43 (cPlay) x := by
  rw [E_fplay_eq]
  exact e_fplay x hp hl
theorem c_fplay : CtrOk Try.prog 43 (cPlay) :=
  ctr_of_vc (c := cPlay) (fn := Try.f43) (X := fx_fplay) (n := 1) (fun _ => mkFx_all env_ok mixed_ok names_ok ks7_ok) Try.func43 (by kernel_rfl) (by kernel_rfl) (of_decide_eq_true (by kernel_rfl)) v_fplay
theorem ks8_ok : CtrsOk Try.prog ks8 := ⟨c_fplay, ks7_ok⟩
theorem v_plays (x : HL (cLawP : Ctr).as) (hp : (cLawP : Ctr).pre x) (hl : LensL (cLawP : Ctr).as x) : vc (fx_plays x) 1 11 Try.f11 (cLawP) x := by
  rw [E_plays_eq]
  exact e_plays x hp hl
theorem c_plays : CtrOk Try.prog 11 (cLawP) :=
  ctr_of_vc (c := cLawP) (fn := Try.f11) (X := fx_plays) (n := 1) (fun _ => mkFx_all env_ok mixed_ok names_ok ks8_ok) Try.func11 (by kernel_rfl) (by kernel_rfl) (of_decide_eq_true (by kernel_rfl)) v_plays
theorem ks9_ok : CtrsOk Try.prog ks9 := ⟨c_plays, ks8_ok⟩
theorem ksAll_ok : CtrsOk Try.prog ksAll := ks9_ok
end Go.Proofs.Ytmcepjbbbkgfcaa.Ticketp
