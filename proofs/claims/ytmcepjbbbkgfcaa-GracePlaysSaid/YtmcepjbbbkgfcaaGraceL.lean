/-
  Each function keeps its contract.
-/
import Derived.Test.YtmcepjbbbkgfcaaGraceP
namespace Go.Proofs.Ytmcepjbbbkgfcaa.Grace
open Go.Sx
set_option maxRecDepth 100000
attribute [local irreducible] vc

theorem ks0_ok : CtrsOk Try.prog ks0 := trivial
theorem names_ok : namesOk Try.prog = true := by kernel_rfl
theorem mixed_ok : Try.prog.follows .mixedOrders = true := by kernel_rfl
theorem v_equal (x : HL (cEqual : Ctr).as) (hp : (cEqual : Ctr).pre x) (hl : LensL (cEqual : Ctr).as x) : vc (fx_equal x) 1 18 Try.f18 (cEqual) x := by
  rw [E_equal_eq]
  exact e_equal x hp hl
theorem c_equal : CtrOk Try.prog 18 (cEqual) :=
  ctr_of_vc (c := cEqual) (fn := Try.f18) (X := fx_equal) (n := 1) (fun _ => mkFx_all env_ok mixed_ok names_ok ks0_ok) Try.func18 (by kernel_rfl) (by kernel_rfl) (of_decide_eq_true (by kernel_rfl)) v_equal
theorem ks1_ok : CtrsOk Try.prog ks1 := ⟨c_equal, ks0_ok⟩
theorem v_equale (x : HL (cEqual : Ctr).as) (hp : (cEqual : Ctr).pre x) (hl : LensL (cEqual : Ctr).as x) : vc (fx_equale x) 1 21 Try.f21 (cEqual) x := by
  rw [E_equale_eq]
  exact e_equale x hp hl
theorem c_equale : CtrOk Try.prog 21 (cEqual) :=
  ctr_of_vc (c := cEqual) (fn := Try.f21) (X := fx_equale) (n := 1) (fun _ => mkFx_all env_ok mixed_ok names_ok ks1_ok) Try.func21 (by kernel_rfl) (by kernel_rfl) (of_decide_eq_true (by kernel_rfl)) v_equale
theorem ks2_ok : CtrsOk Try.prog ks2 := ⟨c_equale, ks1_ok⟩
theorem v_play (x : HL (cPlay : Ctr).as) (hp : (cPlay : Ctr).pre x) (hl : LensL (cPlay : Ctr).as x) : vc (fx_play x) 3 19 Try.f19 (cPlay) x := by
  rw [E_play_eq]
  exact e_play x hp hl
theorem c_play : CtrOk Try.prog 19 (cPlay) :=
  ctr_of_vc (c := cPlay) (fn := Try.f19) (X := fx_play) (n := 3) (fun _ => mkFx_all env_ok mixed_ok names_ok ks2_ok) Try.func19 (by kernel_rfl) (by kernel_rfl) (of_decide_eq_true (by kernel_rfl)) v_play
theorem ks3_ok : CtrsOk Try.prog ks3 := ⟨c_play, ks2_ok⟩
theorem v_xplay (x : HL (cPlay : Ctr).as) (hp : (cPlay : Ctr).pre x) (hl : LensL (cPlay : Ctr).as x) : vc (fx_xplay x) 1 20 Try.f20 (cPlay) x := by
  rw [E_xplay_eq]
  exact e_xplay x hp hl
theorem c_xplay : CtrOk Try.prog 20 (cPlay) :=
  ctr_of_vc (c := cPlay) (fn := Try.f20) (X := fx_xplay) (n := 1) (fun _ => mkFx_all env_ok mixed_ok names_ok ks3_ok) Try.func20 (by kernel_rfl) (by kernel_rfl) (of_decide_eq_true (by kernel_rfl)) v_xplay
theorem ks4_ok : CtrsOk Try.prog ks4 := ⟨c_xplay, ks3_ok⟩
theorem v_plays (x : HL (cLaw : Ctr).as) (hp : (cLaw : Ctr).pre x) (hl : LensL (cLaw : Ctr).as x) : vc (fx_plays x) 1 4 Try.f4 (cLaw) x := by
  rw [E_plays_eq]
  exact e_plays x hp hl
theorem c_plays : CtrOk Try.prog 4 (cLaw) :=
  ctr_of_vc (c := cLaw) (fn := Try.f4) (X := fx_plays) (n := 1) (fun _ => mkFx_all env_ok mixed_ok names_ok ks4_ok) Try.func4 (by kernel_rfl) (by kernel_rfl) (of_decide_eq_true (by kernel_rfl)) v_plays
theorem ks5_ok : CtrsOk Try.prog ks5 := ⟨c_plays, ks4_ok⟩
theorem ksAll_ok : CtrsOk Try.prog ksAll := ks5_ok
end Go.Proofs.Ytmcepjbbbkgfcaa.Grace
