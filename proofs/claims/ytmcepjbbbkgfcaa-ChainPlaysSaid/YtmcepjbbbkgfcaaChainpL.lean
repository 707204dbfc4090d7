/-
  Each function keeps its contract.
-/
import Derived.Test.YtmcepjbbbkgfcaaChainpP
namespace Go.Proofs.Ytmcepjbbbkgfcaa.Chainp
open Go.Sx
set_option maxRecDepth 100000
attribute [local irreducible] vc

theorem ks0_ok : CtrsOk Try.prog ks0 := trivial
theorem names_ok : namesOk Try.prog = true := by kernel_rfl
theorem mixed_ok : Try.prog.follows .mixedOrders = true := by kernel_rfl
theorem v_equal (x : HL (cEqual : Ctr).as) (hp : (cEqual : Ctr).pre x) (hl : LensL (cEqual : Ctr).as x) : vc (fx_equal x) 1 18 Try.f18 (cEqual) x := by
  rw [E_equal_eq]
  exact e_equal x hp hl
theorem c_equal : CtrOk Try.prog 18 (cEqual) :=
  ctr_of_vc (c := cEqual) (fn := Try.f18) (X := fx_equal) (n := 1) (fun _ => mkFx_all env_ok mixed_ok names_ok ks0_ok) Try.func18 (by kernel_rfl) (by kernel_rfl) (of_decide_eq_true (by kernel_rfl)) v_equal
theorem ks1_ok : CtrsOk Try.prog ks1 := ⟨c_equal, ks0_ok⟩
theorem v_eqh (x : HL (cEqH : Ctr).as) (hp : (cEqH : Ctr).pre x) (hl : LensL (cEqH : Ctr).as x) : vc (fx_eqh x) 1 17 Try.f17 (cEqH) x := by
  rw [E_eqh_eq]
  exact e_eqh x hp hl
theorem c_eqh : CtrOk Try.prog 17 (cEqH) :=
  ctr_of_vc (c := cEqH) (fn := Try.f17) (X := fx_eqh) (n := 1) (fun _ => mkFx_all env_ok mixed_ok names_ok ks1_ok) Try.func17 (by kernel_rfl) (by kernel_rfl) (of_decide_eq_true (by kernel_rfl)) v_eqh
theorem ks2_ok : CtrsOk Try.prog ks2 := ⟨c_eqh, ks1_ok⟩
theorem v_clone (x : HL (cClone : Ctr).as) (hp : (cClone : Ctr).pre x) (hl : LensL (cClone : Ctr).as x) : vc (fx_clone x) 1 49 Try.f49 (cClone) x := by
  rw [E_clone_eq]
  exact e_clone x hp hl
theorem c_clone : CtrOk Try.prog 49 (cClone) :=
  ctr_of_vc (c := cClone) (fn := Try.f49) (X := fx_clone) (n := 1) (fun _ => mkFx_all env_ok mixed_ok names_ok ks2_ok) Try.func49 (by kernel_rfl) (by kernel_rfl) (of_decide_eq_true (by kernel_rfl)) v_clone
theorem ks3_ok : CtrsOk Try.prog ks3 := ⟨c_clone, ks2_ok⟩
theorem v_badh (x : HL (cBad : Ctr).as) (hp : (cBad : Ctr).pre x) (hl : LensL (cBad : Ctr).as x) : vc (fx_badh x) 1 52 Try.f52 (cBad) x := by
  rw [E_badh_eq]
  exact e_badh x hp hl
theorem c_badh : CtrOk Try.prog 52 (cBad) :=
  ctr_of_vc (c := cBad) (fn := Try.f52) (X := fx_badh) (n := 1) (fun _ => mkFx_all env_ok mixed_ok names_ok ks3_ok) Try.func52 (by kernel_rfl) (by kernel_rfl) (of_decide_eq_true (by kernel_rfl)) v_badh
theorem ks4_ok : CtrsOk Try.prog ks4 := ⟨c_badh, ks3_ok⟩
theorem v_right (x : HL (cRight : Ctr).as) (hp : (cRight : Ctr).pre x) (hl : LensL (cRight : Ctr).as x) : vc (fx_right x) 3 15 Try.f15 (cRight) x := by
  rw [E_right_eq]
  exact e_right x hp hl
theorem c_right : CtrOk Try.prog 15 (cRight) :=
  ctr_of_vc (c := cRight) (fn := Try.f15) (X := fx_right) (n := 3) (fun _ => mkFx_all env_ok mixed_ok names_ok ks4_ok) Try.func15 (by kernel_rfl) (by kernel_rfl) (of_decide_eq_true (by kernel_rfl)) v_right
theorem ks5_ok : CtrsOk Try.prog ks5 := ⟨c_right, ks4_ok⟩
theorem v_iright (x : HL (cRight : Ctr).as) (hp : (cRight : Ctr).pre x) (hl : LensL (cRight : Ctr).as x) : vc (fx_iright x) 1 16 Try.f16 (cRight) x := by
  rw [E_iright_eq]
  exact e_iright x hp hl
theorem c_iright : CtrOk Try.prog 16 (cRight) :=
  ctr_of_vc (c := cRight) (fn := Try.f16) (X := fx_iright) (n := 1) (fun _ => mkFx_all env_ok mixed_ok names_ok ks5_ok) Try.func16 (by kernel_rfl) (by kernel_rfl) (of_decide_eq_true (by kernel_rfl)) v_iright
theorem ks6_ok : CtrsOk Try.prog ks6 := ⟨c_iright, ks5_ok⟩
theorem v_serve (x : HL (cServe : Ctr).as) (hp : (cServe : Ctr).pre x) (hl : LensL (cServe : Ctr).as x) : vc (fx_serve x) 2 13 Try.f13 (cServe) x := by
  rw [E_serve_eq]
  exact e_serve x hp hl
theorem c_serve : CtrOk Try.prog 13 (cServe) :=
  ctr_of_vc (c := cServe) (fn := Try.f13) (X := fx_serve) (n := 2) (fun _ => mkFx_all env_ok mixed_ok names_ok ks6_ok) Try.func13 (by kernel_rfl) (by kernel_rfl) (of_decide_eq_true (by kernel_rfl)) v_serve
theorem ks7_ok : CtrsOk Try.prog ks7 := ⟨c_serve, ks6_ok⟩
theorem v_iserve (x : HL (cServe : Ctr).as) (hp : (cServe : Ctr).pre x) (hl : LensL (cServe : Ctr).as x) : vc (fx_iserve x) 1 14 Try.f14 (cServe) x := by
  rw [E_iserve_eq]
  exact e_iserve x hp hl
theorem c_iserve : CtrOk Try.prog 14 (cServe) :=
  ctr_of_vc (c := cServe) (fn := Try.f14) (X := fx_iserve) (n := 1) (fun _ => mkFx_all env_ok mixed_ok names_ok ks7_ok) Try.func14 (by kernel_rfl) (by kernel_rfl) (of_decide_eq_true (by kernel_rfl)) v_iserve
theorem ks8_ok : CtrsOk Try.prog ks8 := ⟨c_iserve, ks7_ok⟩
theorem v_serves (x : HL (cLaw : Ctr).as) (hp : (cLaw : Ctr).pre x) (hl : LensL (cLaw : Ctr).as x) : vc (fx_serves x) 1 3 Try.f3 (cLaw) x := by
  rw [E_serves_eq]
  exact e_serves x hp hl
theorem c_serves : CtrOk Try.prog 3 (cLaw) :=
  ctr_of_vc (c := cLaw) (fn := Try.f3) (X := fx_serves) (n := 1) (fun _ => mkFx_all env_ok mixed_ok names_ok ks8_ok) Try.func3 (by kernel_rfl) (by kernel_rfl) (of_decide_eq_true (by kernel_rfl)) v_serves
theorem ks9_ok : CtrsOk Try.prog ks9 := ⟨c_serves, ks8_ok⟩
theorem v_cloned (x : HL (cCloneD : Ctr).as) (hp : (cCloneD : Ctr).pre x) (hl : LensL (cCloneD : Ctr).as x) : vc (fx_cloned x) 1 49 Try.f49 (cCloneD) x := by
  rw [E_cloned_eq]
  exact e_cloned x hp hl
theorem c_cloned : CtrOk Try.prog 49 (cCloneD) :=
  ctr_of_vc (c := cCloneD) (fn := Try.f49) (X := fx_cloned) (n := 1) (fun _ => mkFx_all env_ok mixed_ok names_ok ks9_ok) Try.func49 (by kernel_rfl) (by kernel_rfl) (of_decide_eq_true (by kernel_rfl)) v_cloned
theorem ks10_ok : CtrsOk Try.prog ks10 := ⟨c_cloned, ks9_ok⟩
theorem v_play (x : HL (cPlay : Ctr).as) (hp : (cPlay : Ctr).pre x) (hl : LensL (cPlay : Ctr).as x) : vc (fx_play x) 1 40 Try.f40 (cPlay) x := by
  rw [E_play_eq]
  exact e_play x hp hl
theorem c_play : CtrOk Try.prog 40 (cPlay) :=
  ctr_of_vc (c := cPlay) (fn := Try.f40) (X := fx_play) (n := 1) (fun _ => mkFx_all env_ok mixed_ok names_ok ks10_ok) Try.func40 (by kernel_rfl) (by kernel_rfl) (of_decide_eq_true (by kernel_rfl)) v_play
theorem ks11_ok : CtrsOk Try.prog ks11 := ⟨c_play, ks10_ok⟩
theorem v_iplay (x : HL (cIPlay : Ctr).as) (hp : (cIPlay : Ctr).pre x) (hl : LensL (cIPlay : Ctr).as x) : vc (fx_iplay x) 1 41 Try.f41 (cIPlay) x := by
  rw [E_iplay_eq]
  exact e_iplay x hp hl
theorem c_iplay : CtrOk Try.prog 41 (cIPlay) :=
  ctr_of_vc (c := cIPlay) (fn := Try.f41) (X := fx_iplay) (n := 1) (fun _ => mkFx_all env_ok mixed_ok names_ok ks11_ok) Try.func41 (by kernel_rfl) (by kernel_rfl) (of_decide_eq_true (by kernel_rfl)) v_iplay
theorem ks12_ok : CtrsOk Try.prog ks12 := ⟨c_iplay, ks11_ok⟩
theorem v_plays (x : HL (cLawP : Ctr).as) (hp : (cLawP : Ctr).pre x) (hl : LensL (cLawP : Ctr).as x) : vc (fx_plays x) 1 10 Try.f10 (cLawP) x := by
  rw [E_plays_eq]
  exact e_plays x hp hl
theorem c_plays : CtrOk Try.prog 10 (cLawP) :=
  ctr_of_vc (c := cLawP) (fn := Try.f10) (X := fx_plays) (n := 1) (fun _ => mkFx_all env_ok mixed_ok names_ok ks12_ok) Try.func10 (by kernel_rfl) (by kernel_rfl) (of_decide_eq_true (by kernel_rfl)) v_plays
theorem ks13_ok : CtrsOk Try.prog ks13 := ⟨c_plays, ks12_ok⟩
theorem ksAll_ok : CtrsOk Try.prog ksAll := ks13_ok
end Go.Proofs.Ytmcepjbbbkgfcaa.Chainp
