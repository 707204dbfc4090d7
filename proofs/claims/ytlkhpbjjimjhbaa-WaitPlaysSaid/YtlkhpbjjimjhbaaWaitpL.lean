/-
  Each function keeps its contract.
-/
import Derived.Test.YtlkhpbjjimjhbaaWaitpP2
namespace Go.Proofs.Ytlkhpbjjimjhbaa.Waitp
open Go.Sx
set_option maxRecDepth 100000
attribute [local irreducible] vc

theorem ks0_ok : CtrsOk Try.prog ks0 := trivial
theorem names_ok : namesOk Try.prog = true := by kernel_rfl
theorem mixed_ok : Try.prog.follows .mixedOrders = true := by kernel_rfl
theorem v_index (x : HL (cIndex : Ctr).as) (hp : (cIndex : Ctr).pre x) (hl : LensL (cIndex : Ctr).as x) : vc (fx_index x) 1 50 Try.f50 (cIndex) x := by
  rw [E_index_eq]
  exact e_index x hp hl
theorem c_index : CtrOk Try.prog 50 (cIndex) :=
  ctr_of_vc (c := cIndex) (fn := Try.f50) (X := fx_index) (n := 1) (fun _ => mkFx_all env_ok mixed_ok names_ok ks0_ok) Try.func50 (by kernel_rfl) (by kernel_rfl) (of_decide_eq_true (by kernel_rfl)) v_index
theorem ks1_ok : CtrsOk Try.prog ks1 := ⟨c_index, ks0_ok⟩
theorem v_contains (x : HL (cContains : Ctr).as) (hp : (cContains : Ctr).pre x) (hl : LensL (cContains : Ctr).as x) : vc (fx_contains x) 1 79 Try.f79 (cContains) x := by
  rw [E_contains_eq]
  exact e_contains x hp hl
theorem c_contains : CtrOk Try.prog 79 (cContains) :=
  ctr_of_vc (c := cContains) (fn := Try.f79) (X := fx_contains) (n := 1) (fun _ => mkFx_all env_ok mixed_ok names_ok ks1_ok) Try.func79 (by kernel_rfl) (by kernel_rfl) (of_decide_eq_true (by kernel_rfl)) v_contains
theorem ks2_ok : CtrsOk Try.prog ks2 := ⟨c_contains, ks1_ok⟩
theorem v_clone (x : HL (cClone : Ctr).as) (hp : (cClone : Ctr).pre x) (hl : LensL (cClone : Ctr).as x) : vc (fx_clone x) 1 49 Try.f49 (cClone) x := by
  rw [E_clone_eq]
  exact e_clone x hp hl
theorem c_clone : CtrOk Try.prog 49 (cClone) :=
  ctr_of_vc (c := cClone) (fn := Try.f49) (X := fx_clone) (n := 1) (fun _ => mkFx_all env_ok mixed_ok names_ok ks2_ok) Try.func49 (by kernel_rfl) (by kernel_rfl) (of_decide_eq_true (by kernel_rfl)) v_clone
theorem ks3_ok : CtrsOk Try.prog ks3 := ⟨c_clone, ks2_ok⟩
theorem v_equal (x : HL (cEqual : Ctr).as) (hp : (cEqual : Ctr).pre x) (hl : LensL (cEqual : Ctr).as x) : vc (fx_equal x) 1 17 Try.f17 (cEqual) x := by
  rw [E_equal_eq]
  exact e_equal x hp hl
theorem c_equal : CtrOk Try.prog 17 (cEqual) :=
  ctr_of_vc (c := cEqual) (fn := Try.f17) (X := fx_equal) (n := 1) (fun _ => mkFx_all env_ok mixed_ok names_ok ks3_ok) Try.func17 (by kernel_rfl) (by kernel_rfl) (of_decide_eq_true (by kernel_rfl)) v_equal
theorem ks4_ok : CtrsOk Try.prog ks4 := ⟨c_equal, ks3_ok⟩
theorem v_equali (x : HL (cEqual : Ctr).as) (hp : (cEqual : Ctr).pre x) (hl : LensL (cEqual : Ctr).as x) : vc (fx_equali x) 1 18 Try.f18 (cEqual) x := by
  rw [E_equali_eq]
  exact e_equali x hp hl
theorem c_equali : CtrOk Try.prog 18 (cEqual) :=
  ctr_of_vc (c := cEqual) (fn := Try.f18) (X := fx_equali) (n := 1) (fun _ => mkFx_all env_ok mixed_ok names_ok ks4_ok) Try.func18 (by kernel_rfl) (by kernel_rfl) (of_decide_eq_true (by kernel_rfl)) v_equali
theorem ks5_ok : CtrsOk Try.prog ks5 := ⟨c_equali, ks4_ok⟩
theorem v_play (x : HL (cPlay : Ctr).as) (hp : (cPlay : Ctr).pre x) (hl : LensL (cPlay : Ctr).as x) : vc (fx_play x) 6 30 Try.f30 (cPlay) x := by
  rw [E_play_eq]
  exact e_play x hp hl
theorem c_play : CtrOk Try.prog 30 (cPlay) :=
  ctr_of_vc (c := cPlay) (fn := Try.f30) (X := fx_play) (n := 6) (fun _ => mkFx_all env_ok mixed_ok names_ok ks5_ok) Try.func30 (by kernel_rfl) (by kernel_rfl) (of_decide_eq_true (by kernel_rfl)) v_play
theorem ks6_ok : CtrsOk Try.prog ks6 := ⟨c_play, ks5_ok⟩
theorem v_oplay (x : HL (cPlay : Ctr).as) (hp : (cPlay : Ctr).pre x) (hl : LensL (cPlay : Ctr).as x) : vc (fx_oplay x) 2 31 Try.f31 (cPlay) x := by
  rw [E_oplay_eq]
  exact e_oplay x hp hl
theorem c_oplay : CtrOk Try.prog 31 (cPlay) :=
  ctr_of_vc (c := cPlay) (fn := Try.f31) (X := fx_oplay) (n := 2) (fun _ => mkFx_all env_ok mixed_ok names_ok ks6_ok) Try.func31 (by kernel_rfl) (by kernel_rfl) (of_decide_eq_true (by kernel_rfl)) v_oplay
theorem ks7_ok : CtrsOk Try.prog ks7 := ⟨c_oplay, ks6_ok⟩
theorem v_plays (x : HL (cLaw : Ctr).as) (hp : (cLaw : Ctr).pre x) (hl : LensL (cLaw : Ctr).as x) : vc (fx_plays x) 1 8 Try.f8 (cLaw) x := by
  rw [E_plays_eq]
  exact e_plays x hp hl
theorem c_plays : CtrOk Try.prog 8 (cLaw) :=
  ctr_of_vc (c := cLaw) (fn := Try.f8) (X := fx_plays) (n := 1) (fun _ => mkFx_all env_ok mixed_ok names_ok ks7_ok) Try.func8 (by kernel_rfl) (by kernel_rfl) (of_decide_eq_true (by kernel_rfl)) v_plays
theorem ks8_ok : CtrsOk Try.prog ks8 := ⟨c_plays, ks7_ok⟩
theorem ksAll_ok : CtrsOk Try.prog ksAll := ks8_ok
end Go.Proofs.Ytlkhpbjjimjhbaa.Waitp
