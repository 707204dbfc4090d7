/-
  Each function keeps its contract.
-/
import Derived.Test.YtpmfgdedkmddlaaRunqP6
import Derived.Test.YtpmfgdedkmddlaaRunqH0
import Derived.Test.YtpmfgdedkmddlaaRunqH1
import Derived.Test.YtpmfgdedkmddlaaRunqH3
import Derived.Test.YtpmfgdedkmddlaaRunqH4
import Derived.Test.YtpmfgdedkmddlaaRunqH7
import Derived.Test.YtpmfgdedkmddlaaRunqH9
import Derived.Test.YtpmfgdedkmddlaaRunqHA
namespace Go.Proofs.Ytpmfgdedkmddlaa.Runq
open Go.Sx
set_option maxRecDepth 100000
attribute [local irreducible] vc vcPr

theorem kf0_ok : CtrsOkF Try.prog kf0 := trivial
theorem ps0_ok : PrcsOk Try.prog ps0 := trivial
theorem knAll_ok : CtrsOkN Try.prog knAll := trivial
theorem poAll_ok : PosOk Try.prog poAll := ⟨c_ins, c_inso, trivial⟩
theorem kcAll_ok : CtrsOkC Try.prog kcAll := trivial
theorem ks0_ok : CtrsOk Try.prog ks0 := trivial
theorem names_ok : namesOk Try.prog = true := by kernel_rfl
theorem mixed_ok : Try.prog.follows .mixedOrders = true := by kernel_rfl
theorem ps1_ok : PrcsOk Try.prog ps1 := ps0_ok
theorem kf1_ok : CtrsOkF Try.prog kf1 := kf0_ok
theorem ks1_ok : CtrsOk Try.prog ks1 := ⟨c_len, ks0_ok⟩
theorem ps2_ok : PrcsOk Try.prog ps2 := ps1_ok
theorem v_equal (x : HL (cEqual : Ctr).as) (hp : (cEqual : Ctr).pre x) (hl : LensL (cEqual : Ctr).as x) : vc (fx_equal x) 1 10 Try.f10 (cEqual) x := by
  rw [E_equal_eq]
  exact e_equal x hp hl
theorem kf2_ok : CtrsOkF Try.prog kf2 := kf1_ok
theorem c_equal : CtrOk Try.prog 10 (cEqual) :=
  ctr_of_vc (c := cEqual) (fn := Try.f10) (X := fx_equal) (n := 1) (fun _ => mkFxO_all env_ok mixed_ok names_ok ks1_ok kf1_ok ps1_ok poAll_ok knAll_ok kcAll_ok) Try.func10 (by kernel_rfl) (by kernel_rfl) (of_decide_eq_true (by kernel_rfl)) v_equal
theorem ks2_ok : CtrsOk Try.prog ks2 := ⟨c_equal, ks1_ok⟩
theorem ps3_ok : PrcsOk Try.prog ps3 := ps2_ok
theorem v_equali (x : HL (cEqual : Ctr).as) (hp : (cEqual : Ctr).pre x) (hl : LensL (cEqual : Ctr).as x) : vc (fx_equali x) 1 11 Try.f11 (cEqual) x := by
  rw [E_equali_eq]
  exact e_equali x hp hl
theorem kf3_ok : CtrsOkF Try.prog kf3 := kf2_ok
theorem c_equali : CtrOk Try.prog 11 (cEqual) :=
  ctr_of_vc (c := cEqual) (fn := Try.f11) (X := fx_equali) (n := 1) (fun _ => mkFxO_all env_ok mixed_ok names_ok ks2_ok kf2_ok ps2_ok poAll_ok knAll_ok kcAll_ok) Try.func11 (by kernel_rfl) (by kernel_rfl) (of_decide_eq_true (by kernel_rfl)) v_equali
theorem ks3_ok : CtrsOk Try.prog ks3 := ⟨c_equali, ks2_ok⟩
theorem ps4_ok : PrcsOk Try.prog ps4 := ps3_ok
theorem v_index (x : HL (cIndex : Ctr).as) (hp : (cIndex : Ctr).pre x) (hl : LensL (cIndex : Ctr).as x) : vc (fx_index x) 1 61 Try.f61 (cIndex) x := by
  rw [E_index_eq]
  exact e_index x hp hl
theorem kf4_ok : CtrsOkF Try.prog kf4 := kf3_ok
theorem c_index : CtrOk Try.prog 61 (cIndex) :=
  ctr_of_vc (c := cIndex) (fn := Try.f61) (X := fx_index) (n := 1) (fun _ => mkFxO_all env_ok mixed_ok names_ok ks3_ok kf3_ok ps3_ok poAll_ok knAll_ok kcAll_ok) Try.func61 (by kernel_rfl) (by kernel_rfl) (of_decide_eq_true (by kernel_rfl)) v_index
theorem ks4_ok : CtrsOk Try.prog ks4 := ⟨c_index, ks3_ok⟩
theorem ps5_ok : PrcsOk Try.prog ps5 := ps4_ok
theorem v_clone (x : HL (cCloneP : Ctr).as) (hp : (cCloneP : Ctr).pre x) (hl : LensL (cCloneP : Ctr).as x) : vc (fx_clone x) 1 37 Try.f37 (cCloneP) x := by
  rw [E_clone_eq]
  exact e_clone x hp hl
theorem kf5_ok : CtrsOkF Try.prog kf5 := kf4_ok
theorem c_clone : CtrOk Try.prog 37 (cCloneP) :=
  ctr_of_vc (c := cCloneP) (fn := Try.f37) (X := fx_clone) (n := 1) (fun _ => mkFxO_all env_ok mixed_ok names_ok ks4_ok kf4_ok ps4_ok poAll_ok knAll_ok kcAll_ok) Try.func37 (by kernel_rfl) (by kernel_rfl) (of_decide_eq_true (by kernel_rfl)) v_clone
theorem ks5_ok : CtrsOk Try.prog ks5 := ⟨c_clone, ks4_ok⟩
theorem v_idx (x : (pIdx : Prc).G) (hp : (pIdx : Prc).pre x) (hl : (pIdx : Prc).lens x) : vcPr (fx_idx x) 1 33 Try.f33 (pIdx) x := by
  rw [E_idx_eq]
  exact e_idx x hp hl
theorem c_idx : PrcOk Try.prog 33 (pIdx) :=
  prc_of_vc (p := pIdx) (fn := Try.f33) (X := fx_idx) (n := 1) (fun _ => mkFxO_all env_ok mixed_ok names_ok ks5_ok kf5_ok ps5_ok poAll_ok knAll_ok kcAll_ok) Try.func33 (by kernel_rfl) (by kernel_rfl) v_idx
theorem ks6_ok : CtrsOk Try.prog ks6 := ks5_ok
theorem kf6_ok : CtrsOkF Try.prog kf6 := kf5_ok
theorem ps6_ok : PrcsOk Try.prog ps6 := ⟨c_idx, ps5_ok⟩
theorem ps7_ok : PrcsOk Try.prog ps7 := ps6_ok
theorem v_mplay (x : HL (cPlay : Ctr).as) (hp : (cPlay : Ctr).pre x) (hl : LensL (cPlay : Ctr).as x) : vc (fx_mplay x) 3 16 Try.f16 (cPlay) x := by
  rw [E_mplay_eq]
  exact e_mplay x hp hl
theorem kf7_ok : CtrsOkF Try.prog kf7 := kf6_ok
theorem c_mplay : CtrOk Try.prog 16 (cPlay) :=
  ctr_of_vc (c := cPlay) (fn := Try.f16) (X := fx_mplay) (n := 3) (fun _ => mkFxO_all env_ok mixed_ok names_ok ks6_ok kf6_ok ps6_ok poAll_ok knAll_ok kcAll_ok) Try.func16 (by kernel_rfl) (by kernel_rfl) (of_decide_eq_true (by kernel_rfl)) v_mplay
theorem ks7_ok : CtrsOk Try.prog ks7 := ⟨c_mplay, ks6_ok⟩
theorem ps8_ok : PrcsOk Try.prog ps8 := ps7_ok
theorem v_play (x : HL (cPlay : Ctr).as) (hp : (cPlay : Ctr).pre x) (hl : LensL (cPlay : Ctr).as x) : vc (fx_play x) 4 15 Try.f15 (cPlay) x := by
  rw [E_play_eq]
  exact e_play x hp hl
theorem kf8_ok : CtrsOkF Try.prog kf8 := kf7_ok
theorem c_play : CtrOk Try.prog 15 (cPlay) :=
  ctr_of_vc (c := cPlay) (fn := Try.f15) (X := fx_play) (n := 4) (fun _ => mkFxO_all env_ok mixed_ok names_ok ks7_ok kf7_ok ps7_ok poAll_ok knAll_ok kcAll_ok) Try.func15 (by kernel_rfl) (by kernel_rfl) (of_decide_eq_true (by kernel_rfl)) v_play
theorem ks8_ok : CtrsOk Try.prog ks8 := ⟨c_play, ks7_ok⟩
theorem ps9_ok : PrcsOk Try.prog ps9 := ps8_ok
theorem v_law (x : HL (cLaw : Ctr).as) (hp : (cLaw : Ctr).pre x) (hl : LensL (cLaw : Ctr).as x) : vc (fx_law x) 1 5 Try.f5 (cLaw) x := by
  rw [E_law_eq]
  exact e_law x hp hl
theorem kf9_ok : CtrsOkF Try.prog kf9 := kf8_ok
theorem c_law : CtrOk Try.prog 5 (cLaw) :=
  ctr_of_vc (c := cLaw) (fn := Try.f5) (X := fx_law) (n := 1) (fun _ => mkFxO_all env_ok mixed_ok names_ok ks8_ok kf8_ok ps8_ok poAll_ok knAll_ok kcAll_ok) Try.func5 (by kernel_rfl) (by kernel_rfl) (of_decide_eq_true (by kernel_rfl)) v_law
theorem ks9_ok : CtrsOk Try.prog ks9 := ⟨c_law, ks8_ok⟩
theorem ksAll_ok : CtrsOk Try.prog ksAll := ks9_ok
end Go.Proofs.Ytpmfgdedkmddlaa.Runq
