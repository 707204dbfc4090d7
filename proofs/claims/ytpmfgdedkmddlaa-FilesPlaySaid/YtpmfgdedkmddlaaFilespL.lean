/-
  Each function keeps its contract.
-/
import Derived.Test.YtpmfgdedkmddlaaFilespP4
namespace Go.Proofs.Ytpmfgdedkmddlaa.Filesp
open Go.Sx
set_option maxRecDepth 100000
attribute [local irreducible] vc vcPr

theorem kf0_ok : CtrsOkF Try.prog kf0 := trivial
theorem ps0_ok : PrcsOk Try.prog ps0 := trivial
theorem ks0_ok : CtrsOk Try.prog ks0 := trivial
theorem names_ok : namesOk Try.prog = true := by kernel_rfl
theorem mixed_ok : Try.prog.follows .mixedOrders = true := by kernel_rfl
theorem ps1_ok : PrcsOk Try.prog ps1 := ps0_ok
theorem v_equal (x : HL (cEqual : Ctr).as) (hp : (cEqual : Ctr).pre x) (hl : LensL (cEqual : Ctr).as x) : vc (fx_equal x) 1 14 Try.f14 (cEqual) x := by
  rw [E_equal_eq]
  exact e_equal x hp hl
theorem kf1_ok : CtrsOkF Try.prog kf1 := kf0_ok
theorem c_equal : CtrOk Try.prog 14 (cEqual) :=
  ctr_of_vc (c := cEqual) (fn := Try.f14) (X := fx_equal) (n := 1) (fun _ => mkFxG_all env_ok mixed_ok names_ok ks0_ok kf0_ok ps0_ok) Try.func14 (by kernel_rfl) (by kernel_rfl) (of_decide_eq_true (by kernel_rfl)) v_equal
theorem ks1_ok : CtrsOk Try.prog ks1 := ⟨c_equal, ks0_ok⟩
theorem v_least (x : (pLeast : Prc).G) (hp : (pLeast : Prc).pre x) (hl : (pLeast : Prc).lens x) : vcPr (fx_least x) 1 50 Try.f50 (pLeast) x := by
  rw [E_least_eq]
  exact e_least x hp hl
theorem c_least : PrcOk Try.prog 50 (pLeast) :=
  prc_of_vc (p := pLeast) (fn := Try.f50) (X := fx_least) (n := 1) (fun _ => mkFxG_all env_ok mixed_ok names_ok ks1_ok kf1_ok ps1_ok) Try.func50 (by kernel_rfl) (by kernel_rfl) v_least
theorem ks2_ok : CtrsOk Try.prog ks2 := ks1_ok
theorem kf2_ok : CtrsOkF Try.prog kf2 := kf1_ok
theorem ps2_ok : PrcsOk Try.prog ps2 := ⟨c_least, ps1_ok⟩
theorem v_set (x : (pSet : Prc).G) (hp : (pSet : Prc).pre x) (hl : (pSet : Prc).lens x) : vcPr (fx_set x) 1 51 Try.f51 (pSet) x := by
  rw [E_set_eq]
  exact e_set x hp hl
theorem c_set : PrcOk Try.prog 51 (pSet) :=
  prc_of_vc (p := pSet) (fn := Try.f51) (X := fx_set) (n := 1) (fun _ => mkFxG_all env_ok mixed_ok names_ok ks2_ok kf2_ok ps2_ok) Try.func51 (by kernel_rfl) (by kernel_rfl) v_set
theorem ks3_ok : CtrsOk Try.prog ks3 := ks2_ok
theorem kf3_ok : CtrsOkF Try.prog kf3 := kf2_ok
theorem ps3_ok : PrcsOk Try.prog ps3 := ⟨c_set, ps2_ok⟩
theorem v_drop (x : (pDrop : Prc).G) (hp : (pDrop : Prc).pre x) (hl : (pDrop : Prc).lens x) : vcPr (fx_drop x) 1 52 Try.f52 (pDrop) x := by
  rw [E_drop_eq]
  exact e_drop x hp hl
theorem c_drop : PrcOk Try.prog 52 (pDrop) :=
  prc_of_vc (p := pDrop) (fn := Try.f52) (X := fx_drop) (n := 1) (fun _ => mkFxG_all env_ok mixed_ok names_ok ks3_ok kf3_ok ps3_ok) Try.func52 (by kernel_rfl) (by kernel_rfl) v_drop
theorem ks4_ok : CtrsOk Try.prog ks4 := ks3_ok
theorem kf4_ok : CtrsOkF Try.prog kf4 := kf3_ok
theorem ps4_ok : PrcsOk Try.prog ps4 := ⟨c_drop, ps3_ok⟩
theorem ps5_ok : PrcsOk Try.prog ps5 := ps4_ok
theorem v_play (x : HL (cPlay : Ctr).as) (hp : (cPlay : Ctr).pre x) (hl : LensL (cPlay : Ctr).as x) : vc (fx_play x) 4 12 Try.f12 (cPlay) x := by
  rw [E_play_eq]
  exact e_play x hp hl
theorem kf5_ok : CtrsOkF Try.prog kf5 := kf4_ok
theorem c_play : CtrOk Try.prog 12 (cPlay) :=
  ctr_of_vc (c := cPlay) (fn := Try.f12) (X := fx_play) (n := 4) (fun _ => mkFxG_all env_ok mixed_ok names_ok ks4_ok kf4_ok ps4_ok) Try.func12 (by kernel_rfl) (by kernel_rfl) (of_decide_eq_true (by kernel_rfl)) v_play
theorem ks5_ok : CtrsOk Try.prog ks5 := ⟨c_play, ks4_ok⟩
theorem v_free (x : (pFree : Prc).G) (hp : (pFree : Prc).pre x) (hl : (pFree : Prc).lens x) : vcPr (fx_free x) 1 31 Try.f31 (pFree) x := by
  rw [E_free_eq]
  exact e_free x hp hl
theorem c_free : PrcOk Try.prog 31 (pFree) :=
  prc_of_vc (p := pFree) (fn := Try.f31) (X := fx_free) (n := 1) (fun _ => mkFxG_all env_ok mixed_ok names_ok ks5_ok kf5_ok ps5_ok) Try.func31 (by kernel_rfl) (by kernel_rfl) v_free
theorem ks6_ok : CtrsOk Try.prog ks6 := ks5_ok
theorem kf6_ok : CtrsOkF Try.prog kf6 := kf5_ok
theorem ps6_ok : PrcsOk Try.prog ps6 := ⟨c_free, ps5_ok⟩
theorem ps7_ok : PrcsOk Try.prog ps7 := ps6_ok
theorem v_vplay (x : HL (cPlay : Ctr).as) (hp : (cPlay : Ctr).pre x) (hl : LensL (cPlay : Ctr).as x) : vc (fx_vplay x) 3 13 Try.f13 (cPlay) x := by
  rw [E_vplay_eq]
  exact e_vplay x hp hl
theorem kf7_ok : CtrsOkF Try.prog kf7 := kf6_ok
theorem c_vplay : CtrOk Try.prog 13 (cPlay) :=
  ctr_of_vc (c := cPlay) (fn := Try.f13) (X := fx_vplay) (n := 3) (fun _ => mkFxG_all env_ok mixed_ok names_ok ks6_ok kf6_ok ps6_ok) Try.func13 (by kernel_rfl) (by kernel_rfl) (of_decide_eq_true (by kernel_rfl)) v_vplay
theorem ks7_ok : CtrsOk Try.prog ks7 := ⟨c_vplay, ks6_ok⟩
theorem ps8_ok : PrcsOk Try.prog ps8 := ps7_ok
theorem v_law (x : HL (cLaw : Ctr).as) (hp : (cLaw : Ctr).pre x) (hl : LensL (cLaw : Ctr).as x) : vc (fx_law x) 1 4 Try.f4 (cLaw) x := by
  rw [E_law_eq]
  exact e_law x hp hl
theorem kf8_ok : CtrsOkF Try.prog kf8 := kf7_ok
theorem c_law : CtrOk Try.prog 4 (cLaw) :=
  ctr_of_vc (c := cLaw) (fn := Try.f4) (X := fx_law) (n := 1) (fun _ => mkFxG_all env_ok mixed_ok names_ok ks7_ok kf7_ok ps7_ok) Try.func4 (by kernel_rfl) (by kernel_rfl) (of_decide_eq_true (by kernel_rfl)) v_law
theorem ks8_ok : CtrsOk Try.prog ks8 := ⟨c_law, ks7_ok⟩
theorem ksAll_ok : CtrsOk Try.prog ksAll := ks8_ok
end Go.Proofs.Ytpmfgdedkmddlaa.Filesp
