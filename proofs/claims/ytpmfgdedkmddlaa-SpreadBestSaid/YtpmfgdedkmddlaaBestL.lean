/-
  Each function keeps its contract.
-/
import Derived.Test.YtpmfgdedkmddlaaBestP3
namespace Go.Proofs.Ytpmfgdedkmddlaa.Best
open Go.Sx
set_option maxRecDepth 100000
attribute [local irreducible] vc vcF vcPr

theorem kf0_ok : CtrsOkF Try.prog kf0 := trivial
theorem ps0_ok : PrcsOk Try.prog ps0 := trivial
theorem ks0_ok : CtrsOk Try.prog ks0 := trivial
theorem names_ok : namesOk Try.prog = true := by kernel_rfl
theorem mixed_ok : Try.prog.follows .mixedOrders = true := by kernel_rfl
theorem ps1_ok : PrcsOk Try.prog ps1 := ps0_ok
theorem v_max (x : HL (cMax : Ctr).as) (hp : (cMax : Ctr).pre x) (hl : LensL (cMax : Ctr).as x) : vc (fx_max x) 1 46 Try.f46 (cMax) x := by
  rw [E_max_eq]
  exact e_max x hp hl
theorem kf1_ok : CtrsOkF Try.prog kf1 := kf0_ok
theorem c_max : CtrOk Try.prog 46 (cMax) :=
  ctr_of_vc (c := cMax) (fn := Try.f46) (X := fx_max) (n := 1) (fun _ => mkFxG_all env_ok mixed_ok names_ok ks0_ok kf0_ok ps0_ok) Try.func46 (by kernel_rfl) (by kernel_rfl) (of_decide_eq_true (by kernel_rfl)) v_max
theorem ks1_ok : CtrsOk Try.prog ks1 := ⟨c_max, ks0_ok⟩
theorem ps2_ok : PrcsOk Try.prog ps2 := ps1_ok
theorem v_any (x : HL (cAny : Ctr).as) (hp : (cAny : Ctr).pre x) (hl : LensL (cAny : Ctr).as x) : vcF (fx_any x) 3 42 43 Try.f42 (cAny) x := by
  rw [E_any_eq]
  exact e_any x hp hl
theorem c_any : CtrOkF Try.prog 42 43 (cAny) :=
  ctrF_of_vc (c := cAny) (fn := Try.f42) (X := fx_any) (n := 3) (fun _ => mkFxG_all env_ok mixed_ok names_ok ks1_ok kf1_ok ps1_ok) Try.func42 (by kernel_rfl) (by kernel_rfl) (of_decide_eq_true (by kernel_rfl)) v_any
theorem ks2_ok : CtrsOk Try.prog ks2 := ks1_ok
theorem kf2_ok : CtrsOkF Try.prog kf2 := ⟨c_any, kf1_ok⟩
theorem ps3_ok : PrcsOk Try.prog ps3 := ps2_ok
theorem v_wrong (x : HL (cWrong : Ctr).as) (hp : (cWrong : Ctr).pre x) (hl : LensL (cWrong : Ctr).as x) : vc (fx_wrong x) 1 20 Try.f20 (cWrong) x := by
  rw [E_wrong_eq]
  exact e_wrong x hp hl
theorem kf3_ok : CtrsOkF Try.prog kf3 := kf2_ok
theorem c_wrong : CtrOk Try.prog 20 (cWrong) :=
  ctr_of_vc (c := cWrong) (fn := Try.f20) (X := fx_wrong) (n := 1) (fun _ => mkFxG_all env_ok mixed_ok names_ok ks2_ok kf2_ok ps2_ok) Try.func20 (by kernel_rfl) (by kernel_rfl) (of_decide_eq_true (by kernel_rfl)) v_wrong
theorem ks3_ok : CtrsOk Try.prog ks3 := ⟨c_wrong, ks2_ok⟩
theorem ps4_ok : PrcsOk Try.prog ps4 := ps3_ok
theorem v_ewrong (x : HL (cWrong : Ctr).as) (hp : (cWrong : Ctr).pre x) (hl : LensL (cWrong : Ctr).as x) : vc (fx_ewrong x) 1 19 Try.f19 (cWrong) x := by
  rw [E_ewrong_eq]
  exact e_ewrong x hp hl
theorem kf4_ok : CtrsOkF Try.prog kf4 := kf3_ok
theorem c_ewrong : CtrOk Try.prog 19 (cWrong) :=
  ctr_of_vc (c := cWrong) (fn := Try.f19) (X := fx_ewrong) (n := 1) (fun _ => mkFxG_all env_ok mixed_ok names_ok ks3_ok kf3_ok ps3_ok) Try.func19 (by kernel_rfl) (by kernel_rfl) (of_decide_eq_true (by kernel_rfl)) v_ewrong
theorem ks4_ok : CtrsOk Try.prog ks4 := ⟨c_ewrong, ks3_ok⟩
theorem v_put (x : (pPut : Prc).G) (hp : (pPut : Prc).pre x) (hl : (pPut : Prc).lens x) : vcPr (fx_put x) 1 45 Try.f45 (pPut) x := by
  rw [E_put_eq]
  exact e_put x hp hl
theorem c_put : PrcOk Try.prog 45 (pPut) :=
  prc_of_vc_rec (p := pPut) (fn := Try.f45) (X := fx_put) (n := 1) (fun y => (y.2.2.2.1.length - y.1).toNat) (fun _ h => mkFxG_all env_ok mixed_ok names_ok ks4_ok kf4_ok ⟨h, ps4_ok⟩) Try.func45 (by kernel_rfl) (by kernel_rfl) v_put
theorem ks5_ok : CtrsOk Try.prog ks5 := ks4_ok
theorem kf5_ok : CtrsOkF Try.prog kf5 := kf4_ok
theorem ps5_ok : PrcsOk Try.prog ps5 := ⟨c_put, ps4_ok⟩
theorem ps6_ok : PrcsOk Try.prog ps6 := ps5_ok
theorem v_best (x : HL (cBest : Ctr).as) (hp : (cBest : Ctr).pre x) (hl : LensL (cBest : Ctr).as x) : vc (fx_best x) 1 24 Try.f24 (cBest) x := by
  rw [E_best_eq]
  exact e_best x hp hl
theorem kf6_ok : CtrsOkF Try.prog kf6 := kf5_ok
theorem c_best : CtrOk Try.prog 24 (cBest) :=
  ctr_of_vc (c := cBest) (fn := Try.f24) (X := fx_best) (n := 1) (fun _ => mkFxG_all env_ok mixed_ok names_ok ks5_ok kf5_ok ps5_ok) Try.func24 (by kernel_rfl) (by kernel_rfl) (of_decide_eq_true (by kernel_rfl)) v_best
theorem ks6_ok : CtrsOk Try.prog ks6 := ⟨c_best, ks5_ok⟩
theorem ps7_ok : PrcsOk Try.prog ps7 := ps6_ok
theorem v_ebest (x : HL (cEBest : Ctr).as) (hp : (cEBest : Ctr).pre x) (hl : LensL (cEBest : Ctr).as x) : vc (fx_ebest x) 1 25 Try.f25 (cEBest) x := by
  rw [E_ebest_eq]
  exact e_ebest x hp hl
theorem kf7_ok : CtrsOkF Try.prog kf7 := kf6_ok
theorem c_ebest : CtrOk Try.prog 25 (cEBest) :=
  ctr_of_vc (c := cEBest) (fn := Try.f25) (X := fx_ebest) (n := 1) (fun _ => mkFxG_all env_ok mixed_ok names_ok ks6_ok kf6_ok ps6_ok) Try.func25 (by kernel_rfl) (by kernel_rfl) (of_decide_eq_true (by kernel_rfl)) v_ebest
theorem ks7_ok : CtrsOk Try.prog ks7 := ⟨c_ebest, ks6_ok⟩
theorem ps8_ok : PrcsOk Try.prog ps8 := ps7_ok
theorem v_law (x : HL (cLaw : Ctr).as) (hp : (cLaw : Ctr).pre x) (hl : LensL (cLaw : Ctr).as x) : vc (fx_law x) 1 7 Try.f7 (cLaw) x := by
  rw [E_law_eq]
  exact e_law x hp hl
theorem kf8_ok : CtrsOkF Try.prog kf8 := kf7_ok
theorem c_law : CtrOk Try.prog 7 (cLaw) :=
  ctr_of_vc (c := cLaw) (fn := Try.f7) (X := fx_law) (n := 1) (fun _ => mkFxG_all env_ok mixed_ok names_ok ks7_ok kf7_ok ps7_ok) Try.func7 (by kernel_rfl) (by kernel_rfl) (of_decide_eq_true (by kernel_rfl)) v_law
theorem ks8_ok : CtrsOk Try.prog ks8 := ⟨c_law, ks7_ok⟩
theorem ksAll_ok : CtrsOk Try.prog ksAll := ks8_ok
end Go.Proofs.Ytpmfgdedkmddlaa.Best
