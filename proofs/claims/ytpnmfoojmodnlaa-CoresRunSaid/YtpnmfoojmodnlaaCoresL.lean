/-
  Each function keeps its contract.
-/
import Derived.Test.YtpnmfoojmodnlaaCoresP8
import Derived.Test.YtpnmfoojmodnlaaCoresH0
import Derived.Test.YtpnmfoojmodnlaaCoresH1
import Derived.Test.YtpnmfoojmodnlaaCoresH2
import Derived.Test.YtpnmfoojmodnlaaCoresH3
namespace Go.Proofs.Ytpnmfoojmodnlaa.Cores
open Go.Sx
set_option maxRecDepth 100000
attribute [local irreducible] vc vcF vcPr

theorem kf0_ok : CtrsOkF Try.prog kf0 := trivial
theorem ps0_ok : PrcsOk Try.prog ps0 := trivial
theorem ks0_ok : CtrsOk Try.prog ks0 := trivial
theorem names_ok : namesOk Try.prog = true := by kernel_rfl
theorem mixed_ok : Try.prog.follows .mixedOrders = true := by kernel_rfl
theorem kf1_ok : CtrsOkF Try.prog kf1 := kf0_ok
theorem ks1_ok : CtrsOk Try.prog ks1 := ks0_ok
theorem ps1_ok : PrcsOk Try.prog ps1 := ⟨c_sort, ps0_ok⟩
theorem kf2_ok : CtrsOkF Try.prog kf2 := kf1_ok
theorem ks2_ok : CtrsOk Try.prog ks2 := ks1_ok
theorem ps2_ok : PrcsOk Try.prog ps2 := ⟨c_sortt, ps1_ok⟩
theorem ps3_ok : PrcsOk Try.prog ps3 := ps2_ok
theorem v_equal (x : HL (cEqual : Ctr).as) (hp : (cEqual : Ctr).pre x) (hl : LensL (cEqual : Ctr).as x) : vc (fx_equal x) 1 16 Try.f16 (cEqual) x := by
  rw [E_equal_eq]
  exact e_equal x hp hl
theorem kf3_ok : CtrsOkF Try.prog kf3 := kf2_ok
theorem c_equal : CtrOk Try.prog 16 (cEqual) :=
  ctr_of_vc (c := cEqual) (fn := Try.f16) (X := fx_equal) (n := 1) (fun _ => mkFxG_all env_ok mixed_ok names_ok ks2_ok kf2_ok ps2_ok) Try.func16 (by kernel_rfl) (by kernel_rfl) (of_decide_eq_true (by kernel_rfl)) v_equal
theorem ks3_ok : CtrsOk Try.prog ks3 := ⟨c_equal, ks2_ok⟩
theorem ps4_ok : PrcsOk Try.prog ps4 := ps3_ok
theorem v_equalf (x : HL (cEqualF : Ctr).as) (hp : (cEqualF : Ctr).pre x) (hl : LensL (cEqualF : Ctr).as x) : vcF (fx_equalf x) 2 26 28 Try.f26 (cEqualF) x := by
  rw [E_equalf_eq]
  exact e_equalf x hp hl
theorem c_equalf : CtrOkF Try.prog 26 28 (cEqualF) :=
  ctrF_of_vc (c := cEqualF) (fn := Try.f26) (X := fx_equalf) (n := 2) (fun _ => mkFxG_all env_ok mixed_ok names_ok ks3_ok kf3_ok ps3_ok) Try.func26 (by kernel_rfl) (by kernel_rfl) (of_decide_eq_true (by kernel_rfl)) v_equalf
theorem ks4_ok : CtrsOk Try.prog ks4 := ks3_ok
theorem kf4_ok : CtrsOkF Try.prog kf4 := ⟨c_equalf, kf3_ok⟩
theorem ps5_ok : PrcsOk Try.prog ps5 := ps4_ok
theorem v_clone (x : HL (cClone : Ctr).as) (hp : (cClone : Ctr).pre x) (hl : LensL (cClone : Ctr).as x) : vc (fx_clone x) 1 37 Try.f37 (cClone) x := by
  rw [E_clone_eq]
  exact e_clone x hp hl
theorem kf5_ok : CtrsOkF Try.prog kf5 := kf4_ok
theorem c_clone : CtrOk Try.prog 37 (cClone) :=
  ctr_of_vc (c := cClone) (fn := Try.f37) (X := fx_clone) (n := 1) (fun _ => mkFxG_all env_ok mixed_ok names_ok ks4_ok kf4_ok ps4_ok) Try.func37 (by kernel_rfl) (by kernel_rfl) (of_decide_eq_true (by kernel_rfl)) v_clone
theorem ks5_ok : CtrsOk Try.prog ks5 := ⟨c_clone, ks4_ok⟩
theorem ps6_ok : PrcsOk Try.prog ps6 := ps5_ok
theorem v_nwrong (x : HL (cWrong : Ctr).as) (hp : (cWrong : Ctr).pre x) (hl : LensL (cWrong : Ctr).as x) : vc (fx_nwrong x) 1 24 Try.f24 (cWrong) x := by
  rw [E_nwrong_eq]
  exact e_nwrong x hp hl
theorem kf6_ok : CtrsOkF Try.prog kf6 := kf5_ok
theorem c_nwrong : CtrOk Try.prog 24 (cWrong) :=
  ctr_of_vc (c := cWrong) (fn := Try.f24) (X := fx_nwrong) (n := 1) (fun _ => mkFxG_all env_ok mixed_ok names_ok ks5_ok kf5_ok ps5_ok) Try.func24 (by kernel_rfl) (by kernel_rfl) (of_decide_eq_true (by kernel_rfl)) v_nwrong
theorem ks6_ok : CtrsOk Try.prog ks6 := ⟨c_nwrong, ks5_ok⟩
theorem ps7_ok : PrcsOk Try.prog ps7 := ps6_ok
theorem v_wrong (x : HL (cWrong : Ctr).as) (hp : (cWrong : Ctr).pre x) (hl : LensL (cWrong : Ctr).as x) : vc (fx_wrong x) 1 25 Try.f25 (cWrong) x := by
  rw [E_wrong_eq]
  exact e_wrong x hp hl
theorem kf7_ok : CtrsOkF Try.prog kf7 := kf6_ok
theorem c_wrong : CtrOk Try.prog 25 (cWrong) :=
  ctr_of_vc (c := cWrong) (fn := Try.f25) (X := fx_wrong) (n := 1) (fun _ => mkFxG_all env_ok mixed_ok names_ok ks6_ok kf6_ok ps6_ok) Try.func25 (by kernel_rfl) (by kernel_rfl) (of_decide_eq_true (by kernel_rfl)) v_wrong
theorem ks7_ok : CtrsOk Try.prog ks7 := ⟨c_wrong, ks6_ok⟩
theorem v_idx (x : (pIdx : Prc).G) (hp : (pIdx : Prc).pre x) (hl : (pIdx : Prc).lens x) : vcPr (fx_idx x) 1 62 Try.f62 (pIdx) x := by
  rw [E_idx_eq]
  exact e_idx x hp hl
theorem c_idx : PrcOk Try.prog 62 (pIdx) :=
  prc_of_vc (p := pIdx) (fn := Try.f62) (X := fx_idx) (n := 1) (fun _ => mkFxG_all env_ok mixed_ok names_ok ks7_ok kf7_ok ps7_ok) Try.func62 (by kernel_rfl) (by kernel_rfl) v_idx
theorem ks8_ok : CtrsOk Try.prog ks8 := ks7_ok
theorem kf8_ok : CtrsOkF Try.prog kf8 := kf7_ok
theorem ps8_ok : PrcsOk Try.prog ps8 := ⟨c_idx, ps7_ok⟩
theorem ps9_ok : PrcsOk Try.prog ps9 := ps8_ok
theorem v_nrun (x : HL (cNrun : Ctr).as) (hp : (cNrun : Ctr).pre x) (hl : LensL (cNrun : Ctr).as x) : vc (fx_nrun x) 4 27 Try.f27 (cNrun) x := by
  rw [E_nrun_eq]
  exact e_nrun x hp hl
theorem kf9_ok : CtrsOkF Try.prog kf9 := kf8_ok
theorem c_nrun : CtrOk Try.prog 27 (cNrun) :=
  ctr_of_vc (c := cNrun) (fn := Try.f27) (X := fx_nrun) (n := 4) (fun _ => mkFxG_all env_ok mixed_ok names_ok ks8_ok kf8_ok ps8_ok) Try.func27 (by kernel_rfl) (by kernel_rfl) (of_decide_eq_true (by kernel_rfl)) v_nrun
theorem ks9_ok : CtrsOk Try.prog ks9 := ⟨c_nrun, ks8_ok⟩
theorem ps10_ok : PrcsOk Try.prog ps10 := ps9_ok
theorem v_run (x : HL (cRun : Ctr).as) (hp : (cRun : Ctr).pre x) (hl : LensL (cRun : Ctr).as x) : vc (fx_run x) 1 23 Try.f23 (cRun) x := by
  rw [E_run_eq]
  exact e_run x hp hl
theorem kf10_ok : CtrsOkF Try.prog kf10 := kf9_ok
theorem c_run : CtrOk Try.prog 23 (cRun) :=
  ctr_of_vc (c := cRun) (fn := Try.f23) (X := fx_run) (n := 1) (fun _ => mkFxG_all env_ok mixed_ok names_ok ks9_ok kf9_ok ps9_ok) Try.func23 (by kernel_rfl) (by kernel_rfl) (of_decide_eq_true (by kernel_rfl)) v_run
theorem ks10_ok : CtrsOk Try.prog ks10 := ⟨c_run, ks9_ok⟩
theorem ps11_ok : PrcsOk Try.prog ps11 := ps10_ok
theorem v_law (x : HL (cLaw : Ctr).as) (hp : (cLaw : Ctr).pre x) (hl : LensL (cLaw : Ctr).as x) : vc (fx_law x) 1 6 Try.f6 (cLaw) x := by
  rw [E_law_eq]
  exact e_law x hp hl
theorem kf11_ok : CtrsOkF Try.prog kf11 := kf10_ok
theorem c_law : CtrOk Try.prog 6 (cLaw) :=
  ctr_of_vc (c := cLaw) (fn := Try.f6) (X := fx_law) (n := 1) (fun _ => mkFxG_all env_ok mixed_ok names_ok ks10_ok kf10_ok ps10_ok) Try.func6 (by kernel_rfl) (by kernel_rfl) (of_decide_eq_true (by kernel_rfl)) v_law
theorem ks11_ok : CtrsOk Try.prog ks11 := ⟨c_law, ks10_ok⟩
theorem ksAll_ok : CtrsOk Try.prog ksAll := ks11_ok
end Go.Proofs.Ytpnmfoojmodnlaa.Cores
