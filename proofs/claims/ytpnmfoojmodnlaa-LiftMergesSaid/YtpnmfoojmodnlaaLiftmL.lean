/-
  Each function keeps its contract.
-/
import Derived.Test.YtpnmfoojmodnlaaLiftmP2
import Derived.Test.YtpnmfoojmodnlaaLiftmH0
import Derived.Test.YtpnmfoojmodnlaaLiftmH1
import Derived.Test.YtpnmfoojmodnlaaLiftmH2
import Derived.Test.YtpnmfoojmodnlaaLiftmH3
import Derived.Test.YtpnmfoojmodnlaaLiftmH4
namespace Go.Proofs.Ytpnmfoojmodnlaa.Liftm
open Go.Sx
set_option maxRecDepth 100000
attribute [local irreducible] vc vcPr

theorem kf0_ok : CtrsOkF Try.prog kf0 := trivial
theorem ps0_ok : PrcsOk Try.prog ps0 := trivial
theorem knAll_ok : CtrsOkN Try.prog knAll := trivial
theorem kcAll_ok : CtrsOkC Try.prog kcAll := ⟨c_sorted, trivial⟩
theorem ks0_ok : CtrsOk Try.prog ks0 := trivial
theorem names_ok : namesOk Try.prog = true := by kernel_rfl
theorem mixed_ok : Try.prog.follows .mixedOrders = true := by kernel_rfl
theorem kf1_ok : CtrsOkF Try.prog kf1 := kf0_ok
theorem ks1_ok : CtrsOk Try.prog ks1 := ks0_ok
theorem ps1_ok : PrcsOk Try.prog ps1 := ⟨c_sort, ps0_ok⟩
theorem ps2_ok : PrcsOk Try.prog ps2 := ps1_ok
theorem v_equal (x : HL (cEqual : Ctr).as) (hp : (cEqual : Ctr).pre x) (hl : LensL (cEqual : Ctr).as x) : vc (fx_equal x) 1 9 Try.f9 (cEqual) x := by
  rw [E_equal_eq]
  exact e_equal x hp hl
theorem kf2_ok : CtrsOkF Try.prog kf2 := kf1_ok
theorem c_equal : CtrOk Try.prog 9 (cEqual) :=
  ctr_of_vc (c := cEqual) (fn := Try.f9) (X := fx_equal) (n := 1) (fun _ => mkFxX_all env_ok mixed_ok names_ok ks1_ok kf1_ok ps1_ok knAll_ok kcAll_ok) Try.func9 (by kernel_rfl) (by kernel_rfl) (of_decide_eq_true (by kernel_rfl)) v_equal
theorem ks2_ok : CtrsOk Try.prog ks2 := ⟨c_equal, ks1_ok⟩
theorem ps3_ok : PrcsOk Try.prog ps3 := ps2_ok
theorem v_merge (x : HL (cMerge : Ctr).as) (hp : (cMerge : Ctr).pre x) (hl : LensL (cMerge : Ctr).as x) : vc (fx_merge x) 2 7 Try.f7 (cMerge) x := by
  rw [E_merge_eq]
  exact e_merge x hp hl
theorem kf3_ok : CtrsOkF Try.prog kf3 := kf2_ok
theorem c_merge : CtrOk Try.prog 7 (cMerge) :=
  ctr_of_vc (c := cMerge) (fn := Try.f7) (X := fx_merge) (n := 2) (fun _ => mkFxX_all env_ok mixed_ok names_ok ks2_ok kf2_ok ps2_ok knAll_ok kcAll_ok) Try.func7 (by kernel_rfl) (by kernel_rfl) (of_decide_eq_true (by kernel_rfl)) v_merge
theorem ks3_ok : CtrsOk Try.prog ks3 := ⟨c_merge, ks2_ok⟩
theorem ps4_ok : PrcsOk Try.prog ps4 := ps3_ok
theorem v_smerge (x : HL (cSmerge : Ctr).as) (hp : (cSmerge : Ctr).pre x) (hl : LensL (cSmerge : Ctr).as x) : vc (fx_smerge x) 1 8 Try.f8 (cSmerge) x := by
  rw [E_smerge_eq]
  exact e_smerge x hp hl
theorem kf4_ok : CtrsOkF Try.prog kf4 := kf3_ok
theorem c_smerge : CtrOk Try.prog 8 (cSmerge) :=
  ctr_of_vc (c := cSmerge) (fn := Try.f8) (X := fx_smerge) (n := 1) (fun _ => mkFxX_all env_ok mixed_ok names_ok ks3_ok kf3_ok ps3_ok knAll_ok kcAll_ok) Try.func8 (by kernel_rfl) (by kernel_rfl) (of_decide_eq_true (by kernel_rfl)) v_smerge
theorem ks4_ok : CtrsOk Try.prog ks4 := ⟨c_smerge, ks3_ok⟩
theorem ps5_ok : PrcsOk Try.prog ps5 := ps4_ok
theorem v_law (x : HL (cLaw : Ctr).as) (hp : (cLaw : Ctr).pre x) (hl : LensL (cLaw : Ctr).as x) : vc (fx_law x) 1 3 Try.f3 (cLaw) x := by
  rw [E_law_eq]
  exact e_law x hp hl
theorem kf5_ok : CtrsOkF Try.prog kf5 := kf4_ok
theorem c_law : CtrOk Try.prog 3 (cLaw) :=
  ctr_of_vc (c := cLaw) (fn := Try.f3) (X := fx_law) (n := 1) (fun _ => mkFxX_all env_ok mixed_ok names_ok ks4_ok kf4_ok ps4_ok knAll_ok kcAll_ok) Try.func3 (by kernel_rfl) (by kernel_rfl) (of_decide_eq_true (by kernel_rfl)) v_law
theorem ks5_ok : CtrsOk Try.prog ks5 := ⟨c_law, ks4_ok⟩
theorem ksAll_ok : CtrsOk Try.prog ksAll := ks5_ok
end Go.Proofs.Ytpnmfoojmodnlaa.Liftm
