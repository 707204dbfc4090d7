/-
  Each function keeps its contract.
-/
import Derived.Test.YtpmfgdedkmddlaaPlansPF
namespace Go.Proofs.Ytpmfgdedkmddlaa.Plans
open Go.Sx
set_option maxRecDepth 100000
attribute [local irreducible] vc vcF vcPr

theorem kf0_ok : CtrsOkF Try.prog kf0 := trivial
theorem ps0_ok : PrcsOk Try.prog ps0 := trivial
theorem ks0_ok : CtrsOk Try.prog ks0 := trivial
theorem names_ok : namesOk Try.prog = true := by kernel_rfl
theorem mixed_ok : Try.prog.follows .mixedOrders = true := by kernel_rfl
theorem v_cmp (x : (pCmp : Prc).G) (hp : (pCmp : Prc).pre x) (hl : (pCmp : Prc).lens x) : vcPr (fx_cmp x) 1 41 Try.f41 (pCmp) x := by
  rw [E_cmp_eq]
  exact e_cmp x hp hl
theorem c_cmp : PrcOk Try.prog 41 (pCmp) :=
  prc_of_vc (p := pCmp) (fn := Try.f41) (X := fx_cmp) (n := 1) (fun _ => mkFxG_all env_ok mixed_ok names_ok ks0_ok kf0_ok ps0_ok) Try.func41 (by kernel_rfl) (by kernel_rfl) v_cmp
theorem ks1_ok : CtrsOk Try.prog ks1 := ks0_ok
theorem kf1_ok : CtrsOkF Try.prog kf1 := kf0_ok
theorem ps1_ok : PrcsOk Try.prog ps1 := ⟨c_cmp, ps0_ok⟩
theorem v_swap (x : (pSwap : Prc).G) (hp : (pSwap : Prc).pre x) (hl : (pSwap : Prc).lens x) : vcPr (fx_swap x) 1 75 Try.f75 (pSwap) x := by
  rw [E_swap_eq]
  exact e_swap x hp hl
theorem c_swap : PrcOk Try.prog 75 (pSwap) :=
  prc_of_vc (p := pSwap) (fn := Try.f75) (X := fx_swap) (n := 1) (fun _ => mkFxG_all env_ok mixed_ok names_ok ks1_ok kf1_ok ps1_ok) Try.func75 (by kernel_rfl) (by kernel_rfl) v_swap
theorem ks2_ok : CtrsOk Try.prog ks2 := ks1_ok
theorem kf2_ok : CtrsOkF Try.prog kf2 := kf1_ok
theorem ps2_ok : PrcsOk Try.prog ps2 := ⟨c_swap, ps1_ok⟩
theorem v_rot (x : (pRot : Prc).G) (hp : (pRot : Prc).pre x) (hl : (pRot : Prc).lens x) : vcPr (fx_rot x) 1 73 Try.f73 (pRot) x := by
  rw [E_rot_eq]
  exact e_rot x hp hl
theorem c_rot : PrcOk Try.prog 73 (pRot) :=
  prc_of_vc (p := pRot) (fn := Try.f73) (X := fx_rot) (n := 1) (fun _ => mkFxG_all env_ok mixed_ok names_ok ks2_ok kf2_ok ps2_ok) Try.func73 (by kernel_rfl) (by kernel_rfl) v_rot
theorem ks3_ok : CtrsOk Try.prog ks3 := ks2_ok
theorem kf3_ok : CtrsOkF Try.prog kf3 := kf2_ok
theorem ps3_ok : PrcsOk Try.prog ps3 := ⟨c_rot, ps2_ok⟩
theorem v_ins (x : (pIns : Prc).G) (hp : (pIns : Prc).pre x) (hl : (pIns : Prc).lens x) : vcPr (fx_ins x) 1 68 Try.f68 (pIns) x := by
  rw [E_ins_eq]
  exact e_ins x hp hl
theorem c_ins : PrcOk Try.prog 68 (pIns) :=
  prc_of_vc (p := pIns) (fn := Try.f68) (X := fx_ins) (n := 1) (fun _ => mkFxG_all env_ok mixed_ok names_ok ks3_ok kf3_ok ps3_ok) Try.func68 (by kernel_rfl) (by kernel_rfl) v_ins
theorem ks4_ok : CtrsOk Try.prog ks4 := ks3_ok
theorem kf4_ok : CtrsOkF Try.prog kf4 := kf3_ok
theorem ps4_ok : PrcsOk Try.prog ps4 := ⟨c_ins, ps3_ok⟩
theorem v_sym (x : (pSym : Prc).G) (hp : (pSym : Prc).pre x) (hl : (pSym : Prc).lens x) : vcPr (fx_sym x) 1 69 Try.f69 (pSym) x := by
  rw [E_sym_eq]
  exact e_sym x hp hl
theorem c_sym : PrcOk Try.prog 69 (pSym) :=
  prc_of_vc_rec (p := pSym) (fn := Try.f69) (X := fx_sym) (n := 1) (fun y => (y.2.2.2.1 - y.2.1).toNat) (fun _ h => mkFxG_all env_ok mixed_ok names_ok ks4_ok kf4_ok ⟨h, ps4_ok⟩) Try.func69 (by kernel_rfl) (by kernel_rfl) v_sym
theorem ks5_ok : CtrsOk Try.prog ks5 := ks4_ok
theorem kf5_ok : CtrsOkF Try.prog kf5 := kf4_ok
theorem ps5_ok : PrcsOk Try.prog ps5 := ⟨c_sym, ps4_ok⟩
theorem v_stable (x : (pStable : Prc).G) (hp : (pStable : Prc).pre x) (hl : (pStable : Prc).lens x) : vcPr (fx_stable x) 1 59 Try.f59 (pStable) x := by
  rw [E_stable_eq]
  exact e_stable x hp hl
theorem c_stable : PrcOk Try.prog 59 (pStable) :=
  prc_of_vc (p := pStable) (fn := Try.f59) (X := fx_stable) (n := 1) (fun _ => mkFxG_all env_ok mixed_ok names_ok ks5_ok kf5_ok ps5_ok) Try.func59 (by kernel_rfl) (by kernel_rfl) v_stable
theorem ks6_ok : CtrsOk Try.prog ks6 := ks5_ok
theorem kf6_ok : CtrsOkF Try.prog kf6 := kf5_ok
theorem ps6_ok : PrcsOk Try.prog ps6 := ⟨c_stable, ps5_ok⟩
theorem v_sort (x : (pSort : Prc).G) (hp : (pSort : Prc).pre x) (hl : (pSort : Prc).lens x) : vcPr (fx_sort x) 1 40 Try.f40 (pSort) x := by
  rw [E_sort_eq]
  exact e_sort x hp hl
theorem c_sort : PrcOk Try.prog 40 (pSort) :=
  prc_of_vc (p := pSort) (fn := Try.f40) (X := fx_sort) (n := 1) (fun _ => mkFxG_all env_ok mixed_ok names_ok ks6_ok kf6_ok ps6_ok) Try.func40 (by kernel_rfl) (by kernel_rfl) v_sort
theorem ks7_ok : CtrsOk Try.prog ks7 := ks6_ok
theorem kf7_ok : CtrsOkF Try.prog kf7 := kf6_ok
theorem ps7_ok : PrcsOk Try.prog ps7 := ⟨c_sort, ps6_ok⟩
theorem ps8_ok : PrcsOk Try.prog ps8 := ps7_ok
theorem v_equal (x : HL (cEqual : Ctr).as) (hp : (cEqual : Ctr).pre x) (hl : LensL (cEqual : Ctr).as x) : vc (fx_equal x) 1 11 Try.f11 (cEqual) x := by
  rw [E_equal_eq]
  exact e_equal x hp hl
theorem kf8_ok : CtrsOkF Try.prog kf8 := kf7_ok
theorem c_equal : CtrOk Try.prog 11 (cEqual) :=
  ctr_of_vc (c := cEqual) (fn := Try.f11) (X := fx_equal) (n := 1) (fun _ => mkFxG_all env_ok mixed_ok names_ok ks7_ok kf7_ok ps7_ok) Try.func11 (by kernel_rfl) (by kernel_rfl) (of_decide_eq_true (by kernel_rfl)) v_equal
theorem ks8_ok : CtrsOk Try.prog ks8 := ⟨c_equal, ks7_ok⟩
theorem ps9_ok : PrcsOk Try.prog ps9 := ps8_ok
theorem v_min (x : HL (cMin : Ctr).as) (hp : (cMin : Ctr).pre x) (hl : LensL (cMin : Ctr).as x) : vc (fx_min x) 1 67 Try.f67 (cMin) x := by
  rw [E_min_eq]
  exact e_min x hp hl
theorem kf9_ok : CtrsOkF Try.prog kf9 := kf8_ok
theorem c_min : CtrOk Try.prog 67 (cMin) :=
  ctr_of_vc (c := cMin) (fn := Try.f67) (X := fx_min) (n := 1) (fun _ => mkFxG_all env_ok mixed_ok names_ok ks8_ok kf8_ok ps8_ok) Try.func67 (by kernel_rfl) (by kernel_rfl) (of_decide_eq_true (by kernel_rfl)) v_min
theorem ks9_ok : CtrsOk Try.prog ks9 := ⟨c_min, ks8_ok⟩
theorem ps10_ok : PrcsOk Try.prog ps10 := ps9_ok
theorem v_index (x : HL (cIndex : Ctr).as) (hp : (cIndex : Ctr).pre x) (hl : LensL (cIndex : Ctr).as x) : vc (fx_index x) 1 61 Try.f61 (cIndex) x := by
  rw [E_index_eq]
  exact e_index x hp hl
theorem kf10_ok : CtrsOkF Try.prog kf10 := kf9_ok
theorem c_index : CtrOk Try.prog 61 (cIndex) :=
  ctr_of_vc (c := cIndex) (fn := Try.f61) (X := fx_index) (n := 1) (fun _ => mkFxG_all env_ok mixed_ok names_ok ks9_ok kf9_ok ps9_ok) Try.func61 (by kernel_rfl) (by kernel_rfl) (of_decide_eq_true (by kernel_rfl)) v_index
theorem ks10_ok : CtrsOk Try.prog ks10 := ⟨c_index, ks9_ok⟩
theorem ps11_ok : PrcsOk Try.prog ps11 := ps10_ok
theorem v_contains (x : HL (cContains : Ctr).as) (hp : (cContains : Ctr).pre x) (hl : LensL (cContains : Ctr).as x) : vc (fx_contains x) 1 44 Try.f44 (cContains) x := by
  rw [E_contains_eq]
  exact e_contains x hp hl
theorem kf11_ok : CtrsOkF Try.prog kf11 := kf10_ok
theorem c_contains : CtrOk Try.prog 44 (cContains) :=
  ctr_of_vc (c := cContains) (fn := Try.f44) (X := fx_contains) (n := 1) (fun _ => mkFxG_all env_ok mixed_ok names_ok ks10_ok kf10_ok ps10_ok) Try.func44 (by kernel_rfl) (by kernel_rfl) (of_decide_eq_true (by kernel_rfl)) v_contains
theorem ks11_ok : CtrsOk Try.prog ks11 := ⟨c_contains, ks10_ok⟩
theorem ps12_ok : PrcsOk Try.prog ps12 := ps11_ok
theorem v_any (x : HL (cAny : Ctr).as) (hp : (cAny : Ctr).pre x) (hl : LensL (cAny : Ctr).as x) : vcF (fx_any x) 3 42 43 Try.f42 (cAny) x := by
  rw [E_any_eq]
  exact e_any x hp hl
theorem c_any : CtrOkF Try.prog 42 43 (cAny) :=
  ctrF_of_vc (c := cAny) (fn := Try.f42) (X := fx_any) (n := 3) (fun _ => mkFxG_all env_ok mixed_ok names_ok ks11_ok kf11_ok ps11_ok) Try.func42 (by kernel_rfl) (by kernel_rfl) (of_decide_eq_true (by kernel_rfl)) v_any
theorem ks12_ok : CtrsOk Try.prog ks12 := ks11_ok
theorem kf12_ok : CtrsOkF Try.prog kf12 := ⟨c_any, kf11_ok⟩
theorem ps13_ok : PrcsOk Try.prog ps13 := ps12_ok
theorem v_wrong (x : HL (cWrong : Ctr).as) (hp : (cWrong : Ctr).pre x) (hl : LensL (cWrong : Ctr).as x) : vc (fx_wrong x) 1 20 Try.f20 (cWrong) x := by
  rw [E_wrong_eq]
  exact e_wrong x hp hl
theorem kf13_ok : CtrsOkF Try.prog kf13 := kf12_ok
theorem c_wrong : CtrOk Try.prog 20 (cWrong) :=
  ctr_of_vc (c := cWrong) (fn := Try.f20) (X := fx_wrong) (n := 1) (fun _ => mkFxG_all env_ok mixed_ok names_ok ks12_ok kf12_ok ps12_ok) Try.func20 (by kernel_rfl) (by kernel_rfl) (of_decide_eq_true (by kernel_rfl)) v_wrong
theorem ks13_ok : CtrsOk Try.prog ks13 := ⟨c_wrong, ks12_ok⟩
theorem ps14_ok : PrcsOk Try.prog ps14 := ps13_ok
theorem v_ewrong (x : HL (cWrong : Ctr).as) (hp : (cWrong : Ctr).pre x) (hl : LensL (cWrong : Ctr).as x) : vc (fx_ewrong x) 1 19 Try.f19 (cWrong) x := by
  rw [E_ewrong_eq]
  exact e_ewrong x hp hl
theorem kf14_ok : CtrsOkF Try.prog kf14 := kf13_ok
theorem c_ewrong : CtrOk Try.prog 19 (cWrong) :=
  ctr_of_vc (c := cWrong) (fn := Try.f19) (X := fx_ewrong) (n := 1) (fun _ => mkFxG_all env_ok mixed_ok names_ok ks13_ok kf13_ok ps13_ok) Try.func19 (by kernel_rfl) (by kernel_rfl) (of_decide_eq_true (by kernel_rfl)) v_ewrong
theorem ks14_ok : CtrsOk Try.prog ks14 := ⟨c_ewrong, ks13_ok⟩
theorem ps15_ok : PrcsOk Try.prog ps15 := ps14_ok
theorem v_ord (x : HL (cOrd : Ctr).as) (hp : (cOrd : Ctr).pre x) (hl : LensL (cOrd : Ctr).as x) : vc (fx_ord x) 1 39 Try.f39 (cOrd) x := by
  rw [E_ord_eq]
  exact e_ord x hp hl
theorem kf15_ok : CtrsOkF Try.prog kf15 := kf14_ok
theorem c_ord : CtrOk Try.prog 39 (cOrd) :=
  ctr_of_vc (c := cOrd) (fn := Try.f39) (X := fx_ord) (n := 1) (fun _ => mkFxG_all env_ok mixed_ok names_ok ks14_ok kf14_ok ps14_ok) Try.func39 (by kernel_rfl) (by kernel_rfl) (of_decide_eq_true (by kernel_rfl)) v_ord
theorem ks15_ok : CtrsOk Try.prog ks15 := ⟨c_ord, ks14_ok⟩
theorem ps16_ok : PrcsOk Try.prog ps16 := ps15_ok
theorem v_plan (x : HL (cPlan : Ctr).as) (hp : (cPlan : Ctr).pre x) (hl : LensL (cPlan : Ctr).as x) : vc (fx_plan x) 1 38 Try.f38 (cPlan) x := by
  rw [E_plan_eq]
  exact e_plan x hp hl
theorem kf16_ok : CtrsOkF Try.prog kf16 := kf15_ok
theorem c_plan : CtrOk Try.prog 38 (cPlan) :=
  ctr_of_vc (c := cPlan) (fn := Try.f38) (X := fx_plan) (n := 1) (fun _ => mkFxG_all env_ok mixed_ok names_ok ks15_ok kf15_ok ps15_ok) Try.func38 (by kernel_rfl) (by kernel_rfl) (of_decide_eq_true (by kernel_rfl)) v_plan
theorem ks16_ok : CtrsOk Try.prog ks16 := ⟨c_plan, ks15_ok⟩
theorem ps17_ok : PrcsOk Try.prog ps17 := ps16_ok
theorem v_eplan (x : HL (cPlan : Ctr).as) (hp : (cPlan : Ctr).pre x) (hl : LensL (cPlan : Ctr).as x) : vc (fx_eplan x) 1 22 Try.f22 (cPlan) x := by
  rw [E_eplan_eq]
  exact e_eplan x hp hl
theorem kf17_ok : CtrsOkF Try.prog kf17 := kf16_ok
theorem c_eplan : CtrOk Try.prog 22 (cPlan) :=
  ctr_of_vc (c := cPlan) (fn := Try.f22) (X := fx_eplan) (n := 1) (fun _ => mkFxG_all env_ok mixed_ok names_ok ks16_ok kf16_ok ps16_ok) Try.func22 (by kernel_rfl) (by kernel_rfl) (of_decide_eq_true (by kernel_rfl)) v_eplan
theorem ks17_ok : CtrsOk Try.prog ks17 := ⟨c_eplan, ks16_ok⟩
theorem ps18_ok : PrcsOk Try.prog ps18 := ps17_ok
theorem v_order (x : HL (cOrder : Ctr).as) (hp : (cOrder : Ctr).pre x) (hl : LensL (cOrder : Ctr).as x) : vc (fx_order x) 1 23 Try.f23 (cOrder) x := by
  rw [E_order_eq]
  exact e_order x hp hl
theorem kf18_ok : CtrsOkF Try.prog kf18 := kf17_ok
theorem c_order : CtrOk Try.prog 23 (cOrder) :=
  ctr_of_vc (c := cOrder) (fn := Try.f23) (X := fx_order) (n := 1) (fun _ => mkFxG_all env_ok mixed_ok names_ok ks17_ok kf17_ok ps17_ok) Try.func23 (by kernel_rfl) (by kernel_rfl) (of_decide_eq_true (by kernel_rfl)) v_order
theorem ks18_ok : CtrsOk Try.prog ks18 := ⟨c_order, ks17_ok⟩
theorem ps19_ok : PrcsOk Try.prog ps19 := ps18_ok
theorem v_same (x : HL (cSame : Ctr).as) (hp : (cSame : Ctr).pre x) (hl : LensL (cSame : Ctr).as x) : vc (fx_same x) 1 21 Try.f21 (cSame) x := by
  rw [E_same_eq]
  exact e_same x hp hl
theorem kf19_ok : CtrsOkF Try.prog kf19 := kf18_ok
theorem c_same : CtrOk Try.prog 21 (cSame) :=
  ctr_of_vc (c := cSame) (fn := Try.f21) (X := fx_same) (n := 1) (fun _ => mkFxG_all env_ok mixed_ok names_ok ks18_ok kf18_ok ps18_ok) Try.func21 (by kernel_rfl) (by kernel_rfl) (of_decide_eq_true (by kernel_rfl)) v_same
theorem ks19_ok : CtrsOk Try.prog ks19 := ⟨c_same, ks18_ok⟩
theorem ps20_ok : PrcsOk Try.prog ps20 := ps19_ok
theorem v_list (x : HL (cList : Ctr).as) (hp : (cList : Ctr).pre x) (hl : LensL (cList : Ctr).as x) : vc (fx_list x) 1 17 Try.f17 (cList) x := by
  rw [E_list_eq]
  exact e_list x hp hl
theorem kf20_ok : CtrsOkF Try.prog kf20 := kf19_ok
theorem c_list : CtrOk Try.prog 17 (cList) :=
  ctr_of_vc (c := cList) (fn := Try.f17) (X := fx_list) (n := 1) (fun _ => mkFxG_all env_ok mixed_ok names_ok ks19_ok kf19_ok ps19_ok) Try.func17 (by kernel_rfl) (by kernel_rfl) (of_decide_eq_true (by kernel_rfl)) v_list
theorem ks20_ok : CtrsOk Try.prog ks20 := ⟨c_list, ks19_ok⟩
theorem ps21_ok : PrcsOk Try.prog ps21 := ps20_ok
theorem v_longest (x : HL (cLongest : Ctr).as) (hp : (cLongest : Ctr).pre x) (hl : LensL (cLongest : Ctr).as x) : vc (fx_longest x) 1 18 Try.f18 (cLongest) x := by
  rw [E_longest_eq]
  exact e_longest x hp hl
theorem kf21_ok : CtrsOkF Try.prog kf21 := kf20_ok
theorem c_longest : CtrOk Try.prog 18 (cLongest) :=
  ctr_of_vc (c := cLongest) (fn := Try.f18) (X := fx_longest) (n := 1) (fun _ => mkFxG_all env_ok mixed_ok names_ok ks20_ok kf20_ok ps20_ok) Try.func18 (by kernel_rfl) (by kernel_rfl) (of_decide_eq_true (by kernel_rfl)) v_longest
theorem ks21_ok : CtrsOk Try.prog ks21 := ⟨c_longest, ks20_ok⟩
theorem ps22_ok : PrcsOk Try.prog ps22 := ps21_ok
theorem v_law (x : HL (cLaw : Ctr).as) (hp : (cLaw : Ctr).pre x) (hl : LensL (cLaw : Ctr).as x) : vc (fx_law x) 1 6 Try.f6 (cLaw) x := by
  rw [E_law_eq]
  exact e_law x hp hl
theorem kf22_ok : CtrsOkF Try.prog kf22 := kf21_ok
theorem c_law : CtrOk Try.prog 6 (cLaw) :=
  ctr_of_vc (c := cLaw) (fn := Try.f6) (X := fx_law) (n := 1) (fun _ => mkFxG_all env_ok mixed_ok names_ok ks21_ok kf21_ok ps21_ok) Try.func6 (by kernel_rfl) (by kernel_rfl) (of_decide_eq_true (by kernel_rfl)) v_law
theorem ks22_ok : CtrsOk Try.prog ks22 := ⟨c_law, ks21_ok⟩
theorem ksAll_ok : CtrsOk Try.prog ksAll := ks22_ok
end Go.Proofs.Ytpmfgdedkmddlaa.Plans
