/-
  Each function keeps its contract.
-/
import Derived.Test.YtpnmfoojmodnlaaLiftsP3
import Derived.Test.YtpnmfoojmodnlaaLiftsH0
import Derived.Test.YtpnmfoojmodnlaaLiftsH1
import Derived.Test.YtpnmfoojmodnlaaLiftsH2
import Derived.Test.YtpnmfoojmodnlaaLiftsH3
import Derived.Test.YtpnmfoojmodnlaaLiftsH4
namespace Go.Proofs.Ytpnmfoojmodnlaa.Lifts
open Go.Sx
set_option maxRecDepth 100000
attribute [local irreducible] vc vcF vcPr

theorem kf0_ok : CtrsOkF Try.prog kf0 := trivial
theorem ps0_ok : PrcsOk Try.prog ps0 := trivial
theorem knAll_ok : CtrsOkN Try.prog knAll := ⟨c_grow, trivial⟩
theorem kcAll_ok : CtrsOkC Try.prog kcAll := ⟨c_sorted, trivial⟩
theorem ks0_ok : CtrsOk Try.prog ks0 := trivial
theorem names_ok : namesOk Try.prog = true := by kernel_rfl
theorem mixed_ok : Try.prog.follows .mixedOrders = true := by kernel_rfl
theorem kf1_ok : CtrsOkF Try.prog kf1 := kf0_ok
theorem ks1_ok : CtrsOk Try.prog ks1 := ks0_ok
theorem ps1_ok : PrcsOk Try.prog ps1 := ⟨c_sort, ps0_ok⟩
theorem v_rev (x : (pRev : Prc).G) (hp : (pRev : Prc).pre x) (hl : (pRev : Prc).lens x) : vcPr (fx_rev x) 1 38 Try.f38 (pRev) x := by
  rw [E_rev_eq]
  exact e_rev x hp hl
theorem c_rev : PrcOk Try.prog 38 (pRev) :=
  prc_of_vc (p := pRev) (fn := Try.f38) (X := fx_rev) (n := 1) (fun _ => mkFxX_all env_ok mixed_ok names_ok ks1_ok kf1_ok ps1_ok knAll_ok kcAll_ok) Try.func38 (by kernel_rfl) (by kernel_rfl) v_rev
theorem ks2_ok : CtrsOk Try.prog ks2 := ks1_ok
theorem kf2_ok : CtrsOkF Try.prog kf2 := kf1_ok
theorem ps2_ok : PrcsOk Try.prog ps2 := ⟨c_rev, ps1_ok⟩
theorem ps3_ok : PrcsOk Try.prog ps3 := ps2_ok
theorem v_equal (x : HL (cEqual : Ctr).as) (hp : (cEqual : Ctr).pre x) (hl : LensL (cEqual : Ctr).as x) : vc (fx_equal x) 1 16 Try.f16 (cEqual) x := by
  rw [E_equal_eq]
  exact e_equal x hp hl
theorem kf3_ok : CtrsOkF Try.prog kf3 := kf2_ok
theorem c_equal : CtrOk Try.prog 16 (cEqual) :=
  ctr_of_vc (c := cEqual) (fn := Try.f16) (X := fx_equal) (n := 1) (fun _ => mkFxX_all env_ok mixed_ok names_ok ks2_ok kf2_ok ps2_ok knAll_ok kcAll_ok) Try.func16 (by kernel_rfl) (by kernel_rfl) (of_decide_eq_true (by kernel_rfl)) v_equal
theorem ks3_ok : CtrsOk Try.prog ks3 := ⟨c_equal, ks2_ok⟩
theorem ps4_ok : PrcsOk Try.prog ps4 := ps3_ok
theorem v_min (x : HL (cMin : Ctr).as) (hp : (cMin : Ctr).pre x) (hl : LensL (cMin : Ctr).as x) : vc (fx_min x) 1 44 Try.f44 (cMin) x := by
  rw [E_min_eq]
  exact e_min x hp hl
theorem kf4_ok : CtrsOkF Try.prog kf4 := kf3_ok
theorem c_min : CtrOk Try.prog 44 (cMin) :=
  ctr_of_vc (c := cMin) (fn := Try.f44) (X := fx_min) (n := 1) (fun _ => mkFxX_all env_ok mixed_ok names_ok ks3_ok kf3_ok ps3_ok knAll_ok kcAll_ok) Try.func44 (by kernel_rfl) (by kernel_rfl) (of_decide_eq_true (by kernel_rfl)) v_min
theorem ks4_ok : CtrsOk Try.prog ks4 := ⟨c_min, ks3_ok⟩
theorem ps5_ok : PrcsOk Try.prog ps5 := ps4_ok
theorem v_max (x : HL (cMax : Ctr).as) (hp : (cMax : Ctr).pre x) (hl : LensL (cMax : Ctr).as x) : vc (fx_max x) 1 43 Try.f43 (cMax) x := by
  rw [E_max_eq]
  exact e_max x hp hl
theorem kf5_ok : CtrsOkF Try.prog kf5 := kf4_ok
theorem c_max : CtrOk Try.prog 43 (cMax) :=
  ctr_of_vc (c := cMax) (fn := Try.f43) (X := fx_max) (n := 1) (fun _ => mkFxX_all env_ok mixed_ok names_ok ks4_ok kf4_ok ps4_ok knAll_ok kcAll_ok) Try.func43 (by kernel_rfl) (by kernel_rfl) (of_decide_eq_true (by kernel_rfl)) v_max
theorem ks5_ok : CtrsOk Try.prog ks5 := ⟨c_max, ks4_ok⟩
theorem ps6_ok : PrcsOk Try.prog ps6 := ps5_ok
theorem v_nan (x : HL (cNaN : Ctr).as) (hp : (cNaN : Ctr).pre x) (hl : LensL (cNaN : Ctr).as x) : vc (fx_nan x) 1 61 Try.f61 (cNaN) x := by
  rw [E_nan_eq]
  exact e_nan x hp hl
theorem kf6_ok : CtrsOkF Try.prog kf6 := kf5_ok
theorem c_nan : CtrOk Try.prog 61 (cNaN) :=
  ctr_of_vc (c := cNaN) (fn := Try.f61) (X := fx_nan) (n := 1) (fun _ => mkFxX_all env_ok mixed_ok names_ok ks5_ok kf5_ok ps5_ok knAll_ok kcAll_ok) Try.func61 (by kernel_rfl) (by kernel_rfl) (of_decide_eq_true (by kernel_rfl)) v_nan
theorem ks6_ok : CtrsOk Try.prog ks6 := ⟨c_nan, ks5_ok⟩
theorem ps7_ok : PrcsOk Try.prog ps7 := ps6_ok
theorem v_less (x : HL (cLess : Ctr).as) (hp : (cLess : Ctr).pre x) (hl : LensL (cLess : Ctr).as x) : vc (fx_less x) 2 60 Try.f60 (cLess) x := by
  rw [E_less_eq]
  exact e_less x hp hl
theorem kf7_ok : CtrsOkF Try.prog kf7 := kf6_ok
theorem c_less : CtrOk Try.prog 60 (cLess) :=
  ctr_of_vc (c := cLess) (fn := Try.f60) (X := fx_less) (n := 2) (fun _ => mkFxX_all env_ok mixed_ok names_ok ks6_ok kf6_ok ps6_ok knAll_ok kcAll_ok) Try.func60 (by kernel_rfl) (by kernel_rfl) (of_decide_eq_true (by kernel_rfl)) v_less
theorem ks7_ok : CtrsOk Try.prog ks7 := ⟨c_less, ks6_ok⟩
theorem ps8_ok : PrcsOk Try.prog ps8 := ps7_ok
theorem v_bs (x : HL (cBS : Ctr).as) (hp : (cBS : Ctr).pre x) (hl : LensL (cBS : Ctr).as x) : vc (fx_bs x) 1 36 Try.f36 (cBS) x := by
  rw [E_bs_eq]
  exact e_bs x hp hl
theorem kf8_ok : CtrsOkF Try.prog kf8 := kf7_ok
theorem c_bs : CtrOk Try.prog 36 (cBS) :=
  ctr_of_vc (c := cBS) (fn := Try.f36) (X := fx_bs) (n := 1) (fun _ => mkFxX_all env_ok mixed_ok names_ok ks7_ok kf7_ok ps7_ok knAll_ok kcAll_ok) Try.func36 (by kernel_rfl) (by kernel_rfl) (of_decide_eq_true (by kernel_rfl)) v_bs
theorem ks8_ok : CtrsOk Try.prog ks8 := ⟨c_bs, ks7_ok⟩
theorem ps9_ok : PrcsOk Try.prog ps9 := ps8_ok
theorem v_clone (x : HL (cClone : Ctr).as) (hp : (cClone : Ctr).pre x) (hl : LensL (cClone : Ctr).as x) : vc (fx_clone x) 1 37 Try.f37 (cClone) x := by
  rw [E_clone_eq]
  exact e_clone x hp hl
theorem kf9_ok : CtrsOkF Try.prog kf9 := kf8_ok
theorem c_clone : CtrOk Try.prog 37 (cClone) :=
  ctr_of_vc (c := cClone) (fn := Try.f37) (X := fx_clone) (n := 1) (fun _ => mkFxX_all env_ok mixed_ok names_ok ks8_ok kf8_ok ps8_ok knAll_ok kcAll_ok) Try.func37 (by kernel_rfl) (by kernel_rfl) (of_decide_eq_true (by kernel_rfl)) v_clone
theorem ks9_ok : CtrsOk Try.prog ks9 := ⟨c_clone, ks8_ok⟩
theorem ps10_ok : PrcsOk Try.prog ps10 := ps9_ok
theorem v_concat (x : HL (cConcat : Ctr).as) (hp : (cConcat : Ctr).pre x) (hl : LensL (cConcat : Ctr).as x) : vc (fx_concat x) 1 17 Try.f17 (cConcat) x := by
  rw [E_concat_eq]
  exact e_concat x hp hl
theorem kf10_ok : CtrsOkF Try.prog kf10 := kf9_ok
theorem c_concat : CtrOk Try.prog 17 (cConcat) :=
  ctr_of_vc (c := cConcat) (fn := Try.f17) (X := fx_concat) (n := 1) (fun _ => mkFxX_all env_ok mixed_ok names_ok ks9_ok kf9_ok ps9_ok knAll_ok kcAll_ok) Try.func17 (by kernel_rfl) (by kernel_rfl) (of_decide_eq_true (by kernel_rfl)) v_concat
theorem ks10_ok : CtrsOk Try.prog ks10 := ⟨c_concat, ks9_ok⟩
theorem ps11_ok : PrcsOk Try.prog ps11 := ps10_ok
theorem v_any (x : HL (cAny : Ctr).as) (hp : (cAny : Ctr).pre x) (hl : LensL (cAny : Ctr).as x) : vcF (fx_any x) 3 39 40 Try.f39 (cAny) x := by
  rw [E_any_eq]
  exact e_any x hp hl
theorem c_any : CtrOkF Try.prog 39 40 (cAny) :=
  ctrF_of_vc (c := cAny) (fn := Try.f39) (X := fx_any) (n := 3) (fun _ => mkFxX_all env_ok mixed_ok names_ok ks10_ok kf10_ok ps10_ok knAll_ok kcAll_ok) Try.func39 (by kernel_rfl) (by kernel_rfl) (of_decide_eq_true (by kernel_rfl)) v_any
theorem ks11_ok : CtrsOk Try.prog ks11 := ks10_ok
theorem kf11_ok : CtrsOkF Try.prog kf11 := ⟨c_any, kf10_ok⟩
theorem ps12_ok : PrcsOk Try.prog ps12 := ps11_ok
theorem v_wrong (x : HL (cWrong : Ctr).as) (hp : (cWrong : Ctr).pre x) (hl : LensL (cWrong : Ctr).as x) : vc (fx_wrong x) 1 13 Try.f13 (cWrong) x := by
  rw [E_wrong_eq]
  exact e_wrong x hp hl
theorem kf12_ok : CtrsOkF Try.prog kf12 := kf11_ok
theorem c_wrong : CtrOk Try.prog 13 (cWrong) :=
  ctr_of_vc (c := cWrong) (fn := Try.f13) (X := fx_wrong) (n := 1) (fun _ => mkFxX_all env_ok mixed_ok names_ok ks11_ok kf11_ok ps11_ok knAll_ok kcAll_ok) Try.func13 (by kernel_rfl) (by kernel_rfl) (of_decide_eq_true (by kernel_rfl)) v_wrong
theorem ks12_ok : CtrsOk Try.prog ks12 := ⟨c_wrong, ks11_ok⟩
theorem ps13_ok : PrcsOk Try.prog ps13 := ps12_ok
theorem v_way (x : HL (cWay : Ctr).as) (hp : (cWay : Ctr).pre x) (hl : LensL (cWay : Ctr).as x) : vc (fx_way x) 1 10 Try.f10 (cWay) x := by
  rw [E_way_eq]
  exact e_way x hp hl
theorem kf13_ok : CtrsOkF Try.prog kf13 := kf12_ok
theorem c_way : CtrOk Try.prog 10 (cWay) :=
  ctr_of_vc (c := cWay) (fn := Try.f10) (X := fx_way) (n := 1) (fun _ => mkFxX_all env_ok mixed_ok names_ok ks12_ok kf12_ok ps12_ok knAll_ok kcAll_ok) Try.func10 (by kernel_rfl) (by kernel_rfl) (of_decide_eq_true (by kernel_rfl)) v_way
theorem ks13_ok : CtrsOk Try.prog ks13 := ⟨c_way, ks12_ok⟩
theorem ps14_ok : PrcsOk Try.prog ps14 := ps13_ok
theorem v_sway (x : HL (cSway : Ctr).as) (hp : (cSway : Ctr).pre x) (hl : LensL (cSway : Ctr).as x) : vc (fx_sway x) 1 14 Try.f14 (cSway) x := by
  rw [E_sway_eq]
  exact e_sway x hp hl
theorem kf14_ok : CtrsOkF Try.prog kf14 := kf13_ok
theorem c_sway : CtrOk Try.prog 14 (cSway) :=
  ctr_of_vc (c := cSway) (fn := Try.f14) (X := fx_sway) (n := 1) (fun _ => mkFxX_all env_ok mixed_ok names_ok ks13_ok kf13_ok ps13_ok knAll_ok kcAll_ok) Try.func14 (by kernel_rfl) (by kernel_rfl) (of_decide_eq_true (by kernel_rfl)) v_sway
theorem ks14_ok : CtrsOk Try.prog ks14 := ⟨c_sway, ks13_ok⟩
theorem ps15_ok : PrcsOk Try.prog ps15 := ps14_ok
theorem v_sshort (x : HL (cSshort : Ctr).as) (hp : (cSshort : Ctr).pre x) (hl : LensL (cSshort : Ctr).as x) : vc (fx_sshort x) 2 18 Try.f18 (cSshort) x := by
  rw [E_sshort_eq]
  exact e_sshort x hp hl
theorem kf15_ok : CtrsOkF Try.prog kf15 := kf14_ok
theorem c_sshort : CtrOk Try.prog 18 (cSshort) :=
  ctr_of_vc (c := cSshort) (fn := Try.f18) (X := fx_sshort) (n := 2) (fun _ => mkFxX_all env_ok mixed_ok names_ok ks14_ok kf14_ok ps14_ok knAll_ok kcAll_ok) Try.func18 (by kernel_rfl) (by kernel_rfl) (of_decide_eq_true (by kernel_rfl)) v_sshort
theorem ks15_ok : CtrsOk Try.prog ks15 := ⟨c_sshort, ks14_ok⟩
theorem ps16_ok : PrcsOk Try.prog ps16 := ps15_ok
theorem v_parts (x : HL (cParts : Ctr).as) (hp : (cParts : Ctr).pre x) (hl : LensL (cParts : Ctr).as x) : vc (fx_parts x) 1 15 Try.f15 (cParts) x := by
  rw [E_parts_eq]
  exact e_parts x hp hl
theorem kf16_ok : CtrsOkF Try.prog kf16 := kf15_ok
theorem c_parts : CtrOk Try.prog 15 (cParts) :=
  ctr_of_vc (c := cParts) (fn := Try.f15) (X := fx_parts) (n := 1) (fun _ => mkFxX_all env_ok mixed_ok names_ok ks15_ok kf15_ok ps15_ok knAll_ok kcAll_ok) Try.func15 (by kernel_rfl) (by kernel_rfl) (of_decide_eq_true (by kernel_rfl)) v_parts
theorem ks16_ok : CtrsOk Try.prog ks16 := ⟨c_parts, ks15_ok⟩
theorem ps17_ok : PrcsOk Try.prog ps17 := ps16_ok
theorem v_sweep (x : HL (cSweep : Ctr).as) (hp : (cSweep : Ctr).pre x) (hl : LensL (cSweep : Ctr).as x) : vc (fx_sweep x) 2 11 Try.f11 (cSweep) x := by
  rw [E_sweep_eq]
  exact e_sweep x hp hl
theorem kf17_ok : CtrsOkF Try.prog kf17 := kf16_ok
theorem c_sweep : CtrOk Try.prog 11 (cSweep) :=
  ctr_of_vc (c := cSweep) (fn := Try.f11) (X := fx_sweep) (n := 2) (fun _ => mkFxX_all env_ok mixed_ok names_ok ks16_ok kf16_ok ps16_ok knAll_ok kcAll_ok) Try.func11 (by kernel_rfl) (by kernel_rfl) (of_decide_eq_true (by kernel_rfl)) v_sweep
theorem ks17_ok : CtrsOk Try.prog ks17 := ⟨c_sweep, ks16_ok⟩
theorem ps18_ok : PrcsOk Try.prog ps18 := ps17_ok
theorem v_short (x : HL (cShort : Ctr).as) (hp : (cShort : Ctr).pre x) (hl : LensL (cShort : Ctr).as x) : vc (fx_short x) 2 12 Try.f12 (cShort) x := by
  rw [E_short_eq]
  exact e_short x hp hl
theorem kf18_ok : CtrsOkF Try.prog kf18 := kf17_ok
theorem c_short : CtrOk Try.prog 12 (cShort) :=
  ctr_of_vc (c := cShort) (fn := Try.f12) (X := fx_short) (n := 2) (fun _ => mkFxX_all env_ok mixed_ok names_ok ks17_ok kf17_ok ps17_ok knAll_ok kcAll_ok) Try.func12 (by kernel_rfl) (by kernel_rfl) (of_decide_eq_true (by kernel_rfl)) v_short
theorem ks18_ok : CtrsOk Try.prog ks18 := ⟨c_short, ks17_ok⟩
theorem ps19_ok : PrcsOk Try.prog ps19 := ps18_ok
theorem v_law (x : HL (cLaw : Ctr).as) (hp : (cLaw : Ctr).pre x) (hl : LensL (cLaw : Ctr).as x) : vc (fx_law x) 1 4 Try.f4 (cLaw) x := by
  rw [E_law_eq]
  exact e_law x hp hl
theorem kf19_ok : CtrsOkF Try.prog kf19 := kf18_ok
theorem c_law : CtrOk Try.prog 4 (cLaw) :=
  ctr_of_vc (c := cLaw) (fn := Try.f4) (X := fx_law) (n := 1) (fun _ => mkFxX_all env_ok mixed_ok names_ok ks18_ok kf18_ok ps18_ok knAll_ok kcAll_ok) Try.func4 (by kernel_rfl) (by kernel_rfl) (of_decide_eq_true (by kernel_rfl)) v_law
theorem ks19_ok : CtrsOk Try.prog ks19 := ⟨c_law, ks18_ok⟩
theorem ksAll_ok : CtrsOk Try.prog ksAll := ks19_ok
end Go.Proofs.Ytpnmfoojmodnlaa.Lifts
