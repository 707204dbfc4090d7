/-
  Each function keeps its contract.
-/
import Derived.Test.YtlkhpbjjimjhbaaDoorApicP
import Derived.Test.YtlkhpbjjimjhbaaDoorApicBitfH0
import Derived.Test.YtlkhpbjjimjhbaaDoorApicBitfH1
import Derived.Test.YtlkhpbjjimjhbaaDoorApicBitfH2
namespace Go.Proofs.YtlkhpbjjimjhbaaDoor.Apic
open Go.Sx
set_option maxRecDepth 100000
attribute [local irreducible] vc

theorem ks0_ok : CtrsOk Tryd.prog ks0 := trivial
theorem names_ok : namesOk Tryd.prog = true := by kernel_rfl
theorem mixed_ok : Tryd.prog.follows .mixedOrders = true := by kernel_rfl
theorem v_row (x : HL (cRow : Ctr).as) (hp : (cRow : Ctr).pre x) (hl : LensL (cRow : Ctr).as x) : vc (fx_row x) 1 30 Tryd.f30 (cRow) x := by
  rw [E_row_eq]
  exact e_row x hp hl
theorem c_row : CtrOk Tryd.prog 30 (cRow) :=
  ctr_of_vc (c := cRow) (fn := Tryd.f30) (X := fx_row) (n := 1) (fun _ => mkFx_all env_ok mixed_ok names_ok ks0_ok) Tryd.func30 (by kernel_rfl) (by kernel_rfl) (of_decide_eq_true (by kernel_rfl)) v_row
theorem ks1_ok : CtrsOk Tryd.prog ks1 := ⟨c_row, ks0_ok⟩
theorem v_bits (x : HL (cBits : Ctr).as) (hp : (cBits : Ctr).pre x) (hl : LensL (cBits : Ctr).as x) : vc (fx_bits x) 1 31 Tryd.f31 (cBits) x := by
  rw [E_bits_eq]
  exact e_bits x hp hl
theorem c_bits : CtrOk Tryd.prog 31 (cBits) :=
  ctr_of_vc (c := cBits) (fn := Tryd.f31) (X := fx_bits) (n := 1) (fun _ => mkFx_all env_ok mixed_ok names_ok ks1_ok) Tryd.func31 (by kernel_rfl) (by kernel_rfl) (of_decide_eq_true (by kernel_rfl)) v_bits
theorem ks2_ok : CtrsOk Tryd.prog ks2 := ⟨c_bits, ks1_ok⟩
theorem ks3_ok : CtrsOk Tryd.prog ks3 := ⟨c_len, ks2_ok⟩
theorem v_lead (x : HL (cLead : Ctr).as) (hp : (cLead : Ctr).pre x) (hl : LensL (cLead : Ctr).as x) : vc (fx_lead x) 1 29 Tryd.f29 (cLead) x := by
  rw [E_lead_eq]
  exact e_lead x hp hl
theorem c_lead : CtrOk Tryd.prog 29 (cLead) :=
  ctr_of_vc (c := cLead) (fn := Tryd.f29) (X := fx_lead) (n := 1) (fun _ => mkFx_all env_ok mixed_ok names_ok ks3_ok) Tryd.func29 (by kernel_rfl) (by kernel_rfl) (of_decide_eq_true (by kernel_rfl)) v_lead
theorem ks4_ok : CtrsOk Tryd.prog ks4 := ⟨c_lead, ks3_ok⟩
theorem ks5_ok : CtrsOk Tryd.prog ks5 := ⟨c_tz, ks4_ok⟩
theorem v_fits (x : HL (cFits : Ctr).as) (hp : (cFits : Ctr).pre x) (hl : LensL (cFits : Ctr).as x) : vc (fx_fits x) 1 28 Tryd.f28 (cFits) x := by
  rw [E_fits_eq]
  exact e_fits x hp hl
theorem c_fits : CtrOk Tryd.prog 28 (cFits) :=
  ctr_of_vc (c := cFits) (fn := Tryd.f28) (X := fx_fits) (n := 1) (fun _ => mkFx_all env_ok mixed_ok names_ok ks5_ok) Tryd.func28 (by kernel_rfl) (by kernel_rfl) (of_decide_eq_true (by kernel_rfl)) v_fits
theorem ks6_ok : CtrsOk Tryd.prog ks6 := ⟨c_fits, ks5_ok⟩
theorem v_has (x : HL (cHas : Ctr).as) (hp : (cHas : Ctr).pre x) (hl : LensL (cHas : Ctr).as x) : vc (fx_has x) 1 40 Tryd.f40 (cHas) x := by
  rw [E_has_eq]
  exact e_has x hp hl
theorem c_has : CtrOk Tryd.prog 40 (cHas) :=
  ctr_of_vc (c := cHas) (fn := Tryd.f40) (X := fx_has) (n := 1) (fun _ => mkFx_all env_ok mixed_ok names_ok ks6_ok) Tryd.func40 (by kernel_rfl) (by kernel_rfl) (of_decide_eq_true (by kernel_rfl)) v_has
theorem ks7_ok : CtrsOk Tryd.prog ks7 := ⟨c_has, ks6_ok⟩
theorem v_with (x : HL (cWith : Ctr).as) (hp : (cWith : Ctr).pre x) (hl : LensL (cWith : Ctr).as x) : vc (fx_with x) 1 16 Tryd.f16 (cWith) x := by
  rw [E_with_eq]
  exact e_with x hp hl
theorem c_with : CtrOk Tryd.prog 16 (cWith) :=
  ctr_of_vc (c := cWith) (fn := Tryd.f16) (X := fx_with) (n := 1) (fun _ => mkFx_all env_ok mixed_ok names_ok ks7_ok) Tryd.func16 (by kernel_rfl) (by kernel_rfl) (of_decide_eq_true (by kernel_rfl)) v_with
theorem ks8_ok : CtrsOk Tryd.prog ks8 := ⟨c_with, ks7_ok⟩
theorem v_without (x : HL (cWithout : Ctr).as) (hp : (cWithout : Ctr).pre x) (hl : LensL (cWithout : Ctr).as x) : vc (fx_without x) 1 17 Tryd.f17 (cWithout) x := by
  rw [E_without_eq]
  exact e_without x hp hl
theorem c_without : CtrOk Tryd.prog 17 (cWithout) :=
  ctr_of_vc (c := cWithout) (fn := Tryd.f17) (X := fx_without) (n := 1) (fun _ => mkFx_all env_ok mixed_ok names_ok ks8_ok) Tryd.func17 (by kernel_rfl) (by kernel_rfl) (of_decide_eq_true (by kernel_rfl)) v_without
theorem ks9_ok : CtrsOk Tryd.prog ks9 := ⟨c_without, ks8_ok⟩
theorem v_top (x : HL (cTop : Ctr).as) (hp : (cTop : Ctr).pre x) (hl : LensL (cTop : Ctr).as x) : vc (fx_top x) 1 18 Tryd.f18 (cTop) x := by
  rw [E_top_eq]
  exact e_top x hp hl
theorem c_top : CtrOk Tryd.prog 18 (cTop) :=
  ctr_of_vc (c := cTop) (fn := Tryd.f18) (X := fx_top) (n := 1) (fun _ => mkFx_all env_ok mixed_ok names_ok ks9_ok) Tryd.func18 (by kernel_rfl) (by kernel_rfl) (of_decide_eq_true (by kernel_rfl)) v_top
theorem ks10_ok : CtrsOk Tryd.prog ks10 := ⟨c_top, ks9_ok⟩
theorem v_next (x : HL (cNext : Ctr).as) (hp : (cNext : Ctr).pre x) (hl : LensL (cNext : Ctr).as x) : vc (fx_next x) 1 21 Tryd.f21 (cNext) x := by
  rw [E_next_eq]
  exact e_next x hp hl
theorem c_next : CtrOk Tryd.prog 21 (cNext) :=
  ctr_of_vc (c := cNext) (fn := Tryd.f21) (X := fx_next) (n := 1) (fun _ => mkFx_all env_ok mixed_ok names_ok ks10_ok) Tryd.func21 (by kernel_rfl) (by kernel_rfl) (of_decide_eq_true (by kernel_rfl)) v_next
theorem ks11_ok : CtrsOk Tryd.prog ks11 := ⟨c_next, ks10_ok⟩
theorem v_all (x : HL (cAll : Ctr).as) (hp : (cAll : Ctr).pre x) (hl : LensL (cAll : Ctr).as x) : vc (fx_all x) 1 39 Tryd.f39 (cAll) x := by
  rw [E_all_eq]
  exact e_all x hp hl
theorem c_all : CtrOk Tryd.prog 39 (cAll) :=
  ctr_of_vc (c := cAll) (fn := Tryd.f39) (X := fx_all) (n := 1) (fun _ => mkFx_all env_ok mixed_ok names_ok ks11_ok) Tryd.func39 (by kernel_rfl) (by kernel_rfl) (of_decide_eq_true (by kernel_rfl)) v_all
theorem ks12_ok : CtrsOk Tryd.prog ks12 := ⟨c_all, ks11_ok⟩
theorem v_aall (x : HL (cAll : Ctr).as) (hp : (cAll : Ctr).pre x) (hl : LensL (cAll : Ctr).as x) : vc (fx_aall x) 1 23 Tryd.f23 (cAll) x := by
  rw [E_aall_eq]
  exact e_aall x hp hl
theorem c_aall : CtrOk Tryd.prog 23 (cAll) :=
  ctr_of_vc (c := cAll) (fn := Tryd.f23) (X := fx_aall) (n := 1) (fun _ => mkFx_all env_ok mixed_ok names_ok ks12_ok) Tryd.func23 (by kernel_rfl) (by kernel_rfl) (of_decide_eq_true (by kernel_rfl)) v_aall
theorem ks13_ok : CtrsOk Tryd.prog ks13 := ⟨c_aall, ks12_ok⟩
theorem v_atop (x : HL (cTop : Ctr).as) (hp : (cTop : Ctr).pre x) (hl : LensL (cTop : Ctr).as x) : vc (fx_atop x) 1 20 Tryd.f20 (cTop) x := by
  rw [E_atop_eq]
  exact e_atop x hp hl
theorem c_atop : CtrOk Tryd.prog 20 (cTop) :=
  ctr_of_vc (c := cTop) (fn := Tryd.f20) (X := fx_atop) (n := 1) (fun _ => mkFx_all env_ok mixed_ok names_ok ks13_ok) Tryd.func20 (by kernel_rfl) (by kernel_rfl) (of_decide_eq_true (by kernel_rfl)) v_atop
theorem ks14_ok : CtrsOk Tryd.prog ks14 := ⟨c_atop, ks13_ok⟩
theorem v_aset (x : HL (cASet : Ctr).as) (hp : (cASet : Ctr).pre x) (hl : LensL (cASet : Ctr).as x) : vc (fx_aset x) 1 19 Tryd.f19 (cASet) x := by
  rw [E_aset_eq]
  exact e_aset x hp hl
theorem c_aset : CtrOk Tryd.prog 19 (cASet) :=
  ctr_of_vc (c := cASet) (fn := Tryd.f19) (X := fx_aset) (n := 1) (fun _ => mkFx_all env_ok mixed_ok names_ok ks14_ok) Tryd.func19 (by kernel_rfl) (by kernel_rfl) (of_decide_eq_true (by kernel_rfl)) v_aset
theorem ks15_ok : CtrsOk Tryd.prog ks15 := ⟨c_aset, ks14_ok⟩
theorem v_class (x : HL (cClass : Ctr).as) (hp : (cClass : Ctr).pre x) (hl : LensL (cClass : Ctr).as x) : vc (fx_class x) 1 22 Tryd.f22 (cClass) x := by
  rw [E_class_eq]
  exact e_class x hp hl
theorem c_class : CtrOk Tryd.prog 22 (cClass) :=
  ctr_of_vc (c := cClass) (fn := Tryd.f22) (X := fx_class) (n := 1) (fun _ => mkFx_all env_ok mixed_ok names_ok ks15_ok) Tryd.func22 (by kernel_rfl) (by kernel_rfl) (of_decide_eq_true (by kernel_rfl)) v_class
theorem ks16_ok : CtrsOk Tryd.prog ks16 := ⟨c_class, ks15_ok⟩
theorem v_right (x : HL (cRightL : Ctr).as) (hp : (cRightL : Ctr).pre x) (hl : LensL (cRightL : Ctr).as x) : vc (fx_right x) 1 7 Tryd.f7 (cRightL) x := by
  rw [E_right_eq]
  exact e_right x hp hl
theorem c_right : CtrOk Tryd.prog 7 (cRightL) :=
  ctr_of_vc (c := cRightL) (fn := Tryd.f7) (X := fx_right) (n := 1) (fun _ => mkFx_all env_ok mixed_ok names_ok ks16_ok) Tryd.func7 (by kernel_rfl) (by kernel_rfl) (of_decide_eq_true (by kernel_rfl)) v_right
theorem ks17_ok : CtrsOk Tryd.prog ks17 := ⟨c_right, ks16_ok⟩
theorem v_bright (x : HL (cRightL : Ctr).as) (hp : (cRightL : Ctr).pre x) (hl : LensL (cRightL : Ctr).as x) : vc (fx_bright x) 1 8 Tryd.f8 (cRightL) x := by
  rw [E_bright_eq]
  exact e_bright x hp hl
theorem c_bright : CtrOk Tryd.prog 8 (cRightL) :=
  ctr_of_vc (c := cRightL) (fn := Tryd.f8) (X := fx_bright) (n := 1) (fun _ => mkFx_all env_ok mixed_ok names_ok ks17_ok) Tryd.func8 (by kernel_rfl) (by kernel_rfl) (of_decide_eq_true (by kernel_rfl)) v_bright
theorem ks18_ok : CtrsOk Tryd.prog ks18 := ⟨c_bright, ks17_ok⟩
theorem v_level (x : HL (cLvl : Ctr).as) (hp : (cLvl : Ctr).pre x) (hl : LensL (cLvl : Ctr).as x) : vc (fx_level x) 1 24 Tryd.f24 (cLvl) x := by
  rw [E_level_eq]
  exact e_level x hp hl
theorem c_level : CtrOk Tryd.prog 24 (cLvl) :=
  ctr_of_vc (c := cLvl) (fn := Tryd.f24) (X := fx_level) (n := 1) (fun _ => mkFx_all env_ok mixed_ok names_ok ks18_ok) Tryd.func24 (by kernel_rfl) (by kernel_rfl) (of_decide_eq_true (by kernel_rfl)) v_level
theorem ks19_ok : CtrsOk Tryd.prog ks19 := ⟨c_level, ks18_ok⟩
theorem v_would (x : HL (cWould : Ctr).as) (hp : (cWould : Ctr).pre x) (hl : LensL (cWould : Ctr).as x) : vc (fx_would x) 1 9 Tryd.f9 (cWould) x := by
  rw [E_would_eq]
  exact e_would x hp hl
theorem c_would : CtrOk Tryd.prog 9 (cWould) :=
  ctr_of_vc (c := cWould) (fn := Tryd.f9) (X := fx_would) (n := 1) (fun _ => mkFx_all env_ok mixed_ok names_ok ks19_ok) Tryd.func9 (by kernel_rfl) (by kernel_rfl) (of_decide_eq_true (by kernel_rfl)) v_would
theorem ks20_ok : CtrsOk Tryd.prog ks20 := ⟨c_would, ks19_ok⟩
theorem v_bwould (x : HL (cWould : Ctr).as) (hp : (cWould : Ctr).pre x) (hl : LensL (cWould : Ctr).as x) : vc (fx_bwould x) 1 10 Tryd.f10 (cWould) x := by
  rw [E_bwould_eq]
  exact e_bwould x hp hl
theorem c_bwould : CtrOk Tryd.prog 10 (cWould) :=
  ctr_of_vc (c := cWould) (fn := Tryd.f10) (X := fx_bwould) (n := 1) (fun _ => mkFx_all env_ok mixed_ok names_ok ks20_ok) Tryd.func10 (by kernel_rfl) (by kernel_rfl) (of_decide_eq_true (by kernel_rfl)) v_bwould
theorem ks21_ok : CtrsOk Tryd.prog ks21 := ⟨c_bwould, ks20_ok⟩
theorem v_astep (x : HL (cStep : Ctr).as) (hp : (cStep : Ctr).pre x) (hl : LensL (cStep : Ctr).as x) : vc (fx_astep x) 2 5 Tryd.f5 (cStep) x := by
  rw [E_astep_eq]
  exact e_astep x hp hl
theorem c_astep : CtrOk Tryd.prog 5 (cStep) :=
  ctr_of_vc (c := cStep) (fn := Tryd.f5) (X := fx_astep) (n := 2) (fun _ => mkFx_all env_ok mixed_ok names_ok ks21_ok) Tryd.func5 (by kernel_rfl) (by kernel_rfl) (of_decide_eq_true (by kernel_rfl)) v_astep
theorem ks22_ok : CtrsOk Tryd.prog ks22 := ⟨c_astep, ks21_ok⟩
theorem v_bstep (x : HL (cStep : Ctr).as) (hp : (cStep : Ctr).pre x) (hl : LensL (cStep : Ctr).as x) : vc (fx_bstep x) 1 6 Tryd.f6 (cStep) x := by
  rw [E_bstep_eq]
  exact e_bstep x hp hl
theorem c_bstep : CtrOk Tryd.prog 6 (cStep) :=
  ctr_of_vc (c := cStep) (fn := Tryd.f6) (X := fx_bstep) (n := 1) (fun _ => mkFx_all env_ok mixed_ok names_ok ks22_ok) Tryd.func6 (by kernel_rfl) (by kernel_rfl) (of_decide_eq_true (by kernel_rfl)) v_bstep
theorem ks23_ok : CtrsOk Tryd.prog ks23 := ⟨c_bstep, ks22_ok⟩
theorem v_tells (x : HL (cTells : Ctr).as) (hp : (cTells : Ctr).pre x) (hl : LensL (cTells : Ctr).as x) : vc (fx_tells x) 1 3 Tryd.f3 (cTells) x := by
  rw [E_tells_eq]
  exact e_tells x hp hl
theorem c_tells : CtrOk Tryd.prog 3 (cTells) :=
  ctr_of_vc (c := cTells) (fn := Tryd.f3) (X := fx_tells) (n := 1) (fun _ => mkFx_all env_ok mixed_ok names_ok ks23_ok) Tryd.func3 (by kernel_rfl) (by kernel_rfl) (of_decide_eq_true (by kernel_rfl)) v_tells
theorem ks24_ok : CtrsOk Tryd.prog ks24 := ⟨c_tells, ks23_ok⟩
theorem ksAll_ok : CtrsOk Tryd.prog ksAll := ks24_ok
end Go.Proofs.YtlkhpbjjimjhbaaDoor.Apic
