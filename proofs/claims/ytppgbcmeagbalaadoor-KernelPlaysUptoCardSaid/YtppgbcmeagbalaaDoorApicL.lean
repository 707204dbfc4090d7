/-
 Each function keeps its contract.
-/
import Derived.Test.YtppgbcmeagbalaaDoorApicP
import Derived.Test.YtppgbcmeagbalaaDoorApicBitfH0
import Derived.Test.YtppgbcmeagbalaaDoorApicBitfH1
import Derived.Test.YtppgbcmeagbalaaDoorApicBitfH2
namespace Go.Proofs.YtppgbcmeagbalaaDoor.Apic
open Go.Sx
set_option maxRecDepth 100000
attribute [local irreducible] vc

theorem ks0_ok : CtrsOk Tryd.prog ks0 := trivial
theorem names_ok : namesOk Tryd.prog = true := by kernel_rfl
theorem mixed_ok : Tryd.prog.follows .mixedOrders = true := by kernel_rfl
theorem ks1_ok : CtrsOk Tryd.prog ks1 := ⟨c_len, ks0_ok⟩
theorem v_lead (x : HL (cLead : Ctr).as) (hp : (cLead : Ctr).pre x) (hl : LensL (cLead : Ctr).as x) : vc (fx_lead x) 1 53 Tryd.f53 (cLead) x := by
 rw [E_lead_eq]
 exact e_lead x hp hl
theorem c_lead : CtrOk Tryd.prog 53 (cLead) :=
 ctr_of_vc (c := cLead) (fn := Tryd.f53) (X := fx_lead) (n := 1) (fun _ => mkFx_all env_ok mixed_ok names_ok ks1_ok) Tryd.func53 (by kernel_rfl) (by kernel_rfl) (of_decide_eq_true (by kernel_rfl)) v_lead
theorem ks2_ok : CtrsOk Tryd.prog ks2 := ⟨c_lead, ks1_ok⟩
theorem ks3_ok : CtrsOk Tryd.prog ks3 := ⟨c_tz, ks2_ok⟩
theorem v_fits (x : HL (cFits : Ctr).as) (hp : (cFits : Ctr).pre x) (hl : LensL (cFits : Ctr).as x) : vc (fx_fits x) 1 52 Tryd.f52 (cFits) x := by
 rw [E_fits_eq]
 exact e_fits x hp hl
theorem c_fits : CtrOk Tryd.prog 52 (cFits) :=
 ctr_of_vc (c := cFits) (fn := Tryd.f52) (X := fx_fits) (n := 1) (fun _ => mkFx_all env_ok mixed_ok names_ok ks3_ok) Tryd.func52 (by kernel_rfl) (by kernel_rfl) (of_decide_eq_true (by kernel_rfl)) v_fits
theorem ks4_ok : CtrsOk Tryd.prog ks4 := ⟨c_fits, ks3_ok⟩
theorem v_with (x : HL (cWith : Ctr).as) (hp : (cWith : Ctr).pre x) (hl : LensL (cWith : Ctr).as x) : vc (fx_with x) 1 37 Tryd.f37 (cWith) x := by
 rw [E_with_eq]
 exact e_with x hp hl
theorem c_with : CtrOk Tryd.prog 37 (cWith) :=
 ctr_of_vc (c := cWith) (fn := Tryd.f37) (X := fx_with) (n := 1) (fun _ => mkFx_all env_ok mixed_ok names_ok ks4_ok) Tryd.func37 (by kernel_rfl) (by kernel_rfl) (of_decide_eq_true (by kernel_rfl)) v_with
theorem ks5_ok : CtrsOk Tryd.prog ks5 := ⟨c_with, ks4_ok⟩
theorem v_without (x : HL (cWithout : Ctr).as) (hp : (cWithout : Ctr).pre x) (hl : LensL (cWithout : Ctr).as x) : vc (fx_without x) 1 38 Tryd.f38 (cWithout) x := by
 rw [E_without_eq]
 exact e_without x hp hl
theorem c_without : CtrOk Tryd.prog 38 (cWithout) :=
 ctr_of_vc (c := cWithout) (fn := Tryd.f38) (X := fx_without) (n := 1) (fun _ => mkFx_all env_ok mixed_ok names_ok ks5_ok) Tryd.func38 (by kernel_rfl) (by kernel_rfl) (of_decide_eq_true (by kernel_rfl)) v_without
theorem ks6_ok : CtrsOk Tryd.prog ks6 := ⟨c_without, ks5_ok⟩
theorem v_top (x : HL (cTop : Ctr).as) (hp : (cTop : Ctr).pre x) (hl : LensL (cTop : Ctr).as x) : vc (fx_top x) 1 39 Tryd.f39 (cTop) x := by
 rw [E_top_eq]
 exact e_top x hp hl
theorem c_top : CtrOk Tryd.prog 39 (cTop) :=
 ctr_of_vc (c := cTop) (fn := Tryd.f39) (X := fx_top) (n := 1) (fun _ => mkFx_all env_ok mixed_ok names_ok ks6_ok) Tryd.func39 (by kernel_rfl) (by kernel_rfl) (of_decide_eq_true (by kernel_rfl)) v_top
theorem ks7_ok : CtrsOk Tryd.prog ks7 := ⟨c_top, ks6_ok⟩
theorem v_next (x : HL (cNext : Ctr).as) (hp : (cNext : Ctr).pre x) (hl : LensL (cNext : Ctr).as x) : vc (fx_next x) 1 51 Tryd.f51 (cNext) x := by
 rw [E_next_eq]
 exact e_next x hp hl
theorem c_next : CtrOk Tryd.prog 51 (cNext) :=
 ctr_of_vc (c := cNext) (fn := Tryd.f51) (X := fx_next) (n := 1) (fun _ => mkFx_all env_ok mixed_ok names_ok ks7_ok) Tryd.func51 (by kernel_rfl) (by kernel_rfl) (of_decide_eq_true (by kernel_rfl)) v_next
theorem ks8_ok : CtrsOk Tryd.prog ks8 := ⟨c_next, ks7_ok⟩
theorem v_class (x : HL (cClass : Ctr).as) (hp : (cClass : Ctr).pre x) (hl : LensL (cClass : Ctr).as x) : vc (fx_class x) 1 41 Tryd.f41 (cClass) x := by
 rw [E_class_eq]
 exact e_class x hp hl
theorem c_class : CtrOk Tryd.prog 41 (cClass) :=
 ctr_of_vc (c := cClass) (fn := Tryd.f41) (X := fx_class) (n := 1) (fun _ => mkFx_all env_ok mixed_ok names_ok ks8_ok) Tryd.func41 (by kernel_rfl) (by kernel_rfl) (of_decide_eq_true (by kernel_rfl)) v_class
theorem ks9_ok : CtrsOk Tryd.prog ks9 := ⟨c_class, ks8_ok⟩
theorem v_right (x : HL (cRightL : Ctr).as) (hp : (cRightL : Ctr).pre x) (hl : LensL (cRightL : Ctr).as x) : vc (fx_right x) 1 36 Tryd.f36 (cRightL) x := by
 rw [E_right_eq]
 exact e_right x hp hl
theorem c_right : CtrOk Tryd.prog 36 (cRightL) :=
 ctr_of_vc (c := cRightL) (fn := Tryd.f36) (X := fx_right) (n := 1) (fun _ => mkFx_all env_ok mixed_ok names_ok ks9_ok) Tryd.func36 (by kernel_rfl) (by kernel_rfl) (of_decide_eq_true (by kernel_rfl)) v_right
theorem ks10_ok : CtrsOk Tryd.prog ks10 := ⟨c_right, ks9_ok⟩
theorem v_level (x : HL (cLvl : Ctr).as) (hp : (cLvl : Ctr).pre x) (hl : LensL (cLvl : Ctr).as x) : vc (fx_level x) 1 42 Tryd.f42 (cLvl) x := by
 rw [E_level_eq]
 exact e_level x hp hl
theorem c_level : CtrOk Tryd.prog 42 (cLvl) :=
 ctr_of_vc (c := cLvl) (fn := Tryd.f42) (X := fx_level) (n := 1) (fun _ => mkFx_all env_ok mixed_ok names_ok ks10_ok) Tryd.func42 (by kernel_rfl) (by kernel_rfl) (of_decide_eq_true (by kernel_rfl)) v_level
theorem ks11_ok : CtrsOk Tryd.prog ks11 := ⟨c_level, ks10_ok⟩
theorem v_would (x : HL (cWould : Ctr).as) (hp : (cWould : Ctr).pre x) (hl : LensL (cWould : Ctr).as x) : vc (fx_would x) 1 24 Tryd.f24 (cWould) x := by
 rw [E_would_eq]
 exact e_would x hp hl
theorem c_would : CtrOk Tryd.prog 24 (cWould) :=
 ctr_of_vc (c := cWould) (fn := Tryd.f24) (X := fx_would) (n := 1) (fun _ => mkFx_all env_ok mixed_ok names_ok ks11_ok) Tryd.func24 (by kernel_rfl) (by kernel_rfl) (of_decide_eq_true (by kernel_rfl)) v_would
theorem ks12_ok : CtrsOk Tryd.prog ks12 := ⟨c_would, ks11_ok⟩
theorem v_astep (x : HL (cStep : Ctr).as) (hp : (cStep : Ctr).pre x) (hl : LensL (cStep : Ctr).as x) : vc (fx_astep x) 2 22 Tryd.f22 (cStep) x := by
 rw [E_astep_eq]
 exact e_astep x hp hl
theorem c_astep : CtrOk Tryd.prog 22 (cStep) :=
 ctr_of_vc (c := cStep) (fn := Tryd.f22) (X := fx_astep) (n := 2) (fun _ => mkFx_all env_ok mixed_ok names_ok ks12_ok) Tryd.func22 (by kernel_rfl) (by kernel_rfl) (of_decide_eq_true (by kernel_rfl)) v_astep
theorem ks13_ok : CtrsOk Tryd.prog ks13 := ⟨c_astep, ks12_ok⟩
theorem ksAll_ok : CtrsOk Tryd.prog ksAll := ks13_ok
end Go.Proofs.YtppgbcmeagbalaaDoor.Apic
