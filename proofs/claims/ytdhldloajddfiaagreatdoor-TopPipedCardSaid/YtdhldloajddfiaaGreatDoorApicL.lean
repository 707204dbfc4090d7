/-
 Each function keeps its contract.
-/
import Derived.Test.YtdhldloajddfiaaGreatDoorApicPJ
import Derived.Test.YtdhldloajddfiaaGreatDoorApicHJ
namespace Go.Proofs.YtdhldloajddfiaaGreatDoor.Apic
open Go.Sx
set_option maxRecDepth 100000
attribute [local irreducible] vc

theorem ks0_ok : CtrsOk Tryz.prog ks0 := trivial
theorem names_ok : namesOk Tryz.prog = true := by kernel_rfl
theorem mixed_ok : Tryz.prog.follows .mixedOrders = true := by kernel_rfl
theorem ks1_ok : CtrsOk Tryz.prog ks1 := ⟨c_len, ks0_ok⟩
theorem v_lead (x : HL (cLead : Ctr).as) (hp : (cLead : Ctr).pre x) (hl : LensL (cLead : Ctr).as x) : vc (fx_lead x) 1 108 Tryz.f108 (cLead) x := by
 rw [E_lead_eq]
 exact e_lead x hp hl
theorem c_lead : CtrOk Tryz.prog 108 (cLead) :=
 ctr_of_vc (c := cLead) (fn := Tryz.f108) (X := fx_lead) (n := 1) (fun _ => mkFx_all env_ok mixed_ok names_ok ks1_ok) Tryz.func108 (by kernel_rfl) (by kernel_rfl) (of_decide_eq_true (by kernel_rfl)) v_lead
theorem ks2_ok : CtrsOk Tryz.prog ks2 := ⟨c_lead, ks1_ok⟩
theorem ks3_ok : CtrsOk Tryz.prog ks3 := ⟨c_tz, ks2_ok⟩
theorem v_fits (x : HL (cFits : Ctr).as) (hp : (cFits : Ctr).pre x) (hl : LensL (cFits : Ctr).as x) : vc (fx_fits x) 1 107 Tryz.f107 (cFits) x := by
 rw [E_fits_eq]
 exact e_fits x hp hl
theorem c_fits : CtrOk Tryz.prog 107 (cFits) :=
 ctr_of_vc (c := cFits) (fn := Tryz.f107) (X := fx_fits) (n := 1) (fun _ => mkFx_all env_ok mixed_ok names_ok ks3_ok) Tryz.func107 (by kernel_rfl) (by kernel_rfl) (of_decide_eq_true (by kernel_rfl)) v_fits
theorem ks4_ok : CtrsOk Tryz.prog ks4 := ⟨c_fits, ks3_ok⟩
theorem v_with (x : HL (cWith : Ctr).as) (hp : (cWith : Ctr).pre x) (hl : LensL (cWith : Ctr).as x) : vc (fx_with x) 1 93 Tryz.f93 (cWith) x := by
 rw [E_with_eq]
 exact e_with x hp hl
theorem c_with : CtrOk Tryz.prog 93 (cWith) :=
 ctr_of_vc (c := cWith) (fn := Tryz.f93) (X := fx_with) (n := 1) (fun _ => mkFx_all env_ok mixed_ok names_ok ks4_ok) Tryz.func93 (by kernel_rfl) (by kernel_rfl) (of_decide_eq_true (by kernel_rfl)) v_with
theorem ks5_ok : CtrsOk Tryz.prog ks5 := ⟨c_with, ks4_ok⟩
theorem v_without (x : HL (cWithout : Ctr).as) (hp : (cWithout : Ctr).pre x) (hl : LensL (cWithout : Ctr).as x) : vc (fx_without x) 1 94 Tryz.f94 (cWithout) x := by
 rw [E_without_eq]
 exact e_without x hp hl
theorem c_without : CtrOk Tryz.prog 94 (cWithout) :=
 ctr_of_vc (c := cWithout) (fn := Tryz.f94) (X := fx_without) (n := 1) (fun _ => mkFx_all env_ok mixed_ok names_ok ks5_ok) Tryz.func94 (by kernel_rfl) (by kernel_rfl) (of_decide_eq_true (by kernel_rfl)) v_without
theorem ks6_ok : CtrsOk Tryz.prog ks6 := ⟨c_without, ks5_ok⟩
theorem v_top (x : HL (cTop : Ctr).as) (hp : (cTop : Ctr).pre x) (hl : LensL (cTop : Ctr).as x) : vc (fx_top x) 1 95 Tryz.f95 (cTop) x := by
 rw [E_top_eq]
 exact e_top x hp hl
theorem c_top : CtrOk Tryz.prog 95 (cTop) :=
 ctr_of_vc (c := cTop) (fn := Tryz.f95) (X := fx_top) (n := 1) (fun _ => mkFx_all env_ok mixed_ok names_ok ks6_ok) Tryz.func95 (by kernel_rfl) (by kernel_rfl) (of_decide_eq_true (by kernel_rfl)) v_top
theorem ks7_ok : CtrsOk Tryz.prog ks7 := ⟨c_top, ks6_ok⟩
theorem v_next (x : HL (cNext : Ctr).as) (hp : (cNext : Ctr).pre x) (hl : LensL (cNext : Ctr).as x) : vc (fx_next x) 1 106 Tryz.f106 (cNext) x := by
 rw [E_next_eq]
 exact e_next x hp hl
theorem c_next : CtrOk Tryz.prog 106 (cNext) :=
 ctr_of_vc (c := cNext) (fn := Tryz.f106) (X := fx_next) (n := 1) (fun _ => mkFx_all env_ok mixed_ok names_ok ks7_ok) Tryz.func106 (by kernel_rfl) (by kernel_rfl) (of_decide_eq_true (by kernel_rfl)) v_next
theorem ks8_ok : CtrsOk Tryz.prog ks8 := ⟨c_next, ks7_ok⟩
theorem v_class (x : HL (cClass : Ctr).as) (hp : (cClass : Ctr).pre x) (hl : LensL (cClass : Ctr).as x) : vc (fx_class x) 1 97 Tryz.f97 (cClass) x := by
 rw [E_class_eq]
 exact e_class x hp hl
theorem c_class : CtrOk Tryz.prog 97 (cClass) :=
 ctr_of_vc (c := cClass) (fn := Tryz.f97) (X := fx_class) (n := 1) (fun _ => mkFx_all env_ok mixed_ok names_ok ks8_ok) Tryz.func97 (by kernel_rfl) (by kernel_rfl) (of_decide_eq_true (by kernel_rfl)) v_class
theorem ks9_ok : CtrsOk Tryz.prog ks9 := ⟨c_class, ks8_ok⟩
theorem v_right (x : HL (cRightL : Ctr).as) (hp : (cRightL : Ctr).pre x) (hl : LensL (cRightL : Ctr).as x) : vc (fx_right x) 1 92 Tryz.f92 (cRightL) x := by
 rw [E_right_eq]
 exact e_right x hp hl
theorem c_right : CtrOk Tryz.prog 92 (cRightL) :=
 ctr_of_vc (c := cRightL) (fn := Tryz.f92) (X := fx_right) (n := 1) (fun _ => mkFx_all env_ok mixed_ok names_ok ks9_ok) Tryz.func92 (by kernel_rfl) (by kernel_rfl) (of_decide_eq_true (by kernel_rfl)) v_right
theorem ks10_ok : CtrsOk Tryz.prog ks10 := ⟨c_right, ks9_ok⟩
theorem v_level (x : HL (cLvl : Ctr).as) (hp : (cLvl : Ctr).pre x) (hl : LensL (cLvl : Ctr).as x) : vc (fx_level x) 1 98 Tryz.f98 (cLvl) x := by
 rw [E_level_eq]
 exact e_level x hp hl
theorem c_level : CtrOk Tryz.prog 98 (cLvl) :=
 ctr_of_vc (c := cLvl) (fn := Tryz.f98) (X := fx_level) (n := 1) (fun _ => mkFx_all env_ok mixed_ok names_ok ks10_ok) Tryz.func98 (by kernel_rfl) (by kernel_rfl) (of_decide_eq_true (by kernel_rfl)) v_level
theorem ks11_ok : CtrsOk Tryz.prog ks11 := ⟨c_level, ks10_ok⟩
theorem v_would (x : HL (cWould : Ctr).as) (hp : (cWould : Ctr).pre x) (hl : LensL (cWould : Ctr).as x) : vc (fx_would x) 1 78 Tryz.f78 (cWould) x := by
 rw [E_would_eq]
 exact e_would x hp hl
theorem c_would : CtrOk Tryz.prog 78 (cWould) :=
 ctr_of_vc (c := cWould) (fn := Tryz.f78) (X := fx_would) (n := 1) (fun _ => mkFx_all env_ok mixed_ok names_ok ks11_ok) Tryz.func78 (by kernel_rfl) (by kernel_rfl) (of_decide_eq_true (by kernel_rfl)) v_would
theorem ks12_ok : CtrsOk Tryz.prog ks12 := ⟨c_would, ks11_ok⟩
theorem v_astep (x : HL (cStep : Ctr).as) (hp : (cStep : Ctr).pre x) (hl : LensL (cStep : Ctr).as x) : vc (fx_astep x) 2 76 Tryz.f76 (cStep) x := by
 rw [E_astep_eq]
 exact e_astep x hp hl
theorem c_astep : CtrOk Tryz.prog 76 (cStep) :=
 ctr_of_vc (c := cStep) (fn := Tryz.f76) (X := fx_astep) (n := 2) (fun _ => mkFx_all env_ok mixed_ok names_ok ks12_ok) Tryz.func76 (by kernel_rfl) (by kernel_rfl) (of_decide_eq_true (by kernel_rfl)) v_astep
theorem ks13_ok : CtrsOk Tryz.prog ks13 := ⟨c_astep, ks12_ok⟩
theorem ksAll_ok : CtrsOk Tryz.prog ksAll := ks13_ok
end Go.Proofs.YtdhldloajddfiaaGreatDoor.Apic
