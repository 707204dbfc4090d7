/-
  Each function keeps its contract.
-/
import Derived.Test.YtlkhpbjjimjhbaaDoorVecP4
import Derived.Test.YtlkhpbjjimjhbaaDoorVecBitfH0
import Derived.Test.YtlkhpbjjimjhbaaDoorVecBitfH1
import Derived.Test.YtlkhpbjjimjhbaaDoorVecBitfH2
namespace Go.Proofs.YtlkhpbjjimjhbaaDoor.Vec
open Go.Sx
set_option maxRecDepth 100000
attribute [local irreducible] vc

theorem ks0_ok : CtrsOk Tryd.prog ks0 := trivial
theorem names_ok : namesOk Tryd.prog = true := by kernel_rfl
theorem mixed_ok : Tryd.prog.follows .mixedOrders = true := by kernel_rfl
theorem ks1_ok : CtrsOk Tryd.prog ks1 := ⟨c_len, ks0_ok⟩
theorem v_lead (x : HL (cLead : Ctr).as) (hp : (cLead : Ctr).pre x) (hl : LensL (cLead : Ctr).as x) : vc (fx_lead x) 1 29 Tryd.f29 (cLead) x := by
  rw [E_lead_eq]
  exact e_lead x hp hl
theorem c_lead : CtrOk Tryd.prog 29 (cLead) :=
  ctr_of_vc (c := cLead) (fn := Tryd.f29) (X := fx_lead) (n := 1) (fun _ => mkFx_all env_ok mixed_ok names_ok ks1_ok) Tryd.func29 (by kernel_rfl) (by kernel_rfl) (of_decide_eq_true (by kernel_rfl)) v_lead
theorem ks2_ok : CtrsOk Tryd.prog ks2 := ⟨c_lead, ks1_ok⟩
theorem ks3_ok : CtrsOk Tryd.prog ks3 := ⟨c_tz, ks2_ok⟩
theorem v_fits (x : HL (cFits : Ctr).as) (hp : (cFits : Ctr).pre x) (hl : LensL (cFits : Ctr).as x) : vc (fx_fits x) 1 28 Tryd.f28 (cFits) x := by
  rw [E_fits_eq]
  exact e_fits x hp hl
theorem c_fits : CtrOk Tryd.prog 28 (cFits) :=
  ctr_of_vc (c := cFits) (fn := Tryd.f28) (X := fx_fits) (n := 1) (fun _ => mkFx_all env_ok mixed_ok names_ok ks3_ok) Tryd.func28 (by kernel_rfl) (by kernel_rfl) (of_decide_eq_true (by kernel_rfl)) v_fits
theorem ks4_ok : CtrsOk Tryd.prog ks4 := ⟨c_fits, ks3_ok⟩
theorem v_has (x : HL (cHas : Ctr).as) (hp : (cHas : Ctr).pre x) (hl : LensL (cHas : Ctr).as x) : vc (fx_has x) 1 40 Tryd.f40 (cHas) x := by
  rw [E_has_eq]
  exact e_has x hp hl
theorem c_has : CtrOk Tryd.prog 40 (cHas) :=
  ctr_of_vc (c := cHas) (fn := Tryd.f40) (X := fx_has) (n := 1) (fun _ => mkFx_all env_ok mixed_ok names_ok ks4_ok) Tryd.func40 (by kernel_rfl) (by kernel_rfl) (of_decide_eq_true (by kernel_rfl)) v_has
theorem ks5_ok : CtrsOk Tryd.prog ks5 := ⟨c_has, ks4_ok⟩
theorem v_with (x : HL (cWith : Ctr).as) (hp : (cWith : Ctr).pre x) (hl : LensL (cWith : Ctr).as x) : vc (fx_with x) 1 16 Tryd.f16 (cWith) x := by
  rw [E_with_eq]
  exact e_with x hp hl
theorem c_with : CtrOk Tryd.prog 16 (cWith) :=
  ctr_of_vc (c := cWith) (fn := Tryd.f16) (X := fx_with) (n := 1) (fun _ => mkFx_all env_ok mixed_ok names_ok ks5_ok) Tryd.func16 (by kernel_rfl) (by kernel_rfl) (of_decide_eq_true (by kernel_rfl)) v_with
theorem ks6_ok : CtrsOk Tryd.prog ks6 := ⟨c_with, ks5_ok⟩
theorem v_without (x : HL (cWithout : Ctr).as) (hp : (cWithout : Ctr).pre x) (hl : LensL (cWithout : Ctr).as x) : vc (fx_without x) 1 17 Tryd.f17 (cWithout) x := by
  rw [E_without_eq]
  exact e_without x hp hl
theorem c_without : CtrOk Tryd.prog 17 (cWithout) :=
  ctr_of_vc (c := cWithout) (fn := Tryd.f17) (X := fx_without) (n := 1) (fun _ => mkFx_all env_ok mixed_ok names_ok ks6_ok) Tryd.func17 (by kernel_rfl) (by kernel_rfl) (of_decide_eq_true (by kernel_rfl)) v_without
theorem ks7_ok : CtrsOk Tryd.prog ks7 := ⟨c_without, ks6_ok⟩
theorem v_next (x : HL (cNext : Ctr).as) (hp : (cNext : Ctr).pre x) (hl : LensL (cNext : Ctr).as x) : vc (fx_next x) 1 21 Tryd.f21 (cNext) x := by
  rw [E_next_eq]
  exact e_next x hp hl
theorem c_next : CtrOk Tryd.prog 21 (cNext) :=
  ctr_of_vc (c := cNext) (fn := Tryd.f21) (X := fx_next) (n := 1) (fun _ => mkFx_all env_ok mixed_ok names_ok ks7_ok) Tryd.func21 (by kernel_rfl) (by kernel_rfl) (of_decide_eq_true (by kernel_rfl)) v_next
theorem ks8_ok : CtrsOk Tryd.prog ks8 := ⟨c_next, ks7_ok⟩
theorem v_all (x : HL (cAll : Ctr).as) (hp : (cAll : Ctr).pre x) (hl : LensL (cAll : Ctr).as x) : vc (fx_all x) 1 39 Tryd.f39 (cAll) x := by
  rw [E_all_eq]
  exact e_all x hp hl
theorem c_all : CtrOk Tryd.prog 39 (cAll) :=
  ctr_of_vc (c := cAll) (fn := Tryd.f39) (X := fx_all) (n := 1) (fun _ => mkFx_all env_ok mixed_ok names_ok ks8_ok) Tryd.func39 (by kernel_rfl) (by kernel_rfl) (of_decide_eq_true (by kernel_rfl)) v_all
theorem ks9_ok : CtrsOk Tryd.prog ks9 := ⟨c_all, ks8_ok⟩
theorem v_cloneS (x : HL (cCloneS : Ctr).as) (hp : (cCloneS : Ctr).pre x) (hl : LensL (cCloneS : Ctr).as x) : vc (fx_cloneS x) 1 26 Tryd.f26 (cCloneS) x := by
  rw [E_cloneS_eq]
  exact e_cloneS x hp hl
theorem c_cloneS : CtrOk Tryd.prog 26 (cCloneS) :=
  ctr_of_vc (c := cCloneS) (fn := Tryd.f26) (X := fx_cloneS) (n := 1) (fun _ => mkFx_all env_ok mixed_ok names_ok ks9_ok) Tryd.func26 (by kernel_rfl) (by kernel_rfl) (of_decide_eq_true (by kernel_rfl)) v_cloneS
theorem ks10_ok : CtrsOk Tryd.prog ks10 := ⟨c_cloneS, ks9_ok⟩
theorem v_eqS (x : HL (cEqS : Ctr).as) (hp : (cEqS : Ctr).pre x) (hl : LensL (cEqS : Ctr).as x) : vc (fx_eqS x) 1 14 Tryd.f14 (cEqS) x := by
  rw [E_eqS_eq]
  exact e_eqS x hp hl
theorem c_eqS : CtrOk Tryd.prog 14 (cEqS) :=
  ctr_of_vc (c := cEqS) (fn := Tryd.f14) (X := fx_eqS) (n := 1) (fun _ => mkFx_all env_ok mixed_ok names_ok ks10_ok) Tryd.func14 (by kernel_rfl) (by kernel_rfl) (of_decide_eq_true (by kernel_rfl)) v_eqS
theorem ks11_ok : CtrsOk Tryd.prog ks11 := ⟨c_eqS, ks10_ok⟩
theorem v_eqE (x : HL (cEqI : Ctr).as) (hp : (cEqI : Ctr).pre x) (hl : LensL (cEqI : Ctr).as x) : vc (fx_eqE x) 1 13 Tryd.f13 (cEqI) x := by
  rw [E_eqE_eq]
  exact e_eqE x hp hl
theorem c_eqE : CtrOk Tryd.prog 13 (cEqI) :=
  ctr_of_vc (c := cEqI) (fn := Tryd.f13) (X := fx_eqE) (n := 1) (fun _ => mkFx_all env_ok mixed_ok names_ok ks11_ok) Tryd.func13 (by kernel_rfl) (by kernel_rfl) (of_decide_eq_true (by kernel_rfl)) v_eqE
theorem ks12_ok : CtrsOk Tryd.prog ks12 := ⟨c_eqE, ks11_ok⟩
theorem v_vplay (x : HL (cPlayV : Ctr).as) (hp : (cPlayV : Ctr).pre x) (hl : LensL (cPlayV : Ctr).as x) : vc (fx_vplay x) 5 11 Tryd.f11 (cPlayV) x := by
  rw [E_vplay_eq]
  exact e_vplay x hp hl
theorem c_vplay : CtrOk Tryd.prog 11 (cPlayV) :=
  ctr_of_vc (c := cPlayV) (fn := Tryd.f11) (X := fx_vplay) (n := 5) (fun _ => mkFx_all env_ok mixed_ok names_ok ks12_ok) Tryd.func11 (by kernel_rfl) (by kernel_rfl) (of_decide_eq_true (by kernel_rfl)) v_vplay
theorem ks13_ok : CtrsOk Tryd.prog ks13 := ⟨c_vplay, ks12_ok⟩
theorem v_dplay (x : HL (cPlayV : Ctr).as) (hp : (cPlayV : Ctr).pre x) (hl : LensL (cPlayV : Ctr).as x) : vc (fx_dplay x) 2 12 Tryd.f12 (cPlayV) x := by
  rw [E_dplay_eq]
  exact e_dplay x hp hl
theorem c_dplay : CtrOk Tryd.prog 12 (cPlayV) :=
  ctr_of_vc (c := cPlayV) (fn := Tryd.f12) (X := fx_dplay) (n := 2) (fun _ => mkFx_all env_ok mixed_ok names_ok ks13_ok) Tryd.func12 (by kernel_rfl) (by kernel_rfl) (of_decide_eq_true (by kernel_rfl)) v_dplay
theorem ks14_ok : CtrsOk Tryd.prog ks14 := ⟨c_dplay, ks13_ok⟩
theorem v_vplays (x : HL (cVec : Ctr).as) (hp : (cVec : Ctr).pre x) (hl : LensL (cVec : Ctr).as x) : vc (fx_vplays x) 1 4 Tryd.f4 (cVec) x := by
  rw [E_vplays_eq]
  exact e_vplays x hp hl
theorem c_vplays : CtrOk Tryd.prog 4 (cVec) :=
  ctr_of_vc (c := cVec) (fn := Tryd.f4) (X := fx_vplays) (n := 1) (fun _ => mkFx_all env_ok mixed_ok names_ok ks14_ok) Tryd.func4 (by kernel_rfl) (by kernel_rfl) (of_decide_eq_true (by kernel_rfl)) v_vplays
theorem ks15_ok : CtrsOk Tryd.prog ks15 := ⟨c_vplays, ks14_ok⟩
theorem ksAll_ok : CtrsOk Tryd.prog ksAll := ks15_ok
end Go.Proofs.YtlkhpbjjimjhbaaDoor.Vec
