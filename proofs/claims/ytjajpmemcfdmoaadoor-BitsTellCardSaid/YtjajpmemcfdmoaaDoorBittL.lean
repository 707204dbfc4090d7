/-
  Each function keeps its contract.
-/
import Derived.Test.YtjajpmemcfdmoaaDoorBittP
import Derived.Test.YtjajpmemcfdmoaaDoorBittBitfH0
import Derived.Test.YtjajpmemcfdmoaaDoorBittBitfH1
import Derived.Test.YtjajpmemcfdmoaaDoorBittBitfH2
namespace Go.Proofs.YtjajpmemcfdmoaaDoor.Bitt
open Go.Sx
set_option maxRecDepth 100000
attribute [local irreducible] vc

theorem ks0_ok : CtrsOk Tryd.prog ks0 := trivial
theorem names_ok : namesOk Tryd.prog = true := by kernel_rfl
theorem mixed_ok : Tryd.prog.follows .mixedOrders = true := by kernel_rfl
theorem v_row (x : HL (cRow : Ctr).as) (hp : (cRow : Ctr).pre x) (hl : LensL (cRow : Ctr).as x) : vc (fx_row x) 1 17 Tryd.f17 (cRow) x := by
  rw [E_row_eq]
  exact e_row x hp hl
theorem c_row : CtrOk Tryd.prog 17 (cRow) :=
  ctr_of_vc (c := cRow) (fn := Tryd.f17) (X := fx_row) (n := 1) (fun _ => mkFx_all env_ok mixed_ok names_ok ks0_ok) Tryd.func17 (by kernel_rfl) (by kernel_rfl) (of_decide_eq_true (by kernel_rfl)) v_row
theorem ks1_ok : CtrsOk Tryd.prog ks1 := ⟨c_row, ks0_ok⟩
theorem v_bits (x : HL (cBits : Ctr).as) (hp : (cBits : Ctr).pre x) (hl : LensL (cBits : Ctr).as x) : vc (fx_bits x) 1 18 Tryd.f18 (cBits) x := by
  rw [E_bits_eq]
  exact e_bits x hp hl
theorem c_bits : CtrOk Tryd.prog 18 (cBits) :=
  ctr_of_vc (c := cBits) (fn := Tryd.f18) (X := fx_bits) (n := 1) (fun _ => mkFx_all env_ok mixed_ok names_ok ks1_ok) Tryd.func18 (by kernel_rfl) (by kernel_rfl) (of_decide_eq_true (by kernel_rfl)) v_bits
theorem ks2_ok : CtrsOk Tryd.prog ks2 := ⟨c_bits, ks1_ok⟩
theorem ks3_ok : CtrsOk Tryd.prog ks3 := ⟨c_len, ks2_ok⟩
theorem v_lead (x : HL (cLead : Ctr).as) (hp : (cLead : Ctr).pre x) (hl : LensL (cLead : Ctr).as x) : vc (fx_lead x) 1 19 Tryd.f19 (cLead) x := by
  rw [E_lead_eq]
  exact e_lead x hp hl
theorem c_lead : CtrOk Tryd.prog 19 (cLead) :=
  ctr_of_vc (c := cLead) (fn := Tryd.f19) (X := fx_lead) (n := 1) (fun _ => mkFx_all env_ok mixed_ok names_ok ks3_ok) Tryd.func19 (by kernel_rfl) (by kernel_rfl) (of_decide_eq_true (by kernel_rfl)) v_lead
theorem ks4_ok : CtrsOk Tryd.prog ks4 := ⟨c_lead, ks3_ok⟩
theorem ks5_ok : CtrsOk Tryd.prog ks5 := ⟨c_tz, ks4_ok⟩
theorem v_fits (x : HL (cFits : Ctr).as) (hp : (cFits : Ctr).pre x) (hl : LensL (cFits : Ctr).as x) : vc (fx_fits x) 1 16 Tryd.f16 (cFits) x := by
  rw [E_fits_eq]
  exact e_fits x hp hl
theorem c_fits : CtrOk Tryd.prog 16 (cFits) :=
  ctr_of_vc (c := cFits) (fn := Tryd.f16) (X := fx_fits) (n := 1) (fun _ => mkFx_all env_ok mixed_ok names_ok ks5_ok) Tryd.func16 (by kernel_rfl) (by kernel_rfl) (of_decide_eq_true (by kernel_rfl)) v_fits
theorem ks6_ok : CtrsOk Tryd.prog ks6 := ⟨c_fits, ks5_ok⟩
theorem v_has (x : HL (cHas : Ctr).as) (hp : (cHas : Ctr).pre x) (hl : LensL (cHas : Ctr).as x) : vc (fx_has x) 1 4 Tryd.f4 (cHas) x := by
  rw [E_has_eq]
  exact e_has x hp hl
theorem c_has : CtrOk Tryd.prog 4 (cHas) :=
  ctr_of_vc (c := cHas) (fn := Tryd.f4) (X := fx_has) (n := 1) (fun _ => mkFx_all env_ok mixed_ok names_ok ks6_ok) Tryd.func4 (by kernel_rfl) (by kernel_rfl) (of_decide_eq_true (by kernel_rfl)) v_has
theorem ks7_ok : CtrsOk Tryd.prog ks7 := ⟨c_has, ks6_ok⟩
theorem v_with (x : HL (cWith : Ctr).as) (hp : (cWith : Ctr).pre x) (hl : LensL (cWith : Ctr).as x) : vc (fx_with x) 1 6 Tryd.f6 (cWith) x := by
  rw [E_with_eq]
  exact e_with x hp hl
theorem c_with : CtrOk Tryd.prog 6 (cWith) :=
  ctr_of_vc (c := cWith) (fn := Tryd.f6) (X := fx_with) (n := 1) (fun _ => mkFx_all env_ok mixed_ok names_ok ks7_ok) Tryd.func6 (by kernel_rfl) (by kernel_rfl) (of_decide_eq_true (by kernel_rfl)) v_with
theorem ks8_ok : CtrsOk Tryd.prog ks8 := ⟨c_with, ks7_ok⟩
theorem v_without (x : HL (cWithout : Ctr).as) (hp : (cWithout : Ctr).pre x) (hl : LensL (cWithout : Ctr).as x) : vc (fx_without x) 1 8 Tryd.f8 (cWithout) x := by
  rw [E_without_eq]
  exact e_without x hp hl
theorem c_without : CtrOk Tryd.prog 8 (cWithout) :=
  ctr_of_vc (c := cWithout) (fn := Tryd.f8) (X := fx_without) (n := 1) (fun _ => mkFx_all env_ok mixed_ok names_ok ks8_ok) Tryd.func8 (by kernel_rfl) (by kernel_rfl) (of_decide_eq_true (by kernel_rfl)) v_without
theorem ks9_ok : CtrsOk Tryd.prog ks9 := ⟨c_without, ks8_ok⟩
theorem v_top (x : HL (cTop : Ctr).as) (hp : (cTop : Ctr).pre x) (hl : LensL (cTop : Ctr).as x) : vc (fx_top x) 1 9 Tryd.f9 (cTop) x := by
  rw [E_top_eq]
  exact e_top x hp hl
theorem c_top : CtrOk Tryd.prog 9 (cTop) :=
  ctr_of_vc (c := cTop) (fn := Tryd.f9) (X := fx_top) (n := 1) (fun _ => mkFx_all env_ok mixed_ok names_ok ks9_ok) Tryd.func9 (by kernel_rfl) (by kernel_rfl) (of_decide_eq_true (by kernel_rfl)) v_top
theorem ks10_ok : CtrsOk Tryd.prog ks10 := ⟨c_top, ks9_ok⟩
theorem v_next (x : HL (cNext : Ctr).as) (hp : (cNext : Ctr).pre x) (hl : LensL (cNext : Ctr).as x) : vc (fx_next x) 1 11 Tryd.f11 (cNext) x := by
  rw [E_next_eq]
  exact e_next x hp hl
theorem c_next : CtrOk Tryd.prog 11 (cNext) :=
  ctr_of_vc (c := cNext) (fn := Tryd.f11) (X := fx_next) (n := 1) (fun _ => mkFx_all env_ok mixed_ok names_ok ks10_ok) Tryd.func11 (by kernel_rfl) (by kernel_rfl) (of_decide_eq_true (by kernel_rfl)) v_next
theorem ks11_ok : CtrsOk Tryd.prog ks11 := ⟨c_next, ks10_ok⟩
theorem v_all (x : HL (cAll : Ctr).as) (hp : (cAll : Ctr).pre x) (hl : LensL (cAll : Ctr).as x) : vc (fx_all x) 1 14 Tryd.f14 (cAll) x := by
  rw [E_all_eq]
  exact e_all x hp hl
theorem c_all : CtrOk Tryd.prog 14 (cAll) :=
  ctr_of_vc (c := cAll) (fn := Tryd.f14) (X := fx_all) (n := 1) (fun _ => mkFx_all env_ok mixed_ok names_ok ks11_ok) Tryd.func14 (by kernel_rfl) (by kernel_rfl) (of_decide_eq_true (by kernel_rfl)) v_all
theorem ks12_ok : CtrsOk Tryd.prog ks12 := ⟨c_all, ks11_ok⟩
theorem v_aall (x : HL (cAll : Ctr).as) (hp : (cAll : Ctr).pre x) (hl : LensL (cAll : Ctr).as x) : vc (fx_aall x) 1 15 Tryd.f15 (cAll) x := by
  rw [E_aall_eq]
  exact e_aall x hp hl
theorem c_aall : CtrOk Tryd.prog 15 (cAll) :=
  ctr_of_vc (c := cAll) (fn := Tryd.f15) (X := fx_aall) (n := 1) (fun _ => mkFx_all env_ok mixed_ok names_ok ks12_ok) Tryd.func15 (by kernel_rfl) (by kernel_rfl) (of_decide_eq_true (by kernel_rfl)) v_aall
theorem ks13_ok : CtrsOk Tryd.prog ks13 := ⟨c_aall, ks12_ok⟩
theorem v_atop (x : HL (cTop : Ctr).as) (hp : (cTop : Ctr).pre x) (hl : LensL (cTop : Ctr).as x) : vc (fx_atop x) 1 10 Tryd.f10 (cTop) x := by
  rw [E_atop_eq]
  exact e_atop x hp hl
theorem c_atop : CtrOk Tryd.prog 10 (cTop) :=
  ctr_of_vc (c := cTop) (fn := Tryd.f10) (X := fx_atop) (n := 1) (fun _ => mkFx_all env_ok mixed_ok names_ok ks13_ok) Tryd.func10 (by kernel_rfl) (by kernel_rfl) (of_decide_eq_true (by kernel_rfl)) v_atop
theorem ks14_ok : CtrsOk Tryd.prog ks14 := ⟨c_atop, ks13_ok⟩
theorem v_aset (x : HL (cASet : Ctr).as) (hp : (cASet : Ctr).pre x) (hl : LensL (cASet : Ctr).as x) : vc (fx_aset x) 1 7 Tryd.f7 (cASet) x := by
  rw [E_aset_eq]
  exact e_aset x hp hl
theorem c_aset : CtrOk Tryd.prog 7 (cASet) :=
  ctr_of_vc (c := cASet) (fn := Tryd.f7) (X := fx_aset) (n := 1) (fun _ => mkFx_all env_ok mixed_ok names_ok ks14_ok) Tryd.func7 (by kernel_rfl) (by kernel_rfl) (of_decide_eq_true (by kernel_rfl)) v_aset
theorem ks15_ok : CtrsOk Tryd.prog ks15 := ⟨c_aset, ks14_ok⟩
theorem v_ahas (x : HL (cHas : Ctr).as) (hp : (cHas : Ctr).pre x) (hl : LensL (cHas : Ctr).as x) : vc (fx_ahas x) 1 5 Tryd.f5 (cHas) x := by
  rw [E_ahas_eq]
  exact e_ahas x hp hl
theorem c_ahas : CtrOk Tryd.prog 5 (cHas) :=
  ctr_of_vc (c := cHas) (fn := Tryd.f5) (X := fx_ahas) (n := 1) (fun _ => mkFx_all env_ok mixed_ok names_ok ks15_ok) Tryd.func5 (by kernel_rfl) (by kernel_rfl) (of_decide_eq_true (by kernel_rfl)) v_ahas
theorem ks16_ok : CtrsOk Tryd.prog ks16 := ⟨c_ahas, ks15_ok⟩
theorem v_anext (x : HL (cNext : Ctr).as) (hp : (cNext : Ctr).pre x) (hl : LensL (cNext : Ctr).as x) : vc (fx_anext x) 1 12 Tryd.f12 (cNext) x := by
  rw [E_anext_eq]
  exact e_anext x hp hl
theorem c_anext : CtrOk Tryd.prog 12 (cNext) :=
  ctr_of_vc (c := cNext) (fn := Tryd.f12) (X := fx_anext) (n := 1) (fun _ => mkFx_all env_ok mixed_ok names_ok ks16_ok) Tryd.func12 (by kernel_rfl) (by kernel_rfl) (of_decide_eq_true (by kernel_rfl)) v_anext
theorem ks17_ok : CtrsOk Tryd.prog ks17 := ⟨c_anext, ks16_ok⟩
theorem v_equal (x : HL (cEqual : Ctr).as) (hp : (cEqual : Ctr).pre x) (hl : LensL (cEqual : Ctr).as x) : vc (fx_equal x) 1 13 Tryd.f13 (cEqual) x := by
  rw [E_equal_eq]
  exact e_equal x hp hl
theorem c_equal : CtrOk Tryd.prog 13 (cEqual) :=
  ctr_of_vc (c := cEqual) (fn := Tryd.f13) (X := fx_equal) (n := 1) (fun _ => mkFx_all env_ok mixed_ok names_ok ks17_ok) Tryd.func13 (by kernel_rfl) (by kernel_rfl) (of_decide_eq_true (by kernel_rfl)) v_equal
theorem ks18_ok : CtrsOk Tryd.prog ks18 := ⟨c_equal, ks17_ok⟩
theorem v_tells (x : HL (cTell : Ctr).as) (hp : (cTell : Ctr).pre x) (hl : LensL (cTell : Ctr).as x) : vc (fx_tells x) 1 3 Tryd.f3 (cTell) x := by
  rw [E_tells_eq]
  exact e_tells x hp hl
theorem c_tells : CtrOk Tryd.prog 3 (cTell) :=
  ctr_of_vc (c := cTell) (fn := Tryd.f3) (X := fx_tells) (n := 1) (fun _ => mkFx_all env_ok mixed_ok names_ok ks18_ok) Tryd.func3 (by kernel_rfl) (by kernel_rfl) (of_decide_eq_true (by kernel_rfl)) v_tells
theorem ks19_ok : CtrsOk Tryd.prog ks19 := ⟨c_tells, ks18_ok⟩
theorem ksAll_ok : CtrsOk Tryd.prog ksAll := ks19_ok
end Go.Proofs.YtjajpmemcfdmoaaDoor.Bitt
