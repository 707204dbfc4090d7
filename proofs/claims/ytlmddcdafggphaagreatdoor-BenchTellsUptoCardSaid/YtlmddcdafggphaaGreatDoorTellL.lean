/-
 Each function keeps its contract.
-/
import Derived.Test.YtlmddcdafggphaaGreatDoorTellPJ
import Derived.Test.YtlmddcdafggphaaGreatDoorTellHJ
namespace Go.Proofs.YtlmddcdafggphaaGreatDoor.Tell
open Go.Sx
set_option maxRecDepth 100000
attribute [local irreducible] vc

theorem ks0_ok : CtrsOk Tryz.prog ks0 := ctrsOk_append (Go.Proofs.YtlmddcdafggphaaGreatDoor.Kern.ksAll_ok) Go.Proofs.YtlmddcdafggphaaGreatDoor.Bench.ksAll_ok
theorem names_ok : namesOk Tryz.prog = true := Go.Proofs.YtlmddcdafggphaaGreatDoor.Kern.names_ok
theorem mixed_ok : Tryz.prog.follows .mixedOrders = true := Go.Proofs.YtlmddcdafggphaaGreatDoor.Kern.mixed_ok
theorem ks1_ok : CtrsOk Tryz.prog ks1 := ⟨c_itoa2, ks0_ok⟩
theorem ks2_ok : CtrsOk Tryz.prog ks2 := ⟨c_fmtx, ks1_ok⟩
theorem ks3_ok : CtrsOk Tryz.prog ks3 := ⟨c_hex, ks2_ok⟩
theorem v_tell (x : HL (cTell : Ctr).as) (hp : (cTell : Ctr).pre x) (hl : LensL (cTell : Ctr).as x) : vc (fx_tell x) 1 4 Tryz.f4 (cTell) x := by
 rw [E_tell_eq]
 exact e_tell x hp hl
theorem c_tell : CtrOk Tryz.prog 4 (cTell) :=
 ctr_of_vc (c := cTell) (fn := Tryz.f4) (X := fx_tell) (n := 1) (fun _ => mkFx_all env_ok mixed_ok names_ok ks3_ok) Tryz.func4 (by kernel_rfl) (by kernel_rfl) (of_decide_eq_true (by kernel_rfl)) v_tell
theorem ks4_ok : CtrsOk Tryz.prog ks4 := ⟨c_tell, ks3_ok⟩
theorem v_ztell (x : HL (cTell : Ctr).as) (hp : (cTell : Ctr).pre x) (hl : LensL (cTell : Ctr).as x) : vc (fx_ztell x) 1 5 Tryz.f5 (cTell) x := by
 rw [E_ztell_eq]
 exact e_ztell x hp hl
theorem c_ztell : CtrOk Tryz.prog 5 (cTell) :=
 ctr_of_vc (c := cTell) (fn := Tryz.f5) (X := fx_ztell) (n := 1) (fun _ => mkFx_all env_ok mixed_ok names_ok ks4_ok) Tryz.func5 (by kernel_rfl) (by kernel_rfl) (of_decide_eq_true (by kernel_rfl)) v_ztell
theorem ks5_ok : CtrsOk Tryz.prog ks5 := ⟨c_ztell, ks4_ok⟩
theorem v_equal (x : HL (cEqual : Ctr).as) (hp : (cEqual : Ctr).pre x) (hl : LensL (cEqual : Ctr).as x) : vc (fx_equal x) 1 6 Tryz.f6 (cEqual) x := by
 rw [E_equal_eq]
 exact e_equal x hp hl
theorem c_equal : CtrOk Tryz.prog 6 (cEqual) :=
 ctr_of_vc (c := cEqual) (fn := Tryz.f6) (X := fx_equal) (n := 1) (fun _ => mkFx_all env_ok mixed_ok names_ok ks5_ok) Tryz.func6 (by kernel_rfl) (by kernel_rfl) (of_decide_eq_true (by kernel_rfl)) v_equal
theorem ks6_ok : CtrsOk Tryz.prog ks6 := ⟨c_equal, ks5_ok⟩
theorem v_law (x : HL (cLaw : Ctr).as) (hp : (cLaw : Ctr).pre x) (hl : LensL (cLaw : Ctr).as x) : vc (fx_law x) 1 3 Tryz.f3 (cLaw) x := by
 rw [E_law_eq]
 exact e_law x hp hl
theorem c_law : CtrOk Tryz.prog 3 (cLaw) :=
 ctr_of_vc (c := cLaw) (fn := Tryz.f3) (X := fx_law) (n := 1) (fun _ => mkFx_all env_ok mixed_ok names_ok ks6_ok) Tryz.func3 (by kernel_rfl) (by kernel_rfl) (of_decide_eq_true (by kernel_rfl)) v_law
theorem ks7_ok : CtrsOk Tryz.prog ks7 := ⟨c_law, ks6_ok⟩
theorem ksAll_ok : CtrsOk Tryz.prog ksAll := ks7_ok
end Go.Proofs.YtlmddcdafggphaaGreatDoor.Tell
