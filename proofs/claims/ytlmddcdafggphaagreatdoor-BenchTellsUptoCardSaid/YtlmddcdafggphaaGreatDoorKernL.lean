/-
 Each function keeps its contract.
-/
import Derived.Test.YtlmddcdafggphaaGreatDoorKernPJ
namespace Go.Proofs.YtlmddcdafggphaaGreatDoor.Kern
open Go.Sx
set_option maxRecDepth 100000
attribute [local irreducible] vc

theorem ks0_ok : CtrsOk Tryz.prog ks0 := ctrsOk_append (ctrsOk_append (ctrsOk_append (ctrsOk_append (Go.Proofs.YtlmddcdafggphaaGreatDoor.Apic.ksAll_ok) Go.Proofs.YtlmddcdafggphaaGreatDoor.Uart.ksAll_ok) Go.Proofs.YtlmddcdafggphaaGreatDoor.Line.ksAll_ok) Go.Proofs.YtlmddcdafggphaaGreatDoor.Nest.ksAll_ok) Go.Proofs.YtlmddcdafggphaaGreatDoor.Tty.ksAll_ok
theorem names_ok : namesOk Tryz.prog = true := Go.Proofs.YtlmddcdafggphaaGreatDoor.Apic.names_ok
theorem mixed_ok : Tryz.prog.follows .mixedOrders = true := Go.Proofs.YtlmddcdafggphaaGreatDoor.Apic.mixed_ok
theorem v_lstep (x : HL (cStepO : Ctr).as) (hp : (cStepO : Ctr).pre x) (hl : LensL (cStepO : Ctr).as x) : vc (fx_lstep x) 2 85 Tryz.f85 (cStepO) x := by
 rw [E_lstep_eq]
 exact e_lstep x hp hl
theorem c_lstep : CtrOk Tryz.prog 85 (cStepO) :=
 ctr_of_vc (c := cStepO) (fn := Tryz.f85) (X := fx_lstep) (n := 2) (fun _ => mkFx_all env_ok mixed_ok names_ok ks0_ok) Tryz.func85 (by kernel_rfl) (by kernel_rfl) (of_decide_eq_true (by kernel_rfl)) v_lstep
theorem ks1_ok : CtrsOk Tryz.prog ks1 := ⟨c_lstep, ks0_ok⟩
theorem v_ydo (x : HL (cYDo : Ctr).as) (hp : (cYDo : Ctr).pre x) (hl : LensL (cYDo : Ctr).as x) : vc (fx_ydo x) 1 23 Tryz.f23 (cYDo) x := by
 rw [E_ydo_eq]
 exact e_ydo x hp hl
theorem c_ydo : CtrOk Tryz.prog 23 (cYDo) :=
 ctr_of_vc (c := cYDo) (fn := Tryz.f23) (X := fx_ydo) (n := 1) (fun _ => mkFx_all env_ok mixed_ok names_ok ks1_ok) Tryz.func23 (by kernel_rfl) (by kernel_rfl) (of_decide_eq_true (by kernel_rfl)) v_ydo
theorem ks2_ok : CtrsOk Tryz.prog ks2 := ⟨c_ydo, ks1_ok⟩
theorem v_yplay (x : HL (cYPlay : Ctr).as) (hp : (cYPlay : Ctr).pre x) (hl : LensL (cYPlay : Ctr).as x) : vc (fx_yplay x) 1 12 Tryz.f12 (cYPlay) x := by
 rw [E_yplay_eq]
 exact e_yplay x hp hl
theorem c_yplay : CtrOk Tryz.prog 12 (cYPlay) :=
 ctr_of_vc (c := cYPlay) (fn := Tryz.f12) (X := fx_yplay) (n := 1) (fun _ => mkFx_all env_ok mixed_ok names_ok ks2_ok) Tryz.func12 (by kernel_rfl) (by kernel_rfl) (of_decide_eq_true (by kernel_rfl)) v_yplay
theorem ks3_ok : CtrsOk Tryz.prog ks3 := ⟨c_yplay, ks2_ok⟩
theorem v_kplay (x : HL (cYPlay : Ctr).as) (hp : (cYPlay : Ctr).pre x) (hl : LensL (cYPlay : Ctr).as x) : vc (fx_kplay x) 6 8 Tryz.f8 (cYPlay) x := by
 rw [E_kplay_eq]
 exact e_kplay x hp hl
theorem c_kplay : CtrOk Tryz.prog 8 (cYPlay) :=
 ctr_of_vc (c := cYPlay) (fn := Tryz.f8) (X := fx_kplay) (n := 6) (fun _ => mkFx_all env_ok mixed_ok names_ok ks3_ok) Tryz.func8 (by kernel_rfl) (by kernel_rfl) (of_decide_eq_true (by kernel_rfl)) v_kplay
theorem ks4_ok : CtrsOk Tryz.prog ks4 := ⟨c_kplay, ks3_ok⟩
theorem ksAll_ok : CtrsOk Tryz.prog ksAll := ks4_ok
end Go.Proofs.YtlmddcdafggphaaGreatDoor.Kern
