/-
 Each function keeps its contract.
-/
import Derived.Test.YtdhldloajddfiaaGreatDoorKernPJ
namespace Go.Proofs.YtdhldloajddfiaaGreatDoor.Kern
open Go.Sx
set_option maxRecDepth 100000
attribute [local irreducible] vc

theorem ks0_ok : CtrsOk Tryz.prog ks0 := ctrsOk_append (ctrsOk_append (ctrsOk_append (ctrsOk_append (Go.Proofs.YtdhldloajddfiaaGreatDoor.Apic.ksAll_ok) Go.Proofs.YtdhldloajddfiaaGreatDoor.Uart.ksAll_ok) Go.Proofs.YtdhldloajddfiaaGreatDoor.Line.ksAll_ok) Go.Proofs.YtdhldloajddfiaaGreatDoor.Nest.ksAll_ok) Go.Proofs.YtdhldloajddfiaaGreatDoor.Tty.ksAll_ok
theorem names_ok : namesOk Tryz.prog = true := Go.Proofs.YtdhldloajddfiaaGreatDoor.Apic.names_ok
theorem mixed_ok : Tryz.prog.follows .mixedOrders = true := Go.Proofs.YtdhldloajddfiaaGreatDoor.Apic.mixed_ok
theorem v_lstep (x : HL (cStepO : Ctr).as) (hp : (cStepO : Ctr).pre x) (hl : LensL (cStepO : Ctr).as x) : vc (fx_lstep x) 2 96 Tryz.f96 (cStepO) x := by
 rw [E_lstep_eq]
 exact e_lstep x hp hl
theorem c_lstep : CtrOk Tryz.prog 96 (cStepO) :=
 ctr_of_vc (c := cStepO) (fn := Tryz.f96) (X := fx_lstep) (n := 2) (fun _ => mkFx_all env_ok mixed_ok names_ok ks0_ok) Tryz.func96 (by kernel_rfl) (by kernel_rfl) (of_decide_eq_true (by kernel_rfl)) v_lstep
theorem ks1_ok : CtrsOk Tryz.prog ks1 := ⟨c_lstep, ks0_ok⟩
theorem v_kplay (x : HL (cYPlay : Ctr).as) (hp : (cYPlay : Ctr).pre x) (hl : LensL (cYPlay : Ctr).as x) : vc (fx_kplay x) 6 31 Tryz.f31 (cYPlay) x := by
 rw [E_kplay_eq]
 exact e_kplay x hp hl
theorem c_kplay : CtrOk Tryz.prog 31 (cYPlay) :=
 ctr_of_vc (c := cYPlay) (fn := Tryz.f31) (X := fx_kplay) (n := 6) (fun _ => mkFx_all env_ok mixed_ok names_ok ks1_ok) Tryz.func31 (by kernel_rfl) (by kernel_rfl) (of_decide_eq_true (by kernel_rfl)) v_kplay
theorem ks2_ok : CtrsOk Tryz.prog ks2 := ⟨c_kplay, ks1_ok⟩
theorem ksAll_ok : CtrsOk Tryz.prog ksAll := ks2_ok
end Go.Proofs.YtdhldloajddfiaaGreatDoor.Kern
