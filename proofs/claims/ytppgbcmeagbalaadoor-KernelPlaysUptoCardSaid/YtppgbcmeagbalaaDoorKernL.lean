/-
 Each function keeps its contract.
-/
import Derived.Test.YtppgbcmeagbalaaDoorKernP3
namespace Go.Proofs.YtppgbcmeagbalaaDoor.Kern
open Go.Sx
set_option maxRecDepth 100000
attribute [local irreducible] vc

theorem ks0_ok : CtrsOk Tryd.prog ks0 := ctrsOk_append (ctrsOk_append (ctrsOk_append (ctrsOk_append (Go.Proofs.YtppgbcmeagbalaaDoor.Apic.ksAll_ok) Go.Proofs.YtppgbcmeagbalaaDoor.Uart.ksAll_ok) Go.Proofs.YtppgbcmeagbalaaDoor.Line.ksAll_ok) Go.Proofs.YtppgbcmeagbalaaDoor.Nest.ksAll_ok) Go.Proofs.YtppgbcmeagbalaaDoor.Tty.ksAll_ok
theorem names_ok : namesOk Tryd.prog = true := Go.Proofs.YtppgbcmeagbalaaDoor.Apic.names_ok
theorem mixed_ok : Tryd.prog.follows .mixedOrders = true := Go.Proofs.YtppgbcmeagbalaaDoor.Apic.mixed_ok
theorem v_lstep (x : HL (cStepO : Ctr).as) (hp : (cStepO : Ctr).pre x) (hl : LensL (cStepO : Ctr).as x) : vc (fx_lstep x) 2 40 Tryd.f40 (cStepO) x := by
 rw [E_lstep_eq]
 exact e_lstep x hp hl
theorem c_lstep : CtrOk Tryd.prog 40 (cStepO) :=
 ctr_of_vc (c := cStepO) (fn := Tryd.f40) (X := fx_lstep) (n := 2) (fun _ => mkFx_all env_ok mixed_ok names_ok ks0_ok) Tryd.func40 (by kernel_rfl) (by kernel_rfl) (of_decide_eq_true (by kernel_rfl)) v_lstep
theorem ks1_ok : CtrsOk Tryd.prog ks1 := ⟨c_lstep, ks0_ok⟩
theorem v_ydo (x : HL (cYDo : Ctr).as) (hp : (cYDo : Ctr).pre x) (hl : LensL (cYDo : Ctr).as x) : vc (fx_ydo x) 1 11 Tryd.f11 (cYDo) x := by
 rw [E_ydo_eq]
 exact e_ydo x hp hl
theorem c_ydo : CtrOk Tryd.prog 11 (cYDo) :=
 ctr_of_vc (c := cYDo) (fn := Tryd.f11) (X := fx_ydo) (n := 1) (fun _ => mkFx_all env_ok mixed_ok names_ok ks1_ok) Tryd.func11 (by kernel_rfl) (by kernel_rfl) (of_decide_eq_true (by kernel_rfl)) v_ydo
theorem ks2_ok : CtrsOk Tryd.prog ks2 := ⟨c_ydo, ks1_ok⟩
theorem v_yplay (x : HL (cYPlay : Ctr).as) (hp : (cYPlay : Ctr).pre x) (hl : LensL (cYPlay : Ctr).as x) : vc (fx_yplay x) 1 5 Tryd.f5 (cYPlay) x := by
 rw [E_yplay_eq]
 exact e_yplay x hp hl
theorem c_yplay : CtrOk Tryd.prog 5 (cYPlay) :=
 ctr_of_vc (c := cYPlay) (fn := Tryd.f5) (X := fx_yplay) (n := 1) (fun _ => mkFx_all env_ok mixed_ok names_ok ks2_ok) Tryd.func5 (by kernel_rfl) (by kernel_rfl) (of_decide_eq_true (by kernel_rfl)) v_yplay
theorem ks3_ok : CtrsOk Tryd.prog ks3 := ⟨c_yplay, ks2_ok⟩
theorem v_samek (x : HL (cSameK : Ctr).as) (hp : (cSameK : Ctr).pre x) (hl : LensL (cSameK : Ctr).as x) : vc (fx_samek x) 1 6 Tryd.f6 (cSameK) x := by
 rw [E_samek_eq]
 exact e_samek x hp hl
theorem c_samek : CtrOk Tryd.prog 6 (cSameK) :=
 ctr_of_vc (c := cSameK) (fn := Tryd.f6) (X := fx_samek) (n := 1) (fun _ => mkFx_all env_ok mixed_ok names_ok ks3_ok) Tryd.func6 (by kernel_rfl) (by kernel_rfl) (of_decide_eq_true (by kernel_rfl)) v_samek
theorem ks4_ok : CtrsOk Tryd.prog ks4 := ⟨c_samek, ks3_ok⟩
theorem v_samew (x : HL (cSameW : Ctr).as) (hp : (cSameW : Ctr).pre x) (hl : LensL (cSameW : Ctr).as x) : vc (fx_samew x) 1 7 Tryd.f7 (cSameW) x := by
 rw [E_samew_eq]
 exact e_samew x hp hl
theorem c_samew : CtrOk Tryd.prog 7 (cSameW) :=
 ctr_of_vc (c := cSameW) (fn := Tryd.f7) (X := fx_samew) (n := 1) (fun _ => mkFx_all env_ok mixed_ok names_ok ks4_ok) Tryd.func7 (by kernel_rfl) (by kernel_rfl) (of_decide_eq_true (by kernel_rfl)) v_samew
theorem ks5_ok : CtrsOk Tryd.prog ks5 := ⟨c_samew, ks4_ok⟩
theorem v_kplay (x : HL (cYPlay : Ctr).as) (hp : (cYPlay : Ctr).pre x) (hl : LensL (cYPlay : Ctr).as x) : vc (fx_kplay x) 6 4 Tryd.f4 (cYPlay) x := by
 rw [E_kplay_eq]
 exact e_kplay x hp hl
theorem c_kplay : CtrOk Tryd.prog 4 (cYPlay) :=
 ctr_of_vc (c := cYPlay) (fn := Tryd.f4) (X := fx_kplay) (n := 6) (fun _ => mkFx_all env_ok mixed_ok names_ok ks5_ok) Tryd.func4 (by kernel_rfl) (by kernel_rfl) (of_decide_eq_true (by kernel_rfl)) v_kplay
theorem ks6_ok : CtrsOk Tryd.prog ks6 := ⟨c_kplay, ks5_ok⟩
theorem v_kern (x : HL (cKern : Ctr).as) (hp : (cKern : Ctr).pre x) (hl : LensL (cKern : Ctr).as x) : vc (fx_kern x) 1 3 Tryd.f3 (cKern) x := by
 rw [E_kern_eq]
 exact e_kern x hp hl
theorem c_kern : CtrOk Tryd.prog 3 (cKern) :=
 ctr_of_vc (c := cKern) (fn := Tryd.f3) (X := fx_kern) (n := 1) (fun _ => mkFx_all env_ok mixed_ok names_ok ks6_ok) Tryd.func3 (by kernel_rfl) (by kernel_rfl) (of_decide_eq_true (by kernel_rfl)) v_kern
theorem ks7_ok : CtrsOk Tryd.prog ks7 := ⟨c_kern, ks6_ok⟩
theorem ksAll_ok : CtrsOk Tryd.prog ksAll := ks7_ok
end Go.Proofs.YtppgbcmeagbalaaDoor.Kern
