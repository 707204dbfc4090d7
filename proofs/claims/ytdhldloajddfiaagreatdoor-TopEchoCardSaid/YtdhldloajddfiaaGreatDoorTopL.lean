/-
 Each function keeps its contract.
-/
import Derived.Test.YtdhldloajddfiaaGreatDoorTopPJ
import Derived.Test.YtdhldloajddfiaaGreatDoorTopHJ
namespace Go.Proofs.YtdhldloajddfiaaGreatDoor.Top
open Go.Sx
set_option maxRecDepth 100000
attribute [local irreducible] vc

theorem ks0_ok : CtrsOk Tryz.prog ks0 := Go.Proofs.YtdhldloajddfiaaGreatDoor.Tell.ksAll_ok
theorem names_ok : namesOk Tryz.prog = true := Go.Proofs.YtdhldloajddfiaaGreatDoor.Tell.names_ok
theorem mixed_ok : Tryz.prog.follows .mixedOrders = true := Go.Proofs.YtdhldloajddfiaaGreatDoor.Tell.mixed_ok
theorem ks1_ok : CtrsOk Tryz.prog ks1 := ⟨c_rep, ks0_ok⟩
theorem ks2_ok : CtrsOk Tryz.prog ks2 := ⟨c_fmt16, ks1_ok⟩
theorem v_alive (x : HL (cAlive : Ctr).as) (hp : (cAlive : Ctr).pre x) (hl : LensL (cAlive : Ctr).as x) : vc (fx_alive x) 1 5 Tryz.f5 (cAlive) x := by
 rw [E_alive_eq]
 exact e_alive x hp hl
theorem c_alive : CtrOk Tryz.prog 5 (cAlive) :=
 ctr_of_vc (c := cAlive) (fn := Tryz.f5) (X := fx_alive) (n := 1) (fun _ => mkFx_all env_ok mixed_ok names_ok ks2_ok) Tryz.func5 (by kernel_rfl) (by kernel_rfl) (of_decide_eq_true (by kernel_rfl)) v_alive
theorem ks3_ok : CtrsOk Tryz.prog ks3 := ⟨c_alive, ks2_ok⟩
theorem v_echo (x : HL (cEcho : Ctr).as) (hp : (cEcho : Ctr).pre x) (hl : LensL (cEcho : Ctr).as x) : vc (fx_echo x) 1 4 Tryz.f4 (cEcho) x := by
 rw [E_echo_eq]
 exact e_echo x hp hl
theorem c_echo : CtrOk Tryz.prog 4 (cEcho) :=
 ctr_of_vc (c := cEcho) (fn := Tryz.f4) (X := fx_echo) (n := 1) (fun _ => mkFx_all env_ok mixed_ok names_ok ks3_ok) Tryz.func4 (by kernel_rfl) (by kernel_rfl) (of_decide_eq_true (by kernel_rfl)) v_echo
theorem ks4_ok : CtrsOk Tryz.prog ks4 := ⟨c_echo, ks3_ok⟩
theorem ksAll_ok : CtrsOk Tryz.prog ksAll := ks4_ok
end Go.Proofs.YtdhldloajddfiaaGreatDoor.Top
