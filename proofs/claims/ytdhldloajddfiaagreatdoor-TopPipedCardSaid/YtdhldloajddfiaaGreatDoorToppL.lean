/-
 Each function keeps its contract.
-/
import Derived.Test.YtdhldloajddfiaaGreatDoorToppPJ
import Derived.Test.YtdhldloajddfiaaGreatDoorToppHJ
namespace Go.Proofs.YtdhldloajddfiaaGreatDoor.Topp
open Go.Sx
set_option maxRecDepth 100000
attribute [local irreducible] vc

theorem ks0_ok : CtrsOk Tryz.prog ks0 := ctrsOk_append (ctrsOk_append (Go.Proofs.YtdhldloajddfiaaGreatDoor.Tell.ksAll_ok) Go.Proofs.YtdhldloajddfiaaGreatDoor.Tty.ksAll_ok) Go.Proofs.YtdhldloajddfiaaGreatDoor.Pipep.ksAll_ok
theorem names_ok : namesOk Tryz.prog = true := Go.Proofs.YtdhldloajddfiaaGreatDoor.Tell.names_ok
theorem mixed_ok : Tryz.prog.follows .mixedOrders = true := Go.Proofs.YtdhldloajddfiaaGreatDoor.Tell.mixed_ok
theorem ks1_ok : CtrsOk Tryz.prog ks1 := ⟨c_concat, ks0_ok⟩
theorem v_alive (x : HL (cAlive : Ctr).as) (hp : (cAlive : Ctr).pre x) (hl : LensL (cAlive : Ctr).as x) : vc (fx_alive x) 1 5 Tryz.f5 (cAlive) x := by
 rw [E_alive_eq]
 exact e_alive x hp hl
theorem c_alive : CtrOk Tryz.prog 5 (cAlive) :=
 ctr_of_vc (c := cAlive) (fn := Tryz.f5) (X := fx_alive) (n := 1) (fun _ => mkFx_all env_ok mixed_ok names_ok ks1_ok) Tryz.func5 (by kernel_rfl) (by kernel_rfl) (of_decide_eq_true (by kernel_rfl)) v_alive
theorem ks2_ok : CtrsOk Tryz.prog ks2 := ⟨c_alive, ks1_ok⟩
theorem v_piped (x : HL (cPiped : Ctr).as) (hp : (cPiped : Ctr).pre x) (hl : LensL (cPiped : Ctr).as x) : vc (fx_piped x) 1 3 Tryz.f3 (cPiped) x := by
 rw [E_piped_eq]
 exact e_piped x hp hl
theorem c_piped : CtrOk Tryz.prog 3 (cPiped) :=
 ctr_of_vc (c := cPiped) (fn := Tryz.f3) (X := fx_piped) (n := 1) (fun _ => mkFx_all env_ok mixed_ok names_ok ks2_ok) Tryz.func3 (by kernel_rfl) (by kernel_rfl) (of_decide_eq_true (by kernel_rfl)) v_piped
theorem ks3_ok : CtrsOk Tryz.prog ks3 := ⟨c_piped, ks2_ok⟩
theorem ksAll_ok : CtrsOk Tryz.prog ksAll := ks3_ok
end Go.Proofs.YtdhldloajddfiaaGreatDoor.Topp
