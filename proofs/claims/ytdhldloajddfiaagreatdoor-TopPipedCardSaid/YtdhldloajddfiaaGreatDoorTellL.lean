/-
 Each function keeps its contract.
-/
import Derived.Test.YtdhldloajddfiaaGreatDoorTellPJ
import Derived.Test.YtdhldloajddfiaaGreatDoorTellHJ
namespace Go.Proofs.YtdhldloajddfiaaGreatDoor.Tell
open Go.Sx
set_option maxRecDepth 100000
attribute [local irreducible] vc

theorem ks0_ok : CtrsOk Tryz.prog ks0 := ctrsOk_append (Go.Proofs.YtdhldloajddfiaaGreatDoor.Kern.ksAll_ok) Go.Proofs.YtdhldloajddfiaaGreatDoor.Bench.ksAll_ok
theorem names_ok : namesOk Tryz.prog = true := Go.Proofs.YtdhldloajddfiaaGreatDoor.Kern.names_ok
theorem mixed_ok : Tryz.prog.follows .mixedOrders = true := Go.Proofs.YtdhldloajddfiaaGreatDoor.Kern.mixed_ok
theorem ks1_ok : CtrsOk Tryz.prog ks1 := ⟨c_itoa2, ks0_ok⟩
theorem ks2_ok : CtrsOk Tryz.prog ks2 := ⟨c_hex, ks1_ok⟩
theorem v_tell (x : HL (cTell : Ctr).as) (hp : (cTell : Ctr).pre x) (hl : LensL (cTell : Ctr).as x) : vc (fx_tell x) 1 14 Tryz.f14 (cTell) x := by
 rw [E_tell_eq]
 exact e_tell x hp hl
theorem c_tell : CtrOk Tryz.prog 14 (cTell) :=
 ctr_of_vc (c := cTell) (fn := Tryz.f14) (X := fx_tell) (n := 1) (fun _ => mkFx_all env_ok mixed_ok names_ok ks2_ok) Tryz.func14 (by kernel_rfl) (by kernel_rfl) (of_decide_eq_true (by kernel_rfl)) v_tell
theorem ks3_ok : CtrsOk Tryz.prog ks3 := ⟨c_tell, ks2_ok⟩
theorem ksAll_ok : CtrsOk Tryz.prog ksAll := ks3_ok
end Go.Proofs.YtdhldloajddfiaaGreatDoor.Tell
