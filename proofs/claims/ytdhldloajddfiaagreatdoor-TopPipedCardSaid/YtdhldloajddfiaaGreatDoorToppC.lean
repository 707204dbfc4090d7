/-
 The statements about the whole: what each function computes (its contract), and what its loops keep.
-/
import Derived.Test.YtdhldloajddfiaaGreatDoorEnv
import Derived.Test.YtdhldloajddfiaaGreatDoorSxP4
import Derived.Test.YtdhldloajddfiaaGreatDoorTellL
import Derived.Test.YtdhldloajddfiaaGreatDoorTtyL
import Derived.Test.YtdhldloajddfiaaGreatDoorPipepL
namespace Go.Proofs.YtdhldloajddfiaaGreatDoor.Topp
open Go.Sx
set_option maxRecDepth 100000
set_option linter.unusedVariables false

@[reducible] def RR {α : Type} (x : α) : Prop := x = x
@[reducible] def R8 (p : Prop) : Prop := True ∧ True ∧ True ∧ True ∧ True ∧ True ∧ True ∧ True ∧ p
@[reducible] def R32 (p : Prop) : Prop := R8 (R8 (R8 (R8 p)))
theorem RR_eq {α : Type} (x : α) : RR x = True := eq_self x
theorem R8_eq (p : Prop) : R8 p = p := by unfold R8; simp only [true_and]
theorem R32_eq (p : Prop) : R32 p = p := by unfold R32; simp only [R8_eq]
def textOf (l : List (Int × Int)) : List Int := (l.map fun p => Bench.lineOf p.1 p.2 ++ [10]).flatten
def key1 (t : List (List Int) × List Int) (b : Int) : List (List Int) × List Int := if (Tty.keyT t b).2 = 0 then (Tty.keyT t b).1 else t
def cost : List (List Int) → Nat
 | [] => 0
 | l :: r => max 1 l.length + cost r
abbrev PP := List Int × Int × Int
def pinv (ks : List Int) (t : List (List Int) × List Int) (p : PP) (o : List Int) : Prop := Tty.rightT t = true ∧ p.2.1 = 1 ∧ p.2.2 = 1 ∧ p.1.length ≤ 64 ∧ o ++ p.1 ++ t.1.flatten = (Tty.typ ks).1.flatten
@[reducible] def cAlive : Ctr := ⟨[], [.bool], fun _ => True, fun _ => (true, ()), false⟩
@[reducible] def cConcat : Ctr := ⟨[.sl (.sl U8)], [.sl U8], fun x => x.1.flatten.length ≤ 1048576, fun x => (x.1.flatten, ()), true⟩
@[reducible] def cPiped : Ctr := ⟨[.sl U8, I64, I64], [.bool], fun _ => True, fun _ => (true, ()), false⟩


noncomputable def ks0 : List (Nat × Ctr) := Go.Proofs.YtdhldloajddfiaaGreatDoor.Tell.ksAll ++ Go.Proofs.YtdhldloajddfiaaGreatDoor.Tty.ksAll ++ Go.Proofs.YtdhldloajddfiaaGreatDoor.Pipep.ksAll
noncomputable def fx_concat (x : HL (cConcat : Ctr).as) : Fx := mkFx Tryz.prog env ks0 ([]) ([]) []
noncomputable def ks1 : List (Nat × Ctr) := (7, cConcat) :: ks0
noncomputable def fx_alive (x : HL (cAlive : Ctr).as) : Fx := mkFx Tryz.prog env ks1 ([]) ([]) []
noncomputable def ks2 : List (Nat × Ctr) := (5, cAlive) :: ks1
noncomputable def fx_piped (x : HL (cPiped : Ctr).as) : Fx := mkFx Tryz.prog env ks2 ((fun (x : HL (cPiped : Ctr).as) => ([(3, 10, Ann.by [.keep 1, .keep 2, .box 7 [.d tyTty], .keep 8, .box 9 [.d tyPipe], .one 10 (.row U8), .keep 46, .one 47 (.d I64)] (fun s g => 0 ≤ g.2.2.2.1 ∧ g.2.2.2.1 ≤ x.1.length + 2 ∧ pinv x.1 g.1 g.2.1 g.2.2.1 ∧ (cost g.1.1 : Int) + g.2.2.2.1 ≤ x.1.length) (fun s g => (x.1.length + 2 - g.2.2.2.1).toNat)),
 (3, 16, Ann.by [.keep 1, .keep 2, .keep 7, .keep 8, .box 9 [.d tyPipe], .one 10 (.row U8), .keep 12, .keep 46, .keep 47] (fun s g => g.1.2.1 = 1 ∧ g.1.2.2 = 1 ∧ g.1.1.length ≤ 64 ∧ g.2.1 ++ g.1.1 ++ s.dat (.sl U8) 12 ++ (s.bxd tyTty 7 0).1.flatten = (Tty.typ x.1).1.flatten) (fun s g => g.1.1.length))])) x) ([]) [(3,3000105)]
noncomputable def ks3 : List (Nat × Ctr) := (3, cPiped) :: ks2
noncomputable def ksAll : List (Nat × Ctr) := ks3
end Go.Proofs.YtdhldloajddfiaaGreatDoor.Topp
