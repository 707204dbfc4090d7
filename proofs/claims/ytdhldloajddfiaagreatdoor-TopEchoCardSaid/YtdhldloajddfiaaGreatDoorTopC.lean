/-
 The statements about the whole: what each function computes (its contract), and what its loops keep.
-/
import Derived.Test.YtdhldloajddfiaaGreatDoorEnv
import Derived.Test.YtdhldloajddfiaaGreatDoorSxP4
import Derived.Test.YtdhldloajddfiaaGreatDoorTellL
namespace Go.Proofs.YtdhldloajddfiaaGreatDoor.Top
open Go.Sx
set_option maxRecDepth 100000
set_option linter.unusedVariables false

@[reducible] def RR {α : Type} (x : α) : Prop := x = x
@[reducible] def R8 (p : Prop) : Prop := True ∧ True ∧ True ∧ True ∧ True ∧ True ∧ True ∧ True ∧ p
@[reducible] def R32 (p : Prop) : Prop := R8 (R8 (R8 (R8 p)))
theorem RR_eq {α : Type} (x : α) : RR x = True := eq_self x
theorem R8_eq (p : Prop) : R8 p = p := by unfold R8; simp only [true_and]
theorem R32_eq (p : Prop) : R32 p = p := by unfold R32; simp only [R8_eq]
def textOf (l : List (Int × Int)) : List Int := (l.map fun p => Bench.lineOf p.1 p.2 ++ [10]).flatten
def five (c b : Int) : List (Int × Int) := [(1, b), (2, c), (2, c), (2, c), (2, c)]
def hexN (n : Int) : List Int := if n < 16 then [Tell.hexd n] else [Tell.hexd (n / 16), Tell.hexd (n % 16)]
def repOk (s : List Int) (n : Int) : Prop := (n = 4 ∧ (s = [114, 117, 110, 32, 48, 10] ∨ s = [114, 117, 110, 32, 49, 10])) ∨ (s = [48] ∧ (n = 0 ∨ n = 1))
@[reducible] def cAlive : Ctr := ⟨[], [.bool], fun _ => True, fun _ => (true, ()), false⟩
@[reducible] def cRep : Ctr := ⟨[.str, I64], [.str], fun x => repOk x.1 x.2.1, fun x => ((List.replicate x.2.1.toNat x.1).flatten, ()), false⟩
@[reducible] def cFmt16 : Ctr := ⟨[I64, I64], [.str], fun x => 0 ≤ x.1 ∧ x.1 ≤ 255 ∧ x.2.1 = 16, fun x => (hexN x.1, ()), false⟩
@[reducible] def cEcho : Ctr := ⟨[.sl U8, I64], [.bool], fun _ => True, fun _ => (true, ()), false⟩


noncomputable def ks0 : List (Nat × Ctr) := Go.Proofs.YtdhldloajddfiaaGreatDoor.Tell.ksAll
noncomputable def fx_rep (x : HL (cRep : Ctr).as) : Fx := mkFx Tryz.prog env ks0 ([]) ([]) []
noncomputable def ks1 : List (Nat × Ctr) := (12, cRep) :: ks0
noncomputable def fx_fmt16 (x : HL (cFmt16 : Ctr).as) : Fx := mkFx Tryz.prog env ks1 ([]) ([]) []
noncomputable def ks2 : List (Nat × Ctr) := (13, cFmt16) :: ks1
noncomputable def fx_alive (x : HL (cAlive : Ctr).as) : Fx := mkFx Tryz.prog env ks2 ([]) ([]) []
noncomputable def ks3 : List (Nat × Ctr) := (5, cAlive) :: ks2
noncomputable def fx_echo (x : HL (cEcho : Ctr).as) : Fx := mkFx Tryz.prog env ks3 ((fun (x : HL (cEcho : Ctr).as) => ([(4, 8, Ann.by [.keep 0, .keep 1, .one 5 (.d .str), .one 6 (.d .str), .keep 37, .keep 38, .one 39 (.d I64)] (fun s g => 0 ≤ g.2.2.1 ∧ g.2.2.1 ≤ x.1.length + 1 ∧ (∀ b ∈ x.1.take g.2.2.1.toNat, 32 ≤ b) ∧ g.1 = textOf ([(6, x.2.1)] ++ (((x.1 ++ [10]).take g.2.2.1.toNat).map (five x.2.1)).flatten) ∧ g.2.1 = [111, 107, 32] ++ Tell.hexL ((x.1 ++ [10]).take g.2.2.1.toNat)) (fun s g => (x.1.length + 1 - g.2.2.1).toNat))])) x) ([]) []
noncomputable def ks4 : List (Nat × Ctr) := (4, cEcho) :: ks3
noncomputable def ksAll : List (Nat × Ctr) := ks4
end Go.Proofs.YtdhldloajddfiaaGreatDoor.Top
