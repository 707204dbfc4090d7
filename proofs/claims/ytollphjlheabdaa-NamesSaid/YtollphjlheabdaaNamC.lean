/-
  Names: the constants.
-/
import Derived.Test.YtollphjlheabdaaEnv
import Derived.Test.YtollphjlheabdaaSxZA
namespace Go.Proofs.Ytollphjlheabdaa.Nam
open Go.Sx
set_option maxRecDepth 100000
set_option linter.unusedVariables false

def errs : List Int := [0, 1, 2, 3, 4, 5, 6, 7, 8]
def want : List Int := [256, 32, 8, 24, 400, 1099511627776, 1, 2, 3, 4, 1, 2, 3, 4, 5, 1, 2, 3, 1, 2, 3, 1, 2, 3, 4, 1, 2, 0, 1, 2, 1, 2, 3, 1, 2, 3, 4, 5, 1, 2, 3, 4, 1, 2, 3, 4, 5, 1, 2, 3, 4, 8, 21, 4, 10, 23, 1, 2, 3, 1, 2, 64, 16, 1, 2, 3, 4, 5, 6, 1, 2, 3, 4, 5, 6, 7, 4, 16, 1, 2, 3, 1, 2, 3, 4, 5, 6, 5, 8, 511, 32, 16, 64, 2]
@[reducible] def cLaw : Ctr := ⟨[], [.bool], fun _ => True, fun _ => (true, ()), false⟩


noncomputable def ks0 : List (Nat × Ctr) := []
noncomputable def fx_names (x : HL (cLaw : Ctr).as) : Fx := mkFx Try.prog env ks0 ((fun (x : HL (cLaw : Ctr).as) => ([(14, 3, Ann.by [.one 8 (.row I64), .one 9 (.d I64), .one 10 (.d I64)] (fun s g => g.1 = errs ∧ g.2.1 = 9 ∧ 0 ≤ g.2.2.1 ∧ g.2.2.1 ≤ 9) (fun s g => (9 - g.2.2.1).toNat)),
  (14, 11, Ann.by [.one 4 (.row I64), .one 5 (.row I64), .one 22 (.d I64), .one 23 (.d I64)] (fun s g => g.1 = want ∧ g.2.1 = want ∧ g.2.2.1 = 94 ∧ 0 ≤ g.2.2.2.1 ∧ g.2.2.2.1 ≤ 94) (fun s g => (94 - g.2.2.2.1).toNat))])) x) ([]) []
noncomputable def ks1 : List (Nat × Ctr) := (14, cLaw) :: ks0
noncomputable def ksAll : List (Nat × Ctr) := ks1
end Go.Proofs.Ytollphjlheabdaa.Nam
