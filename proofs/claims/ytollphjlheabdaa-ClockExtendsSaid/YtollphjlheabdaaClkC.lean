/-
  ClockExtends: what each function computes (its contract), and what its loops keep.
-/
import Derived.Test.YtollphjlheabdaaEnv
import Derived.Test.YtollphjlheabdaaSxZ
namespace Go.Proofs.Ytollphjlheabdaa.Clk
open Go.Sx
set_option maxRecDepth 100000
set_option linter.unusedVariables false

/-- One reading more: rounds, the last reading, the numbers. -/
def step (s : Int × Int × List Int) (r : Int) : Int × Int × List Int :=
  (if r < s.2.1 then s.1 + 1 else s.1, r, s.2.2 ++ [(if r < s.2.1 then s.1 + 1 else s.1) * 65536 + r])
def W (l : List Int) : Int × Int × List Int := l.foldl step (0, 0, [])
def inR (r : Int) : Bool := decide (0 ≤ r) && decide (r < 65536)
def ext (l : List Int) : List Int × Int × Unit := if l.all inR then ((W l).2.2, 0, ()) else ([], 2, ())
def wrong (n d : Int) : Int := if n < 1 ∨ 1048576 < n ∨ d < 1 ∨ 1048576 < d then 2 else 0

@[reducible] def cExt : Ctr := ⟨[.sl I64], [.sl I64, I64], fun x => x.1.length * 8 ≤ 140737488355328, fun x => ext x.1⟩
@[reducible] def cWrong : Ctr := ⟨[tyRate], [I64], fun _ => True, fun x => (wrong x.1.1 x.1.2, ())⟩
@[reducible] def cEqual : Ctr := ⟨[.sl I64, .sl I64], [.bool], fun _ => True, fun x => (decide (x.1 = x.2.1), ())⟩
@[reducible] def cLaw : Ctr := ⟨[tyRate, .sl I64], [.bool], fun x => x.2.1.length * 8 ≤ 140737488355328, fun _ => (true, ())⟩


def ks0 : List (Nat × Ctr) := []
noncomputable def fx_equal (x : HL (cEqual : Ctr).as) : Fx := mkFx Try.prog env ks0 ((fun (x : HL (cEqual : Ctr).as) => ([(20, 4, Ann.by [.keep 0, .keep 1, .keep 12, .one 13 (.d I64)] (fun s g => 0 ≤ g.1 ∧ g.1 ≤ x.1.length ∧ x.1.take g.1.toNat = x.2.1.take g.1.toNat) (fun s g => (x.1.length - g.1).toNat))])) x) ([]) []
def ks1 : List (Nat × Ctr) := (20, cEqual) :: ks0
noncomputable def fx_ext (x : HL (cExt : Ctr).as) : Fx := mkFx Try.prog env ks1 ((fun (x : HL (cExt : Ctr).as) => ([(23, 4, Ann.by [.one 4 (.row I64), .one 5 (.d I64), .keep 8, .keep 9, .one 10 (.d I64)] (fun s g => (g.1.length : Int) = g.2.2.1 ∧ 0 ≤ g.2.2.1 ∧ g.2.2.1 ≤ x.1.length ∧ (x.1.take g.2.2.1.toNat).all inR = true ∧ W (x.1.take g.2.2.1.toNat) = (g.2.1 / 65536, g.2.1 % 65536, g.1) ∧ 0 ≤ g.2.1 ∧ g.2.1 / 65536 ≤ g.2.2.1) (fun s g => (x.1.length - g.2.2.1).toNat))])) x) ([]) []
def ks2 : List (Nat × Ctr) := (23, cExt) :: ks1
noncomputable def fx_wext (x : HL (cExt : Ctr).as) : Fx := mkFx Try.prog env ks2 ((fun (x : HL (cExt : Ctr).as) => ([(24, 4, Ann.by [.keep 0, .one 4 (.row I64), .one 5 (.d I64), .keep 8, .keep 9, .one 10 (.d I64)] (fun s g => (g.1.length : Int) = g.2.2.1 ∧ 0 ≤ g.2.2.1 ∧ g.2.2.1 ≤ x.1.length ∧ (x.1.take g.2.2.1.toNat).all inR = true ∧ (W (x.1.take g.2.2.1.toNat)).1 = g.2.1 ∧ (W (x.1.take g.2.2.1.toNat)).2.2 = g.1 ∧ 0 ≤ g.2.1 ∧ g.2.1 ≤ g.2.2.1) (fun s g => (x.1.length - g.2.2.1).toNat))])) x) ([]) []
def ks3 : List (Nat × Ctr) := (24, cExt) :: ks2
noncomputable def fx_wrong (x : HL (cWrong : Ctr).as) : Fx := mkFx Try.prog env ks3 ([]) ([]) []
def ks4 : List (Nat × Ctr) := (25, cWrong) :: ks3
noncomputable def fx_wwrong (x : HL (cWrong : Ctr).as) : Fx := mkFx Try.prog env ks4 ([]) ([]) []
def ks5 : List (Nat × Ctr) := (26, cWrong) :: ks4
noncomputable def fx_law (x : HL (cLaw : Ctr).as) : Fx := mkFx Try.prog env ks5 ([]) ([]) []
def ks6 : List (Nat × Ctr) := (5, cLaw) :: ks5
def ksAll : List (Nat × Ctr) := ks6
end Go.Proofs.Ytollphjlheabdaa.Clk
