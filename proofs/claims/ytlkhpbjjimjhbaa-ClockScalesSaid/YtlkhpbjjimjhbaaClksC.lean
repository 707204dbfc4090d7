/-
  ClockScales: what each function computes (its contract), and what its loops keep.
-/
import Derived.Test.YtlkhpbjjimjhbaaEnv
import Derived.Test.YtlkhpbjjimjhbaaSxZA
namespace Go.Proofs.Ytlkhpbjjimjhbaa.Clks
open Go.Sx
set_option maxRecDepth 100000
set_option linter.unusedVariables false

def wrong (n d : Int) : Int := if n < 1 ∨ 1048576 < n ∨ d < 1 ∨ 1048576 < d then 2 else 0
/- Ticks so far, and the units of each spell. -/
def sone (n d : Int) (s : Int × List Int) (a : Int) : Int × List Int := (s.1 + a, s.2 ++ [(s.1 + a) * n / d - s.1 * n / d])
def stp (n d : Int) (l : List Int) : Int × List Int := l.foldl (sone n d) (0, [])
def inS (a : Int) : Bool := decide (0 ≤ a) && decide (a ≤ 1073741824)
def steps (n d : Int) (l : List Int) : List Int × Int × Unit :=
  if wrong n d ≠ 0 then ([], wrong n d, ()) else if l.length ≤ 400 ∧ l.all inS = true then ((stp n d l).2, 0, ()) else ([], 2, ())
def scale (n d t : Int) : Int × Int × Unit := if wrong n d ≠ 0 ∨ t < 0 ∨ 1099511627776 < t then (0, 2, ()) else (t * n / d, 0, ())
def thr (a b c : Int) (up : Bool) : Int := if up = true ∧ 0 < a * b % c then a * b / c + 1 else a * b / c
def ticks (n d u : Int) : Int × Int × Unit := if wrong n d ≠ 0 ∨ u < 0 ∨ 1099511627776 < u then (0, 2, ()) else (thr u d n true, 0, ())
@[reducible] def cWrong : Ctr := ⟨[tyRate], [I64], fun _ => True, fun x => (wrong x.1.1 x.1.2, ()), false⟩
@[reducible] def cScale : Ctr := ⟨[tyRate, I64], [I64, I64], fun _ => True, fun x => scale x.1.1 x.1.2 x.2.1, false⟩
@[reducible] def cSteps : Ctr := ⟨[tyRate, .sl I64], [.sl I64, I64], fun _ => True, fun x => steps x.1.1 x.1.2 x.2.1, false⟩
@[reducible] def cTicks : Ctr := ⟨[tyRate, I64], [I64, I64], fun _ => True, fun x => ticks x.1.1 x.1.2 x.2.1, false⟩
@[reducible] def cMul : Ctr := ⟨[U64, U64], [U64, U64], fun x => (0 ≤ x.1 ∧ x.1 < 18446744073709551616) ∧ (0 ≤ x.2.1 ∧ x.2.1 < 18446744073709551616) ∧ x.1 * x.2.1 < 18446744073709551616, fun x => (0, x.1 * x.2.1, ()), false⟩
@[reducible] def cDiv : Ctr := ⟨[U64, U64, U64], [U64, U64], fun x => x.1 = 0 ∧ 0 ≤ x.2.1 ∧ 1 ≤ x.2.2.1, fun x => (x.2.1 / x.2.2.1, x.2.1 % x.2.2.1, ()), false⟩
@[reducible] def cThr : Ctr := ⟨[I64, I64, I64, Bo], [I64], fun x => (0 ≤ x.1 ∧ x.1 < 9223372036854775807) ∧ (0 ≤ x.2.1 ∧ x.2.1 < 9223372036854775807) ∧ (1 ≤ x.2.2.1 ∧ x.2.2.1 < 9223372036854775807) ∧ x.1 * x.2.1 < 9223372036854775807, fun x => (thr x.1 x.2.1 x.2.2.1 x.2.2.2.1, ()), false⟩
@[reducible] def cEqual : Ctr := ⟨[.sl I64, .sl I64], [.bool], fun _ => True, fun x => (decide (x.1 = x.2.1), ()), false⟩
@[reducible] def cAny : Ctr := ⟨[.sl I64], [.bool], fun _ => True, fun x => (!(x.1.all inS), ()), false⟩
@[reducible] def cLaw : Ctr := ⟨[tyRate, I64, I64, .sl I64], [.bool], fun _ => True, fun _ => (true, ()), false⟩


noncomputable def ks0 : List (Nat × Ctr) := []
noncomputable def kf0 : List (Nat × Nat × Ctr) := []
noncomputable def fx_equal (x : HL (cEqual : Ctr).as) : Fx := mkFxF Try.prog env ks0 kf0 ((fun (x : HL (cEqual : Ctr).as) => ([(18, 4, Ann.by [.keep 0, .keep 1, .keep 12, .one 13 (.d I64)] (fun s g => 0 ≤ g.1 ∧ g.1 ≤ x.1.length ∧ x.1.take g.1.toNat = x.2.1.take g.1.toNat) (fun s g => (x.1.length - g.1).toNat))])) x) ([]) []
noncomputable def ks1 : List (Nat × Ctr) := (18, cEqual) :: ks0
noncomputable def kf1 : List (Nat × Nat × Ctr) := kf0
noncomputable def fx_wrong (x : HL (cWrong : Ctr).as) : Fx := mkFxF Try.prog env ks1 kf1 ([]) ([]) []
noncomputable def ks2 : List (Nat × Ctr) := (69, cWrong) :: ks1
noncomputable def kf2 : List (Nat × Nat × Ctr) := kf1
noncomputable def fx_wwrong (x : HL (cWrong : Ctr).as) : Fx := mkFxF Try.prog env ks2 kf2 ([]) ([]) []
noncomputable def ks3 : List (Nat × Ctr) := (37, cWrong) :: ks2
noncomputable def kf3 : List (Nat × Nat × Ctr) := kf2
noncomputable def fx_mul (x : HL (cMul : Ctr).as) : Fx := mkFxF Try.prog env ks3 kf3 ([]) ([]) []
noncomputable def ks4 : List (Nat × Ctr) := (72, cMul) :: ks3
noncomputable def kf4 : List (Nat × Nat × Ctr) := kf3
noncomputable def fx_div (x : HL (cDiv : Ctr).as) : Fx := mkFxF Try.prog env ks4 kf4 ([]) ([]) []
noncomputable def ks5 : List (Nat × Ctr) := (73, cDiv) :: ks4
noncomputable def kf5 : List (Nat × Nat × Ctr) := kf4
noncomputable def fx_thr (x : HL (cThr : Ctr).as) : Fx := mkFxF Try.prog env ks5 kf5 ([]) ([]) []
noncomputable def ks6 : List (Nat × Ctr) := (38, cThr) :: ks5
noncomputable def kf6 : List (Nat × Nat × Ctr) := kf5
noncomputable def fx_scale (x : HL (cScale : Ctr).as) : Fx := mkFxF Try.prog env ks6 kf6 ([]) ([]) []
noncomputable def ks7 : List (Nat × Ctr) := (32, cScale) :: ks6
noncomputable def kf7 : List (Nat × Nat × Ctr) := kf6
noncomputable def fx_wscale (x : HL (cScale : Ctr).as) : Fx := mkFxF Try.prog env ks7 kf7 ([]) ([]) []
noncomputable def ks8 : List (Nat × Ctr) := (33, cScale) :: ks7
noncomputable def kf8 : List (Nat × Nat × Ctr) := kf7
noncomputable def fx_any (x : HL (cAny : Ctr).as) : Fx := mkFxF Try.prog env ks8 kf8 ((fun (x : HL (cAny : Ctr).as) => ([(104, 2, Ann.by [.keep 0, .keep 1, .keep 7, .one 8 (.d I64)] (fun s g => 0 ≤ g.1 ∧ g.1 ≤ x.1.length ∧ (x.1.take g.1.toNat).all inS = true) (fun s g => (x.1.length - g.1).toNat))])) x) ([]) []
noncomputable def ks9 : List (Nat × Ctr) := ks8
noncomputable def kf9 : List (Nat × Nat × Ctr) := (70, 71, cAny) :: kf8
noncomputable def fx_steps (x : HL (cSteps : Ctr).as) : Fx := mkFxF Try.prog env ks9 kf9 ((fun (x : HL (cSteps : Ctr).as) => ([(34, 9, Ann.by [.box 2 [.d I64, .d I64], .one 7 (.row I64), .one 8 (.d I64), .keep 24, .keep 25, .one 26 (.d I64)] (fun s g => 0 ≤ g.2.2.2.1 ∧ g.2.2.2.1 ≤ x.2.1.length ∧ (g.2.1.length : Int) = g.2.2.2.1 ∧ g.1 = x.1 ∧ g.2.1 = (stp g.1.1 g.1.2 (x.2.1.take g.2.2.2.1.toNat)).2 ∧ g.2.2.1 = (stp g.1.1 g.1.2 (x.2.1.take g.2.2.2.1.toNat)).1 * g.1.1 % g.1.2) (fun s g => (x.2.1.length - g.2.2.2.1).toNat))])) x) ([]) []
noncomputable def ks10 : List (Nat × Ctr) := (34, cSteps) :: ks9
noncomputable def kf10 : List (Nat × Nat × Ctr) := kf9
noncomputable def fx_wsteps (x : HL (cSteps : Ctr).as) : Fx := mkFxF Try.prog env ks10 kf10 ((fun (x : HL (cSteps : Ctr).as) => ([(35, 9, Ann.by [.box 2 [.d I64, .d I64], .one 7 (.row I64), .one 8 (.d I64), .one 9 (.d I64), .keep 21, .keep 22, .one 23 (.d I64)] (fun s g => 0 ≤ g.2.2.2.2.1 ∧ g.2.2.2.2.1 ≤ x.2.1.length ∧ (g.2.1.length : Int) = g.2.2.2.2.1 ∧ g.1 = x.1 ∧ (x.2.1.take g.2.2.2.2.1.toNat).all inS = true ∧ g.2.1 = (stp g.1.1 g.1.2 (x.2.1.take g.2.2.2.2.1.toNat)).2 ∧ g.2.2.1 = (stp g.1.1 g.1.2 (x.2.1.take g.2.2.2.2.1.toNat)).1 ∧ g.2.2.2.1 = g.2.2.1 * g.1.1 / g.1.2) (fun s g => (x.2.1.length - g.2.2.2.2.1).toNat))])) x) ([]) []
noncomputable def ks11 : List (Nat × Ctr) := (35, cSteps) :: ks10
noncomputable def kf11 : List (Nat × Nat × Ctr) := kf10
noncomputable def fx_ticks (x : HL (cTicks : Ctr).as) : Fx := mkFxF Try.prog env ks11 kf11 ([]) ([]) []
noncomputable def ks12 : List (Nat × Ctr) := (36, cTicks) :: ks11
noncomputable def kf12 : List (Nat × Nat × Ctr) := kf11
noncomputable def fx_scales (x : HL (cLaw : Ctr).as) : Fx := mkFxF Try.prog env ks12 kf12 ([]) ([]) []
noncomputable def ks13 : List (Nat × Ctr) := (9, cLaw) :: ks12
noncomputable def kf13 : List (Nat × Nat × Ctr) := kf12
noncomputable def ksAll : List (Nat × Ctr) := ks13
end Go.Proofs.Ytlkhpbjjimjhbaa.Clks
