/-
  UartSteps, UartPlays: what each function computes (its contract), and what its loops keep.
-/
import Derived.Test.YtollphjlheabdaaEnv
import Derived.Test.YtollphjlheabdaaSxZA
namespace Go.Proofs.Ytollphjlheabdaa.Uart
open Go.Sx
set_option maxRecDepth 100000
set_option linter.unusedVariables false

abbrev UT := List Int × List Int × Int × Bool
def right (u : UT) : Bool := decide (u.1.length ≤ 16) && decide (u.2.1.length ≤ 16) && decide (0 ≤ u.2.2.1) && decide (u.2.2.1 ≤ 1099511627776) && (u.2.2.2 == decide (0 < u.1.length))
def fin (i o : List Int) (l b : Int) : UT × Int × Int × Unit := ((i, o, l, decide (0 < i.length)), b, 0, ())
def bad (e : Int) : UT × Int × Int × Unit := (([], [], 0, false), 0, e, ())
def step (u : UT) (k c : Int) : UT × Int × Int × Unit :=
  if right u then
    (if k = 1 then (if u.1.length < 16 then fin (u.1 ++ [c]) u.2.1 u.2.2.1 0 else if u.2.2.1 = 1099511627776 then bad 4 else fin u.1 u.2.1 (u.2.2.1 + 1) 0)
     else if k = 2 then (if u.1 = [] then bad 3 else fin (u.1.drop 1) u.2.1 u.2.2.1 (u.1.getD 0 0))
     else if k = 3 then (if u.2.1.length = 16 then bad 7 else fin u.1 (u.2.1 ++ [c]) u.2.2.1 0)
     else if k = 4 then (if u.2.1 = [] then bad 3 else fin u.1 (u.2.1.drop 1) u.2.2.1 (u.2.1.getD 0 0))
     else bad 5)
  else bad 1
def same (a b : UT) : Bool := decide (a.1 = b.1) && decide (a.2.1 = b.2.1) && decide (a.2.2.1 = b.2.2.1) && (a.2.2.2 == b.2.2.2)
@[reducible] def cClone : Ctr := ⟨[.sl U8], [.sl U8], fun x => x.1.length ≤ 140737488355328, fun x => (x.1, ()), true⟩
@[reducible] def cRight : Ctr := ⟨[tyUart], [.bool], fun _ => True, fun x => (right x.1, ()), false⟩
@[reducible] def cStep : Ctr := ⟨[tyUart, tyUartOp], [tyUart, U8, I64], fun _ => True, fun x => step x.1 x.2.1.1 x.2.1.2, false⟩
@[reducible] def cSame : Ctr := ⟨[tyUart, tyUart], [.bool], fun _ => True, fun x => (same x.1 x.2.1, ()), false⟩
@[reducible] def cLaw : Ctr := ⟨[tyUart, tyUartOp], [.bool], fun _ => True, fun _ => (true, ()), false⟩


def ks0 : List (Nat × Ctr) := []
noncomputable def fx_clone (x : HL (cClone : Ctr).as) : Fx := mkFx Try.prog env ks0 ([]) ([]) []
def ks1 : List (Nat × Ctr) := (70, cClone) :: ks0
noncomputable def fx_right (x : HL (cRight : Ctr).as) : Fx := mkFx Try.prog env ks1 ([]) ([]) []
def ks2 : List (Nat × Ctr) := (29, cRight) :: ks1
noncomputable def fx_pright (x : HL (cRight : Ctr).as) : Fx := mkFx Try.prog env ks2 ([]) ([]) []
def ks3 : List (Nat × Ctr) := (30, cRight) :: ks2
noncomputable def fx_step (x : HL (cStep : Ctr).as) : Fx := mkFx Try.prog env ks3 ([]) ([]) [(27,2000017),(27,2000025)]
def ks4 : List (Nat × Ctr) := (27, cStep) :: ks3
noncomputable def fx_pstep (x : HL (cStep : Ctr).as) : Fx := mkFx Try.prog env ks4 ([]) ((fun (x : HL (cStep : Ctr).as) => ([(28, 25, Ann.by [.one 7 (.d Str), .one 8 (.d Str), .one 9 (.d I64), .one 10 (.d U8), .one 11 (.d I64), .keep 4] (fun s g => step x.1 x.2.1.1 x.2.1.2 = (if g.2.2.2.2.1 = 0 then fin g.1 g.2.1 g.2.2.1 g.2.2.2.1 else bad g.2.2.2.2.1)) (fun s g => 0))])) x) []
def ks5 : List (Nat × Ctr) := (28, cStep) :: ks4
noncomputable def fx_same (x : HL (cSame : Ctr).as) : Fx := mkFx Try.prog env ks5 ([]) ([]) []
def ks6 : List (Nat × Ctr) := (31, cSame) :: ks5
noncomputable def fx_steps (x : HL (cLaw : Ctr).as) : Fx := mkFx Try.prog env ks6 ([]) ([]) []
def ks7 : List (Nat × Ctr) := (6, cLaw) :: ks6
def ksAll : List (Nat × Ctr) := ks7
end Go.Proofs.Ytollphjlheabdaa.Uart
