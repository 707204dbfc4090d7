/-
 UartSteps, UartPlays: what each function computes (its contract), and what its loops keep.
-/
import Derived.Test.YtdhldloajddfiaaGreatDoorEnv
import Derived.Test.YtdhldloajddfiaaGreatDoorSxP4
namespace Go.Proofs.YtdhldloajddfiaaGreatDoor.Uart
open Go.Sx
set_option maxRecDepth 100000
set_option linter.unusedVariables false

abbrev UT := List Int × List Int × Int × Bool
def right (u : UT) : Bool := decide (u.1.length ≤ 16) && decide (u.2.1.length ≤ 16) && decide (0 ≤ u.2.2.1) && decide (u.2.2.1 ≤ 1099511627776) && (u.2.2.2 == decide (0 < u.1.length))
def fin (i o : List Int) (l b : Int) : UT × Int × Int × Unit := ((i, o, l, decide (0 < i.length)), b, 0, ())
def bad (e : Int) : UT × Int × Int × Unit := (([], [], 0, false), 0, e, ())
def step (u : UT) (k c : Int) : UT × Int × Int × Unit :=
 if right u then
  (if k = 1 then (if u.1.length < 16 then fin (u.1 ++ [c]) u.2.1 u.2.2.1 0 else if u.2.2.1 = 1099511627776 then bad 4 else fin u.1 u.2.1 (u.2.2.1 + 1) 0)
   else if k = 2 then (if u.1 = [] then bad 3 else fin (u.1.drop 1) u.2.1 u.2.2.1 (u.1.getD 0 0))
   else if k = 3 then (if u.2.1.length = 16 then bad 7 else fin u.1 (u.2.1 ++ [c]) u.2.2.1 0)
   else if k = 4 then (if u.2.1 = [] then bad 3 else fin u.1 (u.2.1.drop 1) u.2.2.1 (u.2.1.getD 0 0))
   else bad 5)
 else bad 1
def same (a b : UT) : Bool := decide (a.1 = b.1) && decide (a.2.1 = b.2.1) && decide (a.2.2.1 = b.2.2.1) && (a.2.2.2 == b.2.2.2)
@[reducible] def cClone : Ctr := ⟨[.sl U8], [.sl U8], fun x => x.1.length ≤ 140737488355328, fun x => (x.1, ()), true⟩
@[reducible] def cRight : Ctr := ⟨[tyUart], [.bool], fun _ => True, fun x => (right x.1, ()), false⟩
@[reducible] def cStep : Ctr := ⟨[tyUart, tyUartOp], [tyUart, U8, I64], fun _ => True, fun x => step x.1 x.2.1.1 x.2.1.2, false⟩
@[reducible] def cSame : Ctr := ⟨[tyUart, tyUart], [.bool], fun _ => True, fun x => (same x.1 x.2.1, ()), false⟩
@[reducible] def cLaw : Ctr := ⟨[tyUart, tyUartOp], [.bool], fun _ => True, fun _ => (true, ()), false⟩


noncomputable def ks0 : List (Nat × Ctr) := []
noncomputable def fx_clone (x : HL (cClone : Ctr).as) : Fx := mkFx Tryz.prog env ks0 ([]) ([]) []
noncomputable def ks1 : List (Nat × Ctr) := (11, cClone) :: ks0
noncomputable def fx_right (x : HL (cRight : Ctr).as) : Fx := mkFx Tryz.prog env ks1 ([]) ([]) []
noncomputable def ks2 : List (Nat × Ctr) := (90, cRight) :: ks1
noncomputable def fx_step (x : HL (cStep : Ctr).as) : Fx := mkFx Tryz.prog env ks2 ([]) ([]) [(74,2000017),(74,2000025)]
noncomputable def ks3 : List (Nat × Ctr) := (74, cStep) :: ks2
noncomputable def ksAll : List (Nat × Ctr) := ks3
end Go.Proofs.YtdhldloajddfiaaGreatDoor.Uart
