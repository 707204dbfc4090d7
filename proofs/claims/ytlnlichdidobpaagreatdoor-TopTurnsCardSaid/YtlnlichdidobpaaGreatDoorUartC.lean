/-
 UartSteps, UartPlays: what each function computes (its contract), and what its loops keep.
-/
import Derived.Test.YtlnlichdidobpaaGreatDoorEnv
import Derived.Test.YtlnlichdidobpaaGreatDoorSxP4
namespace Go.Proofs.YtlnlichdidobpaaGreatDoor.Uart
open Go.Sx
set_option maxRecDepth 100000
set_option linter.unusedVariables false

abbrev UT := List Int × List Int × Int × Bool
def right (u : UT) : Bool := decide (u.1.length ≤ 16) && decide (u.2.1.length ≤ 16) && decide (0 ≤ u.2.2.1) && decide (u.2.2.1 ≤ 1099511627776) && (u.2.2.2 == decide (0 < u.1.length))
def fin (i o : List Int) (l b : Int) : UT × Int × Int × Unit := ((i, o, l, decide (0 < i.length)), b, 0, ())
def bad (e : Int) : UT × Int × Int × Unit := (([], [], 0, false), 0, e, ())
def step (u : UT) (k c : Int) : UT × Int × Int × Unit :=
 if right u then
  (if k = 1 then (if u.1.length < 16 then fin (u.1 ++ [c]) u.2.1 u.2.2.1 0 else if u.2.2.1 = 1099511627776 then bad 4 else fin u.1 u.2.1 (u.2.2.1 + 1) 0)
   else if k = 2 then (if u.1 = [] then bad 3 else fin (u.1.drop 1) u.2.1 u.2.2.1 (u.1.getD 0 0))
   else if k = 3 then (if u.2.1.length = 16 then bad 7 else fin u.1 (u.2.1 ++ [c]) u.2.2.1 0)
   else if k = 4 then (if u.2.1 = [] then bad 3 else fin u.1 (u.2.1.drop 1) u.2.2.1 (u.2.1.getD 0 0))
   else bad 5)
 else bad 1
def same (a b : UT) : Bool := decide (a.1 = b.1) && decide (a.2.1 = b.2.1) && decide (a.2.2.1 = b.2.2.1) && (a.2.2.2 == b.2.2.2)
@[reducible] def bc : ah := ⟨[.sl U8], [.sl U8], fun x => x.1.length ≤ 140737488355328, fun x => (x.1, ()), true⟩
@[reducible] def aJ : ah := ⟨[kI], [.bool], fun _ => True, fun x => (right x.1, ()), false⟩
@[reducible] def bg : ah := ⟨[kI, JK], [kI, U8, dU], fun _ => True, fun x => step x.1 x.2.1.1 x.2.1.2, false⟩
noncomputable def pA : List (Nat × ah) := []
noncomputable def eM (x : HL (bc : ah).as) : Fx := fX Tryz.prog env pA ([]) ([]) []
noncomputable def pn : List (Nat × ah) := (30, bc) :: pA
noncomputable def bQ (x : HL (aJ : ah).as) : Fx := fX Tryz.prog env pn ([]) ([]) []
noncomputable def p5 : List (Nat × ah) := (108, aJ) :: pn
noncomputable def gj (x : HL (bg : ah).as) : Fx := fX Tryz.prog env p5 ([]) ([]) [(80,2000017),(80,2000025)]
noncomputable def tK : List (Nat × ah) := (80, bg) :: p5
noncomputable def dY : List (Nat × ah) := tK
end Go.Proofs.YtlnlichdidobpaaGreatDoor.Uart
