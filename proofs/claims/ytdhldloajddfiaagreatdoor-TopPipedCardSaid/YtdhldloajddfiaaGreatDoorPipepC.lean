/-
 PipeSteps, PipePlays: what each function computes (its contract), and what its loops keep.
-/
import Derived.Test.YtdhldloajddfiaaGreatDoorEnv
import Derived.Test.YtdhldloajddfiaaGreatDoorSxP4
namespace Go.Proofs.YtdhldloajddfiaaGreatDoor.Pipep
open Go.Sx
set_option maxRecDepth 100000
set_option linter.unusedVariables false

abbrev PT := List Int × Int × Int
def right (p : PT) : Bool := decide (p.1.length ≤ 64) && decide (0 ≤ p.2.1) && decide (p.2.1 ≤ 1099511627776) && decide (0 ≤ p.2.2) && decide (p.2.2 ≤ 1099511627776)
def bad (e : Int) : PT × Int × List Int × Int × Unit := (([], 0, 0), 0, [], e, ())
def fin (p : PT) (n : Int) (g : List Int) : PT × Int × List Int × Int × Unit := (p, n, g, 0, ())
def full (p : PT) (d : List Int) : Bool := decide (64 < p.1.length + d.length) && (decide (p.1.length = 64) || decide (d.length ≤ 16))
def step (p : PT) (o : Int × Int × List Int) : PT × Int × List Int × Int × Unit :=
 if right p = false then bad 1
 else if o.1 = 1 then (if p.2.1 = 0 then bad 6 else if p.2.2 = 0 then bad 3 else if full p o.2.2 = true then bad 7
  else fin (p.1 ++ o.2.2.take (64 - p.1.length), p.2) (min (64 - p.1.length : Int) o.2.2.length) [])
 else if o.1 = 2 then (if p.2.2 = 0 then bad 6 else if o.2.1 < 1 then bad 2 else if p.1 = [] ∧ 0 < p.2.1 then bad 7
  else fin (p.1.drop o.2.1.toNat, p.2) 0 (p.1.take o.2.1.toNat))
 else if o.1 = 3 then (if p.2.1 = 1099511627776 then bad 4 else fin (p.1, p.2.1 + 1, p.2.2) 0 [])
 else if o.1 = 4 then (if p.2.2 = 1099511627776 then bad 4 else fin (p.1, p.2.1, p.2.2 + 1) 0 [])
 else if o.1 = 5 then (if p.2.1 = 0 then bad 3 else fin (p.1, p.2.1 - 1, p.2.2) 0 [])
 else if o.1 = 6 then (if p.2.2 = 0 then bad 3 else fin (p.1, p.2.1, p.2.2 - 1) 0 [])
 else bad 5
def same (a b : PT) : Bool := decide (a.1 = b.1) && decide (a.2.1 = b.2.1) && decide (a.2.2 = b.2.2)
def one (s : PT × List Int × List Int) (o : Int × Int × List Int) : PT × List Int × List Int :=
 if (step s.1 o).2.2.2.1 = 0 then ((step s.1 o).1, s.2.1 ++ [0], s.2.2 ++ (step s.1 o).2.2.1) else (s.1, s.2.1 ++ [(step s.1 o).2.2.2.1], s.2.2)
def pl (ops : List (Int × Int × List Int)) : PT × List Int × List Int := ops.foldl one (([], 1, 1), [], [])
def play (ops : List (Int × Int × List Int)) : List Int × List Int × PT × Unit := ((pl ops).2.1, (pl ops).2.2, (pl ops).1, ())
@[reducible] def cClone : Ctr := ⟨[.sl U8], [.sl U8], fun x => x.1.length ≤ 140737488355328, fun x => (x.1, ()), true⟩
@[reducible] def cEqual : Ctr := ⟨[.sl I64, .sl I64], [.bool], fun _ => True, fun x => (decide (x.1 = x.2.1), ()), false⟩
@[reducible] def cRight : Ctr := ⟨[tyPipe], [.bool], fun _ => True, fun x => (right x.1, ()), false⟩
@[reducible] def cStep : Ctr := ⟨[tyPipe, tyPipeOp], [tyPipe, I64, .sl U8, I64], fun x => x.2.1.2.2.length ≤ 140737488355328, fun x => step x.1 x.2.1, false⟩
@[reducible] def cSame : Ctr := ⟨[tyPipe, tyPipe], [.bool], fun _ => True, fun x => (same x.1 x.2.1, ()), false⟩
@[reducible] def cPlay : Ctr := ⟨[.sl tyPipeOp], [.sl I64, .sl U8, tyPipe], fun x => x.1.length * 40 ≤ 140737488355328 ∧ ∀ o ∈ x.1, o.2.2.length ≤ 140737488355328, fun x => play x.1, false⟩
@[reducible] def cLaw : Ctr := ⟨[tyPipe, tyPipeOp], [.bool], fun x => x.2.1.2.2.length ≤ 140737488355328, fun _ => (true, ()), false⟩
@[reducible] def cLawP : Ctr := ⟨[.sl tyPipeOp], [.bool], fun x => x.1.length * 40 ≤ 140737488355328 ∧ ∀ o ∈ x.1, o.2.2.length ≤ 140737488355328, fun _ => (true, ()), false⟩


noncomputable def ks0 : List (Nat × Ctr) := []
noncomputable def fx_clone (x : HL (cClone : Ctr).as) : Fx := mkFx Tryz.prog env ks0 ([]) ([]) []
noncomputable def ks1 : List (Nat × Ctr) := (11, cClone) :: ks0
noncomputable def fx_right (x : HL (cRight : Ctr).as) : Fx := mkFx Tryz.prog env ks1 ([]) ([]) []
noncomputable def ks2 : List (Nat × Ctr) := (21, cRight) :: ks1
noncomputable def fx_step (x : HL (cStep : Ctr).as) : Fx := mkFx Tryz.prog env ks2 ([]) ([]) [(9,3000139),(9,3000144)]
noncomputable def ks3 : List (Nat × Ctr) := (9, cStep) :: ks2
noncomputable def ksAll : List (Nat × Ctr) := ks3
end Go.Proofs.YtdhldloajddfiaaGreatDoor.Pipep
