/-
 BenchTells: what each function computes (its contract), and what its loops keep.
-/
import Derived.Test.YtlnlichdidobpaaGreatDoorEnv
import Derived.Test.YtlnlichdidobpaaGreatDoorSxP4
import Derived.Test.YtlnlichdidobpaaGreatDoorKernL
import Derived.Test.YtlnlichdidobpaaGreatDoorBenchL
namespace Go.Proofs.YtlnlichdidobpaaGreatDoor.Tell
open Go.Sx
set_option maxRecDepth 100000
set_option linter.unusedVariables false

@[reducible] def RR {α : Type} (x : α) : Prop := x = x
@[reducible] def R8 (p : Prop) : Prop := True ∧ True ∧ True ∧ True ∧ True ∧ True ∧ True ∧ True ∧ p
@[reducible] def kg (p : Prop) : Prop := R8 (R8 (R8 (R8 p)))
theorem vC {α : Type} (x : α) : RR x = True := eq_self x
theorem uF (p : Prop) : R8 p = p := by unfold R8; simp only [true_and]
theorem yF (p : Prop) : kg p = p := by unfold kg; simp only [uF]
abbrev KO := Int × Int × Int × Int
abbrev KA := Int × List Int
def yt (n : Int) : Int := if n < 10 then 48 + n else 87 + n
def ry (l : List Int) : List Int := (l.map fun b => [yt (b / 16), yt (b % 16)]).flatten
def pG (l : List Int) : List Int := if l = [] then [45] else ry l
def po (o : KO) (a : KA) : List Int := if a.1 ≠ 0 then [101, 114, 114, 111, 114, 32] ++ Bench.dec a.1 else if o.1 = 3 then [111, 107, 32] ++ pG a.2 else [111, 107]
def dn (ops : List KO) (an : List KA) (k : Nat) : List (List Int) := (List.range k).map fun i => po (ops.getD i (0, 0, 0, 0)) (an.getD i (0, []))
def nums (w : List Int × List Int × (List (List Int) × List Int) × Int × Int) : List Int := [(w.1.length : Int), (w.2.1.length : Int), (w.2.2.1.1.length : Int), (w.2.2.1.2.length : Int), w.2.2.2.1, w.2.2.2.2]
def iS (l : List Int) (k : Nat) : List Int := [108, 101, 102, 116] ++ ((l.take k).map fun n => [32] ++ Bench.dec n).flatten
def iv (s : List Int) : List KO := (Bench.bf s).1
def fh (s : List Int) : List KA := (Kern.iZ (iv s)).2
def fu (s : List Int) : List (List Int) × Int := if (Bench.bf s).2.2 ≠ 0 then ([], (Bench.bf s).2.2) else (dn (iv s) (fh s) (fh s).length ++ [iS (nums (Kern.Bt (Kern.iZ (iv s)).1)) 6], 0)
@[reducible] def JU : ah := ⟨[dU], [.str], fun x => 0 ≤ x.1, fun x => (Bench.dec x.1, ()), false⟩
@[reducible] def U2 : ah := ⟨[.sl U8], [.str], fun x => x.1.length ≤ 1048576, fun x => (pG x.1, ()), false⟩
@[reducible] def nf : ah := ⟨[.str], [.sl .str, dU], fun x => x.1.length ≤ 1048576, fun x => ((fu x.1).1, (fu x.1).2, ()), false⟩
noncomputable def pA : List (Nat × ah) := Go.Proofs.YtlnlichdidobpaaGreatDoor.Kern.dY ++ Go.Proofs.YtlnlichdidobpaaGreatDoor.Bench.dY
noncomputable def pn : List (Nat × ah) := (17, JU) :: pA
noncomputable def p5 : List (Nat × ah) := (18, U2) :: pn
noncomputable def yA (x : HL (nf : ah).as) : Fx := fX Tryz.prog env p5 ((fun (x : HL (nf : ah).as) => ([(7, 7, jz.by [.keep 4, .keep 8, .one 9 (.row .str), .one 30 (.d (.sl sj)), .keep 31, .one 32 (.d dU)] (fun s g => 0 ≤ g.2.2.1 ∧ g.2.2.1 ≤ g.2.1.length ∧ g.2.1 = fh x.1 ∧ g.1 = dn (iv x.1) g.2.1 g.2.2.1.toNat) (fun s g => (g.2.1.length - g.2.2.1).toNat)),
 (7, 18, jz.by [.keep 9, .one 13 (.d .str), .keep 84, .keep 85, .one 86 (.d dU)] (fun s g => 0 ≤ g.2.1 ∧ g.2.1 ≤ 6 ∧ g.1 = iS (s.uv (.sl dU) 84) g.2.1.toNat) (fun s g => (6 - g.2.1).toNat))])) x) ([]) []
noncomputable def tK : List (Nat × ah) := (7, nf) :: p5
noncomputable def dY : List (Nat × ah) := tK
end Go.Proofs.YtlnlichdidobpaaGreatDoor.Tell
