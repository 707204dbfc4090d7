/-
 BenchTells: what each function computes (its contract), and what its loops keep.
-/
import Derived.Test.YtdhldloajddfiaaGreatDoorEnv
import Derived.Test.YtdhldloajddfiaaGreatDoorSxP4
import Derived.Test.YtdhldloajddfiaaGreatDoorKernL
import Derived.Test.YtdhldloajddfiaaGreatDoorBenchL
namespace Go.Proofs.YtdhldloajddfiaaGreatDoor.Tell
open Go.Sx
set_option maxRecDepth 100000
set_option linter.unusedVariables false

@[reducible] def RR {α : Type} (x : α) : Prop := x = x
@[reducible] def R8 (p : Prop) : Prop := True ∧ True ∧ True ∧ True ∧ True ∧ True ∧ True ∧ True ∧ p
@[reducible] def R32 (p : Prop) : Prop := R8 (R8 (R8 (R8 p)))
theorem RR_eq {α : Type} (x : α) : RR x = True := eq_self x
theorem R8_eq (p : Prop) : R8 p = p := by unfold R8; simp only [true_and]
theorem R32_eq (p : Prop) : R32 p = p := by unfold R32; simp only [R8_eq]
abbrev KO := Int × Int × Int × Int
abbrev KA := Int × List Int
def hexd (n : Int) : Int := if n < 10 then 48 + n else 87 + n
def hexL (l : List Int) : List Int := (l.map fun b => [hexd (b / 16), hexd (b % 16)]).flatten
def hexB (l : List Int) : List Int := if l = [] then [45] else hexL l
def lineA (o : KO) (a : KA) : List Int := if a.1 ≠ 0 then [101, 114, 114, 111, 114, 32] ++ Bench.dec a.1 else if o.1 = 3 then [111, 107, 32] ++ hexB a.2 else [111, 107]
def linesA (ops : List KO) (an : List KA) (k : Nat) : List (List Int) := (List.range k).map fun i => lineA (ops.getD i (0, 0, 0, 0)) (an.getD i (0, []))
def nums (w : List Int × List Int × (List (List Int) × List Int) × Int × Int) : List Int := [(w.1.length : Int), (w.2.1.length : Int), (w.2.2.1.1.length : Int), (w.2.2.1.2.length : Int), w.2.2.2.1, w.2.2.2.2]
def leftA (l : List Int) (k : Nat) : List Int := [108, 101, 102, 116] ++ ((l.take k).map fun n => [32] ++ Bench.dec n).flatten
def opsB (s : List Int) : List KO := (Bench.parseB s).1
def ansB (s : List Int) : List KA := (Kern.ypl (opsB s)).2
def tellB (s : List Int) : List (List Int) × Int := if (Bench.parseB s).2.2 ≠ 0 then ([], (Bench.parseB s).2.2) else (linesA (opsB s) (ansB s) (ansB s).length ++ [leftA (nums (Kern.yend (Kern.ypl (opsB s)).1)) 6], 0)
@[reducible] def cItoa2 : Ctr := ⟨[I64], [.str], fun x => 0 ≤ x.1, fun x => (Bench.dec x.1, ()), false⟩
@[reducible] def cFmtX : Ctr := ⟨[I64, I64], [.str], fun x => 0 ≤ x.1 ∧ x.1 ≤ 15 ∧ x.2.1 = 16, fun x => ([hexd x.1], ()), false⟩
@[reducible] def cHex : Ctr := ⟨[.sl U8], [.str], fun x => x.1.length ≤ 1048576, fun x => (hexB x.1, ()), false⟩
@[reducible] def cTell : Ctr := ⟨[.str], [.sl .str, I64], fun x => x.1.length ≤ 1048576, fun x => ((tellB x.1).1, (tellB x.1).2, ()), false⟩
@[reducible] def cEqual : Ctr := ⟨[.sl .str, .sl .str], [.bool], fun _ => True, fun x => (decide (x.1 = x.2.1), ()), false⟩
@[reducible] def cLaw : Ctr := ⟨[.str], [.bool], fun x => x.1.length ≤ 1048576, fun _ => (true, ()), false⟩


noncomputable def ks0 : List (Nat × Ctr) := Go.Proofs.YtdhldloajddfiaaGreatDoor.Kern.ksAll ++ Go.Proofs.YtdhldloajddfiaaGreatDoor.Bench.ksAll
noncomputable def fx_itoa2 (x : HL (cItoa2 : Ctr).as) : Fx := mkFx Tryz.prog env ks0 ([]) ([]) []
noncomputable def ks1 : List (Nat × Ctr) := (10, cItoa2) :: ks0
noncomputable def fx_hex (x : HL (cHex : Ctr).as) : Fx := mkFx Tryz.prog env ks1 ([]) ([]) []
noncomputable def ks2 : List (Nat × Ctr) := (32, cHex) :: ks1
noncomputable def fx_tell (x : HL (cTell : Ctr).as) : Fx := mkFx Tryz.prog env ks2 ((fun (x : HL (cTell : Ctr).as) => ([(14, 7, Ann.by [.keep 4, .keep 8, .one 9 (.row .str), .one 30 (.d (.sl tyKernAns)), .keep 31, .one 32 (.d I64)] (fun s g => 0 ≤ g.2.2.1 ∧ g.2.2.1 ≤ g.2.1.length ∧ g.2.1 = ansB x.1 ∧ g.1 = linesA (opsB x.1) g.2.1 g.2.2.1.toNat) (fun s g => (g.2.1.length - g.2.2.1).toNat)),
 (14, 18, Ann.by [.keep 9, .one 13 (.d .str), .keep 84, .keep 85, .one 86 (.d I64)] (fun s g => 0 ≤ g.2.1 ∧ g.2.1 ≤ 6 ∧ g.1 = leftA (s.dat (.sl I64) 84) g.2.1.toNat) (fun s g => (6 - g.2.1).toNat))])) x) ([]) []
noncomputable def ks3 : List (Nat × Ctr) := (14, cTell) :: ks2
noncomputable def ksAll : List (Nat × Ctr) := ks3
end Go.Proofs.YtdhldloajddfiaaGreatDoor.Tell
