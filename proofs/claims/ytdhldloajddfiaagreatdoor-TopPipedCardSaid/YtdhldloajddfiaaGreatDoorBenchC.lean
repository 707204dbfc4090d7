/-
 BenchReads: what each function computes (its contract), and what its loops keep.
-/
import Derived.Test.YtdhldloajddfiaaGreatDoorEnv
import Derived.Test.YtdhldloajddfiaaGreatDoorSxP4
import Derived.Lib.IndexMore
import Derived.Lib.AtoiAll
import Derived.Lib.ParseIntB
import Derived.Lib.ItoaNum
namespace Go.Proofs.YtdhldloajddfiaaGreatDoor.Bench
open Go.Sx
set_option maxRecDepth 100000
set_option linter.unusedVariables false

@[reducible] def RR {α : Type} (x : α) : Prop := x = x
@[reducible] def R8 (p : Prop) : Prop := True ∧ True ∧ True ∧ True ∧ True ∧ True ∧ True ∧ True ∧ p
@[reducible] def R32 (p : Prop) : Prop := R8 (R8 (R8 (R8 p)))
theorem RR_eq {α : Type} (x : α) : RR x = True := eq_self x
theorem R8_eq (p : Prop) : R8 p = p := by unfold R8; simp only [true_and]
theorem R32_eq (p : Prop) : R32 p = p := by unfold R32; simp only [R8_eq]
abbrev KO := Int × Int × Int × Int
def by8 (l : List Int) : List UInt8 := l.map fun n => UInt8.ofNat n.toNat
def un8 (l : List UInt8) : List Int := l.map fun b => (b.toNat : Int)
def dec (n : Int) : List Int := un8 (Go.Lib.decDigits n.toNat)
def wordsK : List (List Int) := [[105, 110], [114, 117, 110], [114, 101, 97, 100], [115, 97, 118, 101], [114, 101, 115, 116, 111, 114, 101], [109, 111, 118, 101]]
def numK (o : KO) : Int := if o.1 = 1 then o.2.2.2 else if o.1 = 3 then o.2.2.1 else o.2.1
def okK (o : KO) : Bool := decide (1 ≤ o.1 ∧ o.1 ≤ 6 ∧ 0 ≤ numK o ∧ numK o ≤ 1099511627776)
def txtK (o : KO) : List Int := wordsK.getD (o.1 - 1).toNat [] ++ ([32] ++ dec (numK o))
def atoiV (s : List Int) : Int := match Go.Lib.atoiAll (by8 s) with
 | .ok v => v
 | .range => Go.Lib.atoiSat (by8 s)
 | _ => 0
def atoiE (s : List Int) : Bool := match Go.Lib.atoiAll (by8 s) with
 | .ok _ => false
 | _ => true
def puEnd (s : List Int) : Go.Lib.NumEnd Nat := Go.Lib.parseUintB 41 (by8 s)
def pu41V (s : List Int) : Int := match puEnd s with
 | .ok v => v
 | .range => 2199023255551
 | _ => 0
def pu41E (s : List Int) : Bool := match puEnd s with
 | .ok _ => false
 | _ => true
def cutA (s t : List Int) : List Int := un8 (Go.Lib.cut (by8 s) (by8 t)).1
def cutB (s t : List Int) : List Int := un8 (Go.Lib.cut (by8 s) (by8 t)).2.1
def cutC (s t : List Int) : Bool := (Go.Lib.cut (by8 s) (by8 t)).2.2
def mkO (k n : Int) : KO := if k = 1 then (1, 0, 0, n % 256) else if k = 3 then (3, 0, n, 0) else (k, n, 0, 0)
def readO (w : List Int) (n : Int) (s : List Int) : Nat → KO × Bool
 | 0 => ((0, 0, 0, 0), false)
 | k + 1 => if wordsK.getD (6 - (k + 1)) [] = w then (mkO (7 - (k + 1)) n, okK (mkO (7 - (k + 1)) n) && decide (txtK (mkO (7 - (k + 1)) n) = s)) else readO w n s k
def readB (s : List Int) : KO × Bool := if atoiE (cutB s [32]) = true then ((0, 0, 0, 0), false) else readO (cutA s [32]) (atoiV (cutB s [32])) s 6
def wordAt (k : Int) : List Int := wordsK.getD (k - 1).toNat []
def zreadO (s : List Int) : Nat → KO × Bool
 | 0 => ((0, 0, 0, 0), false)
 | k + 1 => if s.length ≤ (wordAt (7 - (k + 1))).length + 1 ∨ s.take ((wordAt (7 - (k + 1))).length + 1) ≠ wordAt (7 - (k + 1)) ++ [32] then zreadO s k else
  let r := s.drop ((wordAt (7 - (k + 1))).length + 1)
  if pu41E r = true ∨ 1099511627776 < pu41V r ∨ dec (pu41V r) ≠ r ∨ (7 - ((k : Int) + 1) = 1 ∧ 255 < pu41V r) then ((0, 0, 0, 0), false) else (mkO (7 - (k + 1)) (pu41V r), true)
def zreadB (s : List Int) : KO × Bool := zreadO s 6
def parseO : Nat → List Int → Int → List KO → List KO × Int × Int
 | 0, _, _, _ => ([], 0, 0)
 | f + 1, s, k, o => if s = [] then (o, 0, 0) else if cutC s [10] = false ∨ (readB (cutA s [10])).2 = false then ([], k, 1) else parseO f (cutB s [10]) (k + 1) (o ++ [(readB (cutA s [10])).1])
def parseB (s : List Int) : List KO × Int × Int := parseO (s.length + 1) s 0 []
def printB (l : List KO) : List Int × Int := if l.all okK = true then ((l.map fun o => txtK o ++ [10]).flatten, 0) else ([], 2)
@[reducible] def cItoa : Ctr := ⟨[I64], [.str], fun x => 0 ≤ x.1 ∧ x.1 ≤ 1099511627776, fun x => (dec x.1, ()), false⟩
@[reducible] def cFmt : Ctr := ⟨[U64, I64], [.str], fun x => x.1 ≤ 1099511627776 ∧ x.2.1 = 10, fun x => (dec x.1, ()), false⟩
@[reducible] def cAtoi : Ctr := ⟨[.str], [I64, .err], fun x => x.1.length ≤ 1048576, fun x => (atoiV x.1, atoiE x.1, ()), false⟩
@[reducible] def cPu : Ctr := ⟨[.str, I64, I64], [U64, .err], fun x => x.1.length ≤ 1048576 ∧ x.2.1 = 10 ∧ x.2.2.1 = 41, fun x => (pu41V x.1, pu41E x.1, ()), false⟩
@[reducible] def cCut : Ctr := ⟨[.str, .str], [.str, .str, .bool], fun x => x.1.length ≤ 1048576 ∧ x.2.1.length = 1, fun x => (cutA x.1 x.2.1, cutB x.1 x.2.1, cutC x.1 x.2.1, ()), false⟩
@[reducible] def cWords : Ctr := ⟨[], [.sl .str], fun _ => True, fun _ => (wordsK, ()), true⟩
@[reducible] def cLine : Ctr := ⟨[tyKernOp], [.str, .bool], fun _ => True, fun x => (if okK x.1 = true then txtK x.1 else [], okK x.1, ()), false⟩
@[reducible] def cRead : Ctr := ⟨[.str], [tyKernOp, .bool], fun x => x.1.length ≤ 1048576, fun x => ((readB x.1).1, (readB x.1).2, ()), false⟩
@[reducible] def cZread : Ctr := ⟨[.str], [tyKernOp, .bool], fun x => x.1.length ≤ 1048576, fun x => ((zreadB x.1).1, (zreadB x.1).2, ()), false⟩
@[reducible] def cPrint : Ctr := ⟨[.sl tyKernOp], [.str, I64], fun x => x.1.length ≤ 1048576, fun x => ((printB x.1).1, (printB x.1).2, ()), false⟩
@[reducible] def cParse : Ctr := ⟨[.str], [.sl tyKernOp, I64, I64], fun x => x.1.length ≤ 1048576, fun x => ((parseB x.1).1, (parseB x.1).2.1, (parseB x.1).2.2, ()), false⟩
@[reducible] def cEqual : Ctr := ⟨[.sl tyKernOp, .sl tyKernOp], [.bool], fun _ => True, fun x => (decide (x.1 = x.2.1), ()), false⟩
@[reducible] def cLaw : Ctr := ⟨[.sl tyKernOp, .str], [.bool], fun x => x.1.length ≤ 1048576 ∧ x.2.1.length ≤ 1048576, fun _ => (true, ()), false⟩


noncomputable def ks0 : List (Nat × Ctr) := []
noncomputable def fx_itoa (x : HL (cItoa : Ctr).as) : Fx := mkFx Tryz.prog env ks0 ([]) ([]) []
noncomputable def ks1 : List (Nat × Ctr) := (10, cItoa) :: ks0
noncomputable def fx_atoi (x : HL (cAtoi : Ctr).as) : Fx := mkFx Tryz.prog env ks1 ([]) ([]) []
noncomputable def ks2 : List (Nat × Ctr) := (61, cAtoi) :: ks1
noncomputable def fx_cut (x : HL (cCut : Ctr).as) : Fx := mkFx Tryz.prog env ks2 ([]) ([]) []
noncomputable def ks3 : List (Nat × Ctr) := (46, cCut) :: ks2
noncomputable def fx_words (x : HL (cWords : Ctr).as) : Fx := mkFx Tryz.prog env ks3 ([]) ([]) []
noncomputable def ks4 : List (Nat × Ctr) := (62, cWords) :: ks3
noncomputable def fx_line (x : HL (cLine : Ctr).as) : Fx := mkFx Tryz.prog env ks4 ([]) ([]) []
noncomputable def ks5 : List (Nat × Ctr) := (64, cLine) :: ks4
noncomputable def fx_read (x : HL (cRead : Ctr).as) : Fx := mkFx Tryz.prog env ks5 ((fun (x : HL (cRead : Ctr).as) => ([(47, 4, Ann.by [.keep 0, .keep 2, .keep 4, .keep 7, .keep 8, .keep 25, .keep 26, .one 27 (.d I64)] (fun s g => 0 ≤ g.1 ∧ g.1 ≤ 6 ∧ readB x.1 = if atoiE (cutB x.1 [32]) = true then ((0, 0, 0, 0), false) else readO (cutA x.1 [32]) (atoiV (cutB x.1 [32])) x.1 (6 - g.1).toNat) (fun s g => (6 - g.1).toNat))])) x) ([]) [(47,46)]
noncomputable def ks6 : List (Nat × Ctr) := (47, cRead) :: ks5
noncomputable def fx_parse (x : HL (cParse : Ctr).as) : Fx := mkFx Tryz.prog env ks6 ((fun (x : HL (cParse : Ctr).as) => ([(30, 3, Ann.by [.one 0 (.d .str), .one 5 (.row tyKernOp), .one 6 (.d I64)] (fun s g => 0 ≤ g.2.2.1 ∧ g.1.length + g.2.2.1 ≤ x.1.length ∧ g.2.1.length = g.2.2.1 ∧ parseB x.1 = parseO (g.1.length + 1) g.1 g.2.2.1 g.2.1) (fun s g => g.1.length))])) x) ([]) []
noncomputable def ks7 : List (Nat × Ctr) := (30, cParse) :: ks6
noncomputable def ksAll : List (Nat × Ctr) := ks7
end Go.Proofs.YtdhldloajddfiaaGreatDoor.Bench
