/-
 BenchReads: what each function computes (its contract), and what its loops keep.
-/
import Derived.Test.YtlnlichdidobpaaGreatDoorEnv
import Derived.Test.YtlnlichdidobpaaGreatDoorSxP4
import Derived.Lib.IndexMore
import Derived.Lib.AtoiAll
import Derived.Lib.ParseIntB
import Derived.Lib.ItoaNum
namespace Go.Proofs.YtlnlichdidobpaaGreatDoor.Bench
open Go.Sx
set_option maxRecDepth 100000
set_option linter.unusedVariables false

@[reducible] def RR {α : Type} (x : α) : Prop := x = x
@[reducible] def R8 (p : Prop) : Prop := True ∧ True ∧ True ∧ True ∧ True ∧ True ∧ True ∧ True ∧ p
@[reducible] def kg (p : Prop) : Prop := R8 (R8 (R8 (R8 p)))
theorem vC {α : Type} (x : α) : RR x = True := eq_self x
theorem uF (p : Prop) : R8 p = p := by unfold R8; simp only [true_and]
theorem yF (p : Prop) : kg p = p := by unfold kg; simp only [uF]
abbrev KO := Int × Int × Int × Int
def gA (l : List Int) : List UInt8 := l.map fun n => UInt8.ofNat n.toNat
def wW (l : List UInt8) : List Int := l.map fun b => (b.toNat : Int)
def dec (n : Int) : List Int := wW (Go.Lib.decDigits n.toNat)
def bZ : List (List Int) := [[105, 110], [114, 117, 110], [114, 101, 97, 100], [115, 97, 118, 101], [114, 101, 115, 116, 111, 114, 101], [109, 111, 118, 101]]
def qd (o : KO) : Int := if o.1 = 1 then o.2.2.2 else if o.1 = 3 then o.2.2.1 else o.2.1
def iE (o : KO) : Bool := decide (1 ≤ o.1 ∧ o.1 ≤ 6 ∧ 0 ≤ qd o ∧ qd o ≤ 1099511627776)
def mr (o : KO) : List Int := bZ.getD (o.1 - 1).toNat [] ++ ([32] ++ dec (qd o))
def fk (s : List Int) : Int := match Go.Lib.atoiAll (gA s) with
 | .ok v => v
 | .range => Go.Lib.atoiSat (gA s)
 | _ => 0
def eK (s : List Int) : Bool := match Go.Lib.atoiAll (gA s) with
 | .ok _ => false
 | _ => true
def QF (s : List Int) : Go.Lib.NumEnd Nat := Go.Lib.parseUintB 41 (gA s)
def fp (s : List Int) : Int := match QF s with
 | .ok v => v
 | .range => 2199023255551
 | _ => 0
def Bj (s : List Int) : Bool := match QF s with
 | .ok _ => false
 | _ => true
def iA (s t : List Int) : List Int := wW (Go.Lib.cut (gA s) (gA t)).1
def kG (s t : List Int) : List Int := wW (Go.Lib.cut (gA s) (gA t)).2.1
def kJ (s t : List Int) : Bool := (Go.Lib.cut (gA s) (gA t)).2.2
def tP (k n : Int) : KO := if k = 1 then (1, 0, 0, n % 256) else if k = 3 then (3, 0, n, 0) else (k, n, 0, 0)
def qO (w : List Int) (n : Int) (s : List Int) : Nat → KO × Bool
 | 0 => ((0, 0, 0, 0), false)
 | k + 1 => if bZ.getD (6 - (k + 1)) [] = w then (tP (7 - (k + 1)) n, iE (tP (7 - (k + 1)) n) && decide (mr (tP (7 - (k + 1)) n) = s)) else qO w n s k
def cW (s : List Int) : KO × Bool := if eK (kG s [32]) = true then ((0, 0, 0, 0), false) else qO (iA s [32]) (fk (kG s [32])) s 6
def fG (k : Int) : List Int := bZ.getD (k - 1).toNat []
def jJ (s : List Int) : Nat → KO × Bool
 | 0 => ((0, 0, 0, 0), false)
 | k + 1 => if s.length ≤ (fG (7 - (k + 1))).length + 1 ∨ s.take ((fG (7 - (k + 1))).length + 1) ≠ fG (7 - (k + 1)) ++ [32] then jJ s k else
  let r := s.drop ((fG (7 - (k + 1))).length + 1)
  if Bj r = true ∨ 1099511627776 < fp r ∨ dec (fp r) ≠ r ∨ (7 - ((k : Int) + 1) = 1 ∧ 255 < fp r) then ((0, 0, 0, 0), false) else (tP (7 - (k + 1)) (fp r), true)
def kF (s : List Int) : KO × Bool := jJ s 6
def dS : Nat → List Int → Int → List KO → List KO × Int × Int
 | 0, _, _, _ => ([], 0, 0)
 | f + 1, s, k, o => if s = [] then (o, 0, 0) else if kJ s [10] = false ∨ (cW (iA s [10])).2 = false then ([], k, 1) else dS f (kG s [10]) (k + 1) (o ++ [(cW (iA s [10])).1])
def bf (s : List Int) : List KO × Int × Int := dS (s.length + 1) s 0 []
@[reducible] def Pv : ah := ⟨[dU], [.str], fun x => 0 ≤ x.1 ∧ x.1 ≤ 1099511627776, fun x => (dec x.1, ()), false⟩
@[reducible] def Qi : ah := ⟨[.str], [dU, .err], fun x => x.1.length ≤ 1048576, fun x => (fk x.1, eK x.1, ()), false⟩
@[reducible] def SY : ah := ⟨[.str, .str], [.str, .str, .bool], fun x => x.1.length ≤ 1048576 ∧ x.2.1.length = 1, fun x => (iA x.1 x.2.1, kG x.1 x.2.1, kJ x.1 x.2.1, ()), false⟩
@[reducible] def jA : ah := ⟨[], [.sl .str], fun _ => True, fun _ => (bZ, ()), true⟩
@[reducible] def og : ah := ⟨[lp], [.str, .bool], fun _ => True, fun x => (if iE x.1 = true then mr x.1 else [], iE x.1, ()), false⟩
@[reducible] def dV : ah := ⟨[.str], [lp, .bool], fun x => x.1.length ≤ 1048576, fun x => ((cW x.1).1, (cW x.1).2, ()), false⟩
@[reducible] def iJ : ah := ⟨[.str], [.sl lp, dU, dU], fun x => x.1.length ≤ 1048576, fun x => ((bf x.1).1, (bf x.1).2.1, (bf x.1).2.2, ()), false⟩
noncomputable def pA : List (Nat × ah) := []
noncomputable def pn : List (Nat × ah) := (17, Pv) :: pA
noncomputable def p5 : List (Nat × ah) := (56, Qi) :: pn
noncomputable def tK : List (Nat × ah) := (26, SY) :: p5
noncomputable def uM (x : HL (jA : ah).as) : Fx := fX Tryz.prog env tK ([]) ([]) []
noncomputable def DZ : List (Nat × ah) := (57, jA) :: tK
noncomputable def zH (x : HL (og : ah).as) : Fx := fX Tryz.prog env DZ ([]) ([]) []
noncomputable def Lp : List (Nat × ah) := (59, og) :: DZ
noncomputable def mm (x : HL (dV : ah).as) : Fx := fX Tryz.prog env Lp ((fun (x : HL (dV : ah).as) => ([(27, 4, jz.by [.keep 0, .keep 2, .keep 4, .keep 7, .keep 8, .keep 25, .keep 26, .one 27 (.d dU)] (fun s g => 0 ≤ g.1 ∧ g.1 ≤ 6 ∧ cW x.1 = if eK (kG x.1 [32]) = true then ((0, 0, 0, 0), false) else qO (iA x.1 [32]) (fk (kG x.1 [32])) x.1 (6 - g.1).toNat) (fun s g => (6 - g.1).toNat))])) x) ([]) [(27,46)]
noncomputable def GN : List (Nat × ah) := (27, dV) :: Lp
noncomputable def wR (x : HL (iJ : ah).as) : Fx := fX Tryz.prog env GN ((fun (x : HL (iJ : ah).as) => ([(15, 3, jz.by [.one 0 (.d .str), .one 5 (.row lp), .one 6 (.d dU)] (fun s g => 0 ≤ g.2.2.1 ∧ g.1.length + g.2.2.1 ≤ x.1.length ∧ g.2.1.length = g.2.2.1 ∧ bf x.1 = dS (g.1.length + 1) g.1 g.2.2.1 g.2.1) (fun s g => g.1.length))])) x) ([]) []
noncomputable def Lt : List (Nat × ah) := (15, iJ) :: GN
noncomputable def dY : List (Nat × ah) := Lt
end Go.Proofs.YtlnlichdidobpaaGreatDoor.Bench
