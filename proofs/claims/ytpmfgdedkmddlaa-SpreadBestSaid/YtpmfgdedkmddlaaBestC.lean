/-
  SpreadBest: what each function computes (its contract), and what its loops keep.
-/
import Derived.Test.YtpmfgdedkmddlaaEnv
import Derived.Test.YtpmfgdedkmddlaaSxZA
namespace Go.Proofs.Ytpmfgdedkmddlaa.Best
open Go.Sx
set_option maxRecDepth 100000
set_option linter.unusedVariables false

def inS (a : Int) : Bool := decide (0 ≤ a) && decide (a ≤ 1073741824)
def wrong (l : List Int) (c : Int) : Int := if c < 1 ∨ 8 < c ∨ 400 < l.length ∨ l.all inS = false then 2 else 0
def mx (l : List Int) : Int := (l.drop 1).foldl max (l.getD 0 0)
def addAt (has : List Int) (c : Nat) (w : Int) : List Int := has.set c (has.getD c 0 + w)
/- The cores are tried one behind the other, up to the first that has nothing. -/
def loopL (rec : List Int → Int → Int) (has : List Int) (w : Int) : List Nat → Int → Int
  | [], b => b
  | c :: cs, b => if has.getD c 0 = 0 then rec (addAt has c w) b else loopL rec has w cs (rec (addAt has c w) b)
def putL : List Int → List Int → Int → Int
  | [], has, b => if b ≤ mx has then b else mx has
  | w :: ws, has, b => if b ≤ mx has then b else loopL (fun h b => putL ws h b) has w (List.range has.length) b
def within (k : Int) (has : List Int) : Prop := ∀ h ∈ has, 0 ≤ h ∧ h ≤ k * 1073741824
def best (l : List Int) (c : Int) : Int × Int × Unit := if wrong l c ≠ 0 then (0, wrong l c, ()) else if 9 < l.length then (0, 4, ()) else (putL l (List.replicate c.toNat 0) 4611686018427387904, 0, ())
def spreadN (m : Int) : List Int → Int → List Int → List Int
  | [], _, has => has
  | w :: ws, n, has => spreadN m ws (n / m) (addAt has (n % m).toNat w)
def eall (l : List Int) (m : Int) (k : Int) : Int := (List.range k.toNat).foldl (fun (b : Int) (n : Nat) => min b (mx (spreadN m l (n : Int) (List.replicate m.toNat 0)))) 4611686018427387904
def ebest (l : List Int) (m : Int) : Int := eall l m (m ^ l.length)
@[reducible] def cMax : Ctr := ⟨[.sl I64], [I64], fun x => 0 < x.1.length, fun x => (mx x.1, ()), false⟩
@[reducible] def cAny : Ctr := ⟨[.sl I64], [.bool], fun _ => True, fun x => (!(x.1.all inS), ()), false⟩
@[reducible] def cWrong : Ctr := ⟨[.sl I64, I64], [I64], fun _ => True, fun x => (wrong x.1 x.2.1, ()), false⟩
@[reducible] def pPut : Prc := Prc.by 5 (canon [.one .any, .one (.ptr 1 0), .one (.ptr 2 0), .one (.ptr 3 0), .one (.ptr 4 0)] [(1, .box [.row 6]), (6, .row I64 []), (2, .box [.any]), (3, .box [.any]), (4, .box [.clo 5]), (5, .clo 45 [.ptr 1 0, .ptr 2 0, .ptr 3 0, .ptr 4 0])] 7)
  [.one 0 (.d I64), .box 1 [.rown I64], .box 2 [.d I64], .box 3 [.d (.sl I64)], .keep 4]
  (fun g => (0 ≤ g.1 ∧ g.1 ≤ g.2.2.2.1.length ∧ g.2.2.2.1.length ≤ 9 ∧ g.2.2.2.1.all inS = true) ∧ 0 < g.2.1.length ∧ g.2.1.length ≤ 8 ∧ within g.1 g.2.1) []
  (fun g => ((g.1, g.2.1, putL (g.2.2.2.1.drop g.1.toNat) g.2.1 g.2.2.1, g.2.2.2.1, ()), ()))
@[reducible] def cBest : Ctr := ⟨[.sl I64, I64], [I64, I64], fun _ => True, fun x => best x.1 x.2.1, false⟩
@[reducible] def cEBest : Ctr := ⟨[.sl I64, I64], [I64], fun x => (1 ≤ x.2.1 ∧ x.2.1 ≤ 8) ∧ (x.1.length ≤ 9 ∧ x.1.all inS = true) ∧ x.2.1 ^ x.1.length ≤ 50000, fun x => (ebest x.1 x.2.1, ()), false⟩
@[reducible] def cLaw : Ctr := ⟨[.sl I64, I64], [.bool], fun _ => True, fun _ => (true, ()), false⟩


noncomputable def ks0 : List (Nat × Ctr) := []
noncomputable def kf0 : List (Nat × Nat × Ctr) := []
noncomputable def ps0 : List (Nat × Prc) := []
noncomputable def fx_max (x : HL (cMax : Ctr).as) : Fx := mkFxG Try.prog env ks0 kf0 (ps0) ((fun (x : HL (cMax : Ctr).as) => ([(46, 5, Ann.by [.keep 0, .one 3 (.d I64), .one 4 (.d I64)] (fun s g => 1 ≤ g.2.1 ∧ g.2.1 ≤ x.1.length ∧ g.1 = mx (x.1.take g.2.1.toNat)) (fun s g => (x.1.length - g.2.1).toNat))])) x) ([]) []
noncomputable def ps1 : List (Nat × Prc) := ps0
noncomputable def ks1 : List (Nat × Ctr) := (46, cMax) :: ks0
noncomputable def kf1 : List (Nat × Nat × Ctr) := kf0
noncomputable def fx_any (x : HL (cAny : Ctr).as) : Fx := mkFxG Try.prog env ks1 kf1 (ps1) ((fun (x : HL (cAny : Ctr).as) => ([(60, 2, Ann.by [.keep 0, .keep 1, .keep 7, .one 8 (.d I64)] (fun s g => 0 ≤ g.1 ∧ g.1 ≤ x.1.length ∧ (x.1.take g.1.toNat).all inS = true) (fun s g => (x.1.length - g.1).toNat))])) x) ([]) []
noncomputable def ps2 : List (Nat × Prc) := ps1
noncomputable def ks2 : List (Nat × Ctr) := ks1
noncomputable def kf2 : List (Nat × Nat × Ctr) := (42, 43, cAny) :: kf1
noncomputable def fx_wrong (x : HL (cWrong : Ctr).as) : Fx := mkFxG Try.prog env ks2 kf2 (ps2) ([]) ([]) []
noncomputable def ps3 : List (Nat × Prc) := ps2
noncomputable def ks3 : List (Nat × Ctr) := (20, cWrong) :: ks2
noncomputable def kf3 : List (Nat × Nat × Ctr) := kf2
noncomputable def fx_ewrong (x : HL (cWrong : Ctr).as) : Fx := mkFxG Try.prog env ks3 kf3 (ps3) ((fun (x : HL (cWrong : Ctr).as) => ([(19, 3, Ann.by [.keep 0, .one 5 (.d .bool), .keep 19, .keep 20, .one 21 (.d I64)] (fun s g => 0 ≤ g.2.1 ∧ g.2.1 ≤ x.1.length ∧ (g.1 = true ↔ 1 ≤ x.2.1 ∧ x.2.1 ≤ 8 ∧ x.1.length ≤ 400 ∧ (x.1.take g.2.1.toNat).all inS = true)) (fun s g => (x.1.length - g.2.1).toNat))])) x) ([]) []
noncomputable def ps4 : List (Nat × Prc) := ps3
noncomputable def ks4 : List (Nat × Ctr) := (19, cWrong) :: ks3
noncomputable def kf4 : List (Nat × Nat × Ctr) := kf3
noncomputable def fx_put (x : (pPut : Prc).G) : Fx := mkFxG Try.prog env ks4 kf4 ((45, (pPut : Prc).sub fun y => (fun y => (y.2.2.2.1.length - y.1).toNat) y < (fun y => (y.2.2.2.1.length - y.1).toNat) x) :: ps4) ((fun (x : (pPut : Prc).G) => ([(45, 5, Ann.by [.bk, .keep 0, .box 1 [.rown I64], .box 2 [.d I64], .keep 3, .keep 4, .keep 19, .one 20 (.d I64)] (fun s g => 0 ≤ g.2.2.1 ∧ g.2.2.1 ≤ x.2.1.length ∧ g.1 = x.2.1 ∧ loopL (fun h v => putL (x.2.2.2.1.drop (x.1 + 1).toNat) h v) x.2.1 (x.2.2.2.1.getD x.1.toNat 0) ((List.range x.2.1.length).drop g.2.2.1.toNat) g.2.1 = putL (x.2.2.2.1.drop x.1.toNat) x.2.1 x.2.2.1) (fun s g => (x.2.1.length - g.2.2.1).toNat))])) x) ([]) []
noncomputable def ps5 : List (Nat × Prc) := (45, pPut) :: ps4
noncomputable def ks5 : List (Nat × Ctr) := ks4
noncomputable def kf5 : List (Nat × Nat × Ctr) := kf4
noncomputable def fx_best (x : HL (cBest : Ctr).as) : Fx := mkFxG Try.prog env ks5 kf5 (ps5) ([]) ([]) []
noncomputable def ps6 : List (Nat × Prc) := ps5
noncomputable def ks6 : List (Nat × Ctr) := (24, cBest) :: ks5
noncomputable def kf6 : List (Nat × Nat × Ctr) := kf5
noncomputable def fx_ebest (x : HL (cEBest : Ctr).as) : Fx := mkFxG Try.prog env ks6 kf6 (ps6) ((fun (x : HL (cEBest : Ctr).as) => ([(25, 3, Ann.by [.keep 0, .keep 1, .one 5 (.d I64), .keep 12, .one 13 (.d I64)] (fun s g => 0 ≤ g.2.1 ∧ g.2.1 ≤ x.1.length ∧ g.1 = x.2.1 ^ g.2.1.toNat) (fun s g => (x.1.length - g.2.1).toNat)),
  (25, 8, Ann.by [.keep 0, .keep 1, .one 6 (.d I64), .keep 19, .one 20 (.d I64)] (fun s g => 0 ≤ g.2.1 ∧ g.2.1 ≤ x.2.1 ^ x.1.length ∧ g.1 = eall x.1 x.2.1 g.2.1) (fun s g => (x.2.1 ^ x.1.length - g.2.1).toNat)),
  (25, 12, Ann.by [.keep 0, .keep 1, .keep 6, .one 7 (.d I64), .one 8 (.row I64), .keep 19, .keep 20, .keep 25, .keep 26, .one 27 (.d I64)] (fun s g => 0 ≤ g.2.2.1 ∧ g.2.2.1 ≤ x.1.length ∧ 0 ≤ g.1 ∧ g.2.1.length = x.2.1.toNat ∧ within g.2.2.1 g.2.1 ∧ spreadN x.2.1 (x.1.drop g.2.2.1.toNat) g.1 g.2.1 = spreadN x.2.1 x.1 (s.dat I64 20) (List.replicate x.2.1.toNat 0)) (fun s g => (x.1.length - g.2.2.1).toNat))])) x) ([]) []
noncomputable def ps7 : List (Nat × Prc) := ps6
noncomputable def ks7 : List (Nat × Ctr) := (25, cEBest) :: ks6
noncomputable def kf7 : List (Nat × Nat × Ctr) := kf6
noncomputable def fx_law (x : HL (cLaw : Ctr).as) : Fx := mkFxG Try.prog env ks7 kf7 (ps7) ((fun (x : HL (cLaw : Ctr).as) => ([(7, 9, Ann.by [.keep 0, .keep 1, .keep 5, .keep 6, .keep 7, .one 8 (.d I64), .keep 37, .one 38 (.d I64)] (fun s g => 0 ≤ g.2.1 ∧ g.2.1 ≤ x.1.length ∧ g.1 = x.2.1 ^ g.2.1.toNat) (fun s g => (x.1.length - g.2.1).toNat))])) x) ([]) []
noncomputable def ps8 : List (Nat × Prc) := ps7
noncomputable def ks8 : List (Nat × Ctr) := (7, cLaw) :: ks7
noncomputable def kf8 : List (Nat × Nat × Ctr) := kf7
noncomputable def ksAll : List (Nat × Ctr) := ks8
end Go.Proofs.Ytpmfgdedkmddlaa.Best
