/-
 ApicTells: what each function computes (its contract), and what its loops keep.
-/
import Derived.Test.YtdhldloajddfiaaGreatDoorEnv
import Derived.Test.YtdhldloajddfiaaGreatDoorSxP4
import Derived.Lib.BitFns
import Derived.Lib.TrailingZeros
namespace Go.Proofs.YtdhldloajddfiaaGreatDoor.Apic
open Go.Sx
set_option maxRecDepth 100000
set_option linter.unusedVariables false

def bitN (b : List Int) (n : Nat) : Bool := decide (b.getD (n / 64) 0 / 2 ^ (n % 64) % 2 = 1)
def rowTo (b : List Int) (m : Nat) : List Bool := (List.range 256).map (fun i => decide (i < m) && bitN b i)
def hor (f : Nat → Bool) (s : Nat) : Nat → Int
 | 0 => 0
 | k + 1 => (if f s = true then 1 else 0) + 2 * hor f (s + 1) k
def horTo (f : Nat → Bool) (m j : Nat) : Int := hor f (max (64 * j) m) (64 * (j + 1) - max (64 * j) m)
def bitsTo (f : Nat → Bool) (m : Nat) : List Int := [horTo f m 0, horTo f m 1, horTo f m 2, horTo f m 3]
def mixRow (g : Bool → Bool → Bool) (a b : List Int) (m : Nat) : List Bool := (List.range 256).map (fun i => decide (i < m) && g (bitN a i) (bitN b i))
def mix (g : Bool → Bool → Bool) (a b : List Int) : List Int := bitsTo (fun n => g (bitN a n) (bitN b n)) 0
def rf (r : List Bool) (n : Nat) : Bool := r.getD n false
def mixA (a b : List Int) : List Int := mix (fun a b => a && b) a b
def mixO (a b : List Int) : List Int := mix (fun a b => a || b) a b
def mixRA (a b : List Int) (m : Nat) : List Bool := mixRow (fun a b => a && b) a b m
def mixRO (a b : List Int) (m : Nat) : List Bool := mixRow (fun a b => a || b) a b m
@[reducible] def cRow : Ctr := ⟨[.arr 4 U64], [.arr 256 Bo], fun _ => True, fun x => (rowTo x.1 256, ()), false⟩
@[reducible] def cBits : Ctr := ⟨[.arr 256 Bo], [.arr 4 U64], fun _ => True, fun x => (bitsTo (rf x.1) 0, ()), false⟩
@[reducible] def cAnd : Ctr := ⟨[Bo, Bo], [.bool], fun _ => True, fun x => (x.1 && x.2.1, ()), false⟩
@[reducible] def cOr : Ctr := ⟨[Bo, Bo], [.bool], fun _ => True, fun x => (x.1 || x.2.1, ()), false⟩
@[reducible] def cMixA : Ctr := ⟨[.arr 4 U64, .arr 4 U64], [.arr 4 U64], fun _ => True, fun x => (mixA x.1 x.2.1, ()), false⟩
@[reducible] def cMixO : Ctr := ⟨[.arr 4 U64, .arr 4 U64], [.arr 4 U64], fun _ => True, fun x => (mixO x.1 x.2.1, ()), false⟩
@[reducible] def cLaw : Ctr := ⟨[.arr 4 U64, .arr 4 U64], [.bool], fun _ => True, fun _ => (true, ()), false⟩


def topB (f : Nat → Bool) : Nat → Int
 | 0 => -1
 | m + 1 => if f m = true then (m : Int) else topB f m
def nextB (f : Nat → Bool) (n : Nat) : Nat → Int
 | 0 => -1
 | k + 1 => if f n = true then (n : Int) else nextB f (n + 1) k
def allB (f : Nat → Bool) (m : Nat) : List Int := ((List.range m).filter f).map Int.ofNat
def fits (n : Int) : Bool := decide (0 ≤ n) && decide (n < 256)
def hasB (b : List Int) (n : Int) : Bool := fits n && bitN b n.toNat
def putB (b : List Int) (n : Int) (v : Bool) : List Int := if fits n = true then bitsTo (fun i => if i = n.toNat then v else bitN b i) 0 else b
def topOf (b : List Int) : Int := topB (bitN b) 256
def nextOf (b : List Int) (n : Int) : Int := if fits (max n 0) = true then nextB (bitN b) (max n 0).toNat (256 - (max n 0).toNat) else -1
def allOf (b : List Int) : List Int := allB (bitN b) 256
@[reducible] def cLen : Ctr := ⟨[U64], [I64], fun _ => True, fun x => ((Lib.bitLen x.1.toNat : Int), ()), false⟩
@[reducible] def cLead : Ctr := ⟨[U64], [I64], fun _ => True, fun x => (64 - (Lib.bitLen x.1.toNat : Int), ()), false⟩
@[reducible] def cTz : Ctr := ⟨[U64], [I64], fun _ => True, fun x => ((Lib.ctz 64 x.1.toNat : Int), ()), false⟩
@[reducible] def cFits : Ctr := ⟨[I64], [.bool], fun _ => True, fun x => (fits x.1, ()), false⟩
@[reducible] def cHas : Ctr := ⟨[.arr 4 U64, I64], [.bool], fun _ => True, fun x => (hasB x.1 x.2.1, ()), false⟩
@[reducible] def cWith : Ctr := ⟨[.arr 4 U64, I64], [.arr 4 U64], fun _ => True, fun x => (putB x.1 x.2.1 true, ()), false⟩
@[reducible] def cWithout : Ctr := ⟨[.arr 4 U64, I64], [.arr 4 U64], fun _ => True, fun x => (putB x.1 x.2.1 false, ()), false⟩
@[reducible] def cTop : Ctr := ⟨[.arr 4 U64], [I64], fun _ => True, fun x => (topOf x.1, ()), false⟩
@[reducible] def cNext : Ctr := ⟨[.arr 4 U64, I64], [I64], fun _ => True, fun x => (nextOf x.1 x.2.1, ()), false⟩
@[reducible] def cAll : Ctr := ⟨[.arr 4 U64], [.sl I64], fun _ => True, fun x => (allOf x.1, ()), false⟩
@[reducible] def cASet : Ctr := ⟨[.arr 4 U64, I64, Bo], [.arr 4 U64], fun _ => True, fun x => (putB x.1 x.2.1 x.2.2.1, ()), false⟩


abbrev LC := List Int × List Int × Int
def okS (last : Int) : List Int → Bool
 | [] => true
 | n :: r => !(decide (n / 16 = last)) && !(decide (n < 32)) && okS (n / 16) r
def posOf (b : List Int) (n : Int) : Nat := if n < 0 then (allOf b).length else (allB (bitN b) n.toNat).length
def clsOk (l : LC) : Bool := decide (0 ≤ l.2.2) && decide (l.2.2 ≤ 15)
def rightL (l : LC) : Bool := okS (-1) (allOf l.2.1) && (clsOk l && (allOf l.1).all (fun n => decide (32 ≤ n)))
def cnt (s : List Int) (j : Int) : Int := ((s.filter (fun n => decide (n / 16 = j))).length : Nat)
def cnts (s : List Int) : List Int := (List.range 16).map (fun (j : Nat) => cnt s (j : Int))
def okC (s : List Int) (k : Nat) : Bool := (List.range k).all (fun (j : Nat) => decide (cnt s (j : Int) ≤ 1) && (decide (2 ≤ j) || decide (cnt s (j : Int) = 0)))
def may (l : LC) (s : List Int) (n : Int) : Bool := decide (l.2.2 < n / 16) && s.all (fun m => decide (m / 16 < n / 16))
def bst (l : LC) (s : List Int) : Int := s.foldl (fun b n => if may l (allOf l.2.1) n = true then n else b) (-1)
def lvl (l : LC) : Int := max l.2.2 (max (topOf l.2.1) 0 / 16)
def wouldL (l : LC) : Int := if rightL l = true ∧ 0 ≤ topOf l.1 ∧ lvl l < topOf l.1 / 16 then topOf l.1 else -1
def zeroL : LC := ([0, 0, 0, 0], [0, 0, 0, 0], 0)
def stepL (l : LC) (o : Int × Int) : LC × Int × Int × Unit :=
 if rightL l = false then (zeroL, 0, 1, ())
 else if o.1 = 1 then (if o.2 < 32 ∨ 256 ≤ o.2 then (zeroL, 0, 2, ()) else ((putB l.1 o.2 true, l.2.1, l.2.2), -1, 0, ()))
 else if o.1 = 2 then (if wouldL l < 0 then (zeroL, 0, 7, ()) else ((putB l.1 (wouldL l) false, putB l.2.1 (wouldL l) true, l.2.2), wouldL l, 0, ()))
 else if o.1 = 3 then (if topOf l.2.1 < 0 then (zeroL, 0, 3, ()) else ((l.1, putB l.2.1 (topOf l.2.1) false, l.2.2), topOf l.2.1, 0, ()))
 else if o.1 = 4 then (if o.2 < 0 ∨ 15 < o.2 then (zeroL, 0, 2, ()) else ((l.1, l.2.1, o.2), -1, 0, ()))
 else (zeroL, 0, 5, ())
@[reducible] def cClass : Ctr := ⟨[I64], [I64], fun x => 0 ≤ x.1, fun x => (x.1 / 16, ()), false⟩
@[reducible] def cRightL : Ctr := ⟨[tyLocal], [.bool], fun _ => True, fun x => (rightL x.1, ()), false⟩
@[reducible] def cLvl : Ctr := ⟨[tyLocal], [I64], fun _ => True, fun x => (lvl x.1, ()), false⟩
@[reducible] def cWould : Ctr := ⟨[tyLocal], [I64], fun _ => True, fun x => (wouldL x.1, ()), false⟩
@[reducible] def cStep : Ctr := ⟨[tyLocal, tyLocalOp], [tyLocal, I64, I64], fun _ => True, fun x => stepL x.1 x.2.1, false⟩
@[reducible] def cTells : Ctr := ⟨[tyLocal, tyLocalOp], [.bool], fun _ => True, fun _ => (true, ()), false⟩


noncomputable def ks0 : List (Nat × Ctr) := []
noncomputable def fx_len (x : HL (cLen : Ctr).as) : Fx := mkFx Tryz.prog env ks0 ([]) ([]) []
noncomputable def ks1 : List (Nat × Ctr) := (56, cLen) :: ks0
noncomputable def fx_lead (x : HL (cLead : Ctr).as) : Fx := mkFx Tryz.prog env ks1 ([]) ([]) []
noncomputable def ks2 : List (Nat × Ctr) := (108, cLead) :: ks1
noncomputable def fx_tz (x : HL (cTz : Ctr).as) : Fx := mkFx Tryz.prog env ks2 ([]) ([]) []
noncomputable def ks3 : List (Nat × Ctr) := (70, cTz) :: ks2
noncomputable def fx_fits (x : HL (cFits : Ctr).as) : Fx := mkFx Tryz.prog env ks3 ([]) ([]) []
noncomputable def ks4 : List (Nat × Ctr) := (107, cFits) :: ks3
noncomputable def fx_with (x : HL (cWith : Ctr).as) : Fx := mkFx Tryz.prog env ks4 ([]) ([]) []
noncomputable def ks5 : List (Nat × Ctr) := (93, cWith) :: ks4
noncomputable def fx_without (x : HL (cWithout : Ctr).as) : Fx := mkFx Tryz.prog env ks5 ([]) ([]) []
noncomputable def ks6 : List (Nat × Ctr) := (94, cWithout) :: ks5
noncomputable def fx_top (x : HL (cTop : Ctr).as) : Fx := mkFx Tryz.prog env ks6 ((fun (x : HL (cTop : Ctr).as) => ([(95, 2, Ann.by [.box 1 [.d (.arr 4 U64)], .one 3 (.d I64)] (fun s g => -1 ≤ g.2.1 ∧ g.2.1 ≤ 3 ∧ g.1 = x.1 ∧ topOf x.1 = topB (bitN x.1) (64 * (g.2.1 + 1).toNat)) (fun s g => (g.2.1 + 1).toNat))])) x) ([]) []
noncomputable def ks7 : List (Nat × Ctr) := (95, cTop) :: ks6
noncomputable def fx_next (x : HL (cNext : Ctr).as) : Fx := mkFx Tryz.prog env ks7 ((fun (x : HL (cNext : Ctr).as) => ([(106, 6, Ann.by [.box 2 [.d (.arr 4 U64)], .one 5 (.d I64)] (fun s g => 0 ≤ g.2.1 ∧ g.2.1 ≤ 4 ∧ nextOf x.1 x.2.1 = nextB (bitN g.1) (64 * g.2.1.toNat) (64 * (4 - g.2.1).toNat)) (fun s g => (4 - g.2.1).toNat))])) x) ([]) []
noncomputable def ks8 : List (Nat × Ctr) := (106, cNext) :: ks7
noncomputable def fx_class (x : HL (cClass : Ctr).as) : Fx := mkFx Tryz.prog env ks8 ([]) ([]) []
noncomputable def ks9 : List (Nat × Ctr) := (97, cClass) :: ks8
noncomputable def fx_right (x : HL (cRightL : Ctr).as) : Fx := mkFx Tryz.prog env ks9 ((fun (x : HL (cRightL : Ctr).as) => ([(92, 3, Ann.by [.box 1 [.d tyLocal], .one 3 (.d I64), .one 4 (.d I64)] (fun s g => g.1 = x.1 ∧ -1 ≤ g.2.2.1 ∧ g.2.2.1 ≤ 255 ∧ (g.2.2.1 = -1 ∨ bitN x.1.2.1 g.2.2.1.toNat = true) ∧ okS (-1) (allOf x.1.2.1) = okS g.2.1 ((allOf x.1.2.1).drop (posOf x.1.2.1 g.2.2.1))) (fun s g => (256 - (if g.2.2.1 = -1 then 256 else g.2.2.1)).toNat))])) x) ([]) []
noncomputable def ks10 : List (Nat × Ctr) := (92, cRightL) :: ks9
noncomputable def fx_level (x : HL (cLvl : Ctr).as) : Fx := mkFx Tryz.prog env ks10 ([]) ([]) []
noncomputable def ks11 : List (Nat × Ctr) := (98, cLvl) :: ks10
noncomputable def fx_would (x : HL (cWould : Ctr).as) : Fx := mkFx Tryz.prog env ks11 ([]) ([]) []
noncomputable def ks12 : List (Nat × Ctr) := (78, cWould) :: ks11
noncomputable def fx_astep (x : HL (cStep : Ctr).as) : Fx := mkFx Tryz.prog env ks12 ([]) ([]) []
noncomputable def ks13 : List (Nat × Ctr) := (76, cStep) :: ks12
noncomputable def ksAll : List (Nat × Ctr) := ks13
end Go.Proofs.YtdhldloajddfiaaGreatDoor.Apic
