/-
  BitsTell: what each function computes (its contract), and what its loops keep.
-/
import Derived.Test.YtjajpmemcfdmoaaDoorEnv
import Derived.Test.YtjajpmemcfdmoaaDoorSxZA
import Derived.Lib.BitFns
import Derived.Lib.TrailingZeros
namespace Go.Proofs.YtjajpmemcfdmoaaDoor.Bitt
open Go.Sx
set_option maxRecDepth 100000
set_option linter.unusedVariables false

def bitN (b : List Int) (n : Nat) : Bool := decide (b.getD (n / 64) 0 / 2 ^ (n % 64) % 2 = 1)
def rowTo (b : List Int) (m : Nat) : List Bool := (List.range 256).map (fun i => decide (i < m) && bitN b i)
/- The number whose bits are k of a row, from s on. -/
def hor (f : Nat → Bool) (s : Nat) : Nat → Int
  | 0 => 0
  | k + 1 => (if f s = true then 1 else 0) + 2 * hor f (s + 1) k
def horTo (f : Nat → Bool) (m j : Nat) : Int := hor f (max (64 * j) m) (64 * (j + 1) - max (64 * j) m)
def bitsTo (f : Nat → Bool) (m : Nat) : List Int := [horTo f m 0, horTo f m 1, horTo f m 2, horTo f m 3]
def mixRow (g : Bool → Bool → Bool) (a b : List Int) (m : Nat) : List Bool := (List.range 256).map (fun i => decide (i < m) && g (bitN a i) (bitN b i))
def mix (g : Bool → Bool → Bool) (a b : List Int) : List Int := bitsTo (fun n => g (bitN a n) (bitN b n)) 0
def rf (r : List Bool) (n : Nat) : Bool := r.getD n false
def mixA (a b : List Int) : List Int := mix (fun a b => a && b) a b
def mixO (a b : List Int) : List Int := mix (fun a b => a || b) a b
def mixRA (a b : List Int) (m : Nat) : List Bool := mixRow (fun a b => a && b) a b m
def mixRO (a b : List Int) (m : Nat) : List Bool := mixRow (fun a b => a || b) a b m
@[reducible] def cRow : Ctr := ⟨[.arr 4 U64], [.arr 256 Bo], fun _ => True, fun x => (rowTo x.1 256, ()), false⟩
@[reducible] def cBits : Ctr := ⟨[.arr 256 Bo], [.arr 4 U64], fun _ => True, fun x => (bitsTo (rf x.1) 0, ()), false⟩
@[reducible] def cAnd : Ctr := ⟨[Bo, Bo], [.bool], fun _ => True, fun x => (x.1 && x.2.1, ()), false⟩
@[reducible] def cOr : Ctr := ⟨[Bo, Bo], [.bool], fun _ => True, fun x => (x.1 || x.2.1, ()), false⟩
@[reducible] def cMixA : Ctr := ⟨[.arr 4 U64, .arr 4 U64], [.arr 4 U64], fun _ => True, fun x => (mixA x.1 x.2.1, ()), false⟩
@[reducible] def cMixO : Ctr := ⟨[.arr 4 U64, .arr 4 U64], [.arr 4 U64], fun _ => True, fun x => (mixO x.1 x.2.1, ()), false⟩
@[reducible] def cLaw : Ctr := ⟨[.arr 4 U64, .arr 4 U64], [.bool], fun _ => True, fun _ => (true, ()), false⟩


/- The greatest below m that is there; the least from n on, of k; all below m. -/
def topB (f : Nat → Bool) : Nat → Int
  | 0 => -1
  | m + 1 => if f m = true then (m : Int) else topB f m
def nextB (f : Nat → Bool) (n : Nat) : Nat → Int
  | 0 => -1
  | k + 1 => if f n = true then (n : Int) else nextB f (n + 1) k
def allB (f : Nat → Bool) (m : Nat) : List Int := ((List.range m).filter f).map Int.ofNat
def fits (n : Int) : Bool := decide (0 ≤ n) && decide (n < 256)
def hasB (b : List Int) (n : Int) : Bool := fits n && bitN b n.toNat
def putB (b : List Int) (n : Int) (v : Bool) : List Int := if fits n = true then bitsTo (fun i => if i = n.toNat then v else bitN b i) 0 else b
def topOf (b : List Int) : Int := topB (bitN b) 256
def nextOf (b : List Int) (n : Int) : Int := if fits (max n 0) = true then nextB (bitN b) (max n 0).toNat (256 - (max n 0).toNat) else -1
def allOf (b : List Int) : List Int := allB (bitN b) 256
@[reducible] def cLen : Ctr := ⟨[U64], [I64], fun _ => True, fun x => ((Lib.bitLen x.1.toNat : Int), ()), false⟩
@[reducible] def cLead : Ctr := ⟨[U64], [I64], fun _ => True, fun x => (64 - (Lib.bitLen x.1.toNat : Int), ()), false⟩
@[reducible] def cTz : Ctr := ⟨[U64], [I64], fun _ => True, fun x => ((Lib.ctz 64 x.1.toNat : Int), ()), false⟩
@[reducible] def cFits : Ctr := ⟨[I64], [.bool], fun _ => True, fun x => (fits x.1, ()), false⟩
@[reducible] def cHas : Ctr := ⟨[.arr 4 U64, I64], [.bool], fun _ => True, fun x => (hasB x.1 x.2.1, ()), false⟩
@[reducible] def cWith : Ctr := ⟨[.arr 4 U64, I64], [.arr 4 U64], fun _ => True, fun x => (putB x.1 x.2.1 true, ()), false⟩
@[reducible] def cWithout : Ctr := ⟨[.arr 4 U64, I64], [.arr 4 U64], fun _ => True, fun x => (putB x.1 x.2.1 false, ()), false⟩
@[reducible] def cTop : Ctr := ⟨[.arr 4 U64], [I64], fun _ => True, fun x => (topOf x.1, ()), false⟩
@[reducible] def cNext : Ctr := ⟨[.arr 4 U64, I64], [I64], fun _ => True, fun x => (nextOf x.1 x.2.1, ()), false⟩
@[reducible] def cAll : Ctr := ⟨[.arr 4 U64], [.sl I64], fun _ => True, fun x => (allOf x.1, ()), false⟩
@[reducible] def cASet : Ctr := ⟨[.arr 4 U64, I64, Bo], [.arr 4 U64], fun _ => True, fun x => (putB x.1 x.2.1 x.2.2.1, ()), false⟩


@[reducible] def cEqual : Ctr := ⟨[.sl I64, .sl I64], [.bool], fun _ => True, fun x => (decide (x.1 = x.2.1), ()), false⟩
@[reducible] def cTell : Ctr := ⟨[.arr 4 U64, I64], [.bool], fun _ => True, fun _ => (true, ()), false⟩


noncomputable def ks0 : List (Nat × Ctr) := []
noncomputable def fx_row (x : HL (cRow : Ctr).as) : Fx := mkFx Tryd.prog env ks0 ((fun (x : HL (cRow : Ctr).as) => ([(17, 3, Ann.by [.keep 2, .box 3 [.d (.arr 256 Bo)], .keep 7, .one 8 (.d I64)] (fun s g => 0 ≤ g.2.1 ∧ g.2.1 ≤ 4 ∧ g.1 = rowTo x.1 (64 * g.2.1.toNat)) (fun s g => (4 - g.2.1).toNat)),
  (17, 6, Ann.by [.keep 2, .box 3 [.d (.arr 256 Bo)], .keep 4, .one 5 (.d U64), .keep 7, .keep 8, .one 12 (.d I64)] (fun s g => 0 ≤ g.2.2.1 ∧ g.2.2.1 ≤ 64 ∧ g.1 = rowTo x.1 (64 * (s.dat I64 4).toNat + g.2.2.1.toNat) ∧ g.2.1 = x.1.getD (s.dat I64 4).toNat 0 / 2 ^ g.2.2.1.toNat) (fun s g => (64 - g.2.2.1).toNat))])) x) ([]) []
noncomputable def ks1 : List (Nat × Ctr) := (17, cRow) :: ks0
noncomputable def fx_bits (x : HL (cBits : Ctr).as) : Fx := mkFx Tryd.prog env ks1 ((fun (x : HL (cBits : Ctr).as) => ([(18, 3, Ann.by [.keep 1, .keep 2, .box 3 [.d (.arr 4 U64)], .one 4 (.d I64)] (fun s g => -1 ≤ g.2.1 ∧ g.2.1 ≤ 255 ∧ g.1 = bitsTo (rf x.1) (g.2.1 + 1).toNat) (fun s g => (g.2.1 + 1).toNat))])) x) ([]) []
noncomputable def ks2 : List (Nat × Ctr) := (18, cBits) :: ks1
noncomputable def fx_len (x : HL (cLen : Ctr).as) : Fx := mkFx Tryd.prog env ks2 ([]) ([]) []
noncomputable def ks3 : List (Nat × Ctr) := (21, cLen) :: ks2
noncomputable def fx_lead (x : HL (cLead : Ctr).as) : Fx := mkFx Tryd.prog env ks3 ([]) ([]) []
noncomputable def ks4 : List (Nat × Ctr) := (19, cLead) :: ks3
noncomputable def fx_tz (x : HL (cTz : Ctr).as) : Fx := mkFx Tryd.prog env ks4 ([]) ([]) []
noncomputable def ks5 : List (Nat × Ctr) := (20, cTz) :: ks4
noncomputable def fx_fits (x : HL (cFits : Ctr).as) : Fx := mkFx Tryd.prog env ks5 ([]) ([]) []
noncomputable def ks6 : List (Nat × Ctr) := (16, cFits) :: ks5
noncomputable def fx_has (x : HL (cHas : Ctr).as) : Fx := mkFx Tryd.prog env ks6 ([]) ([]) []
noncomputable def ks7 : List (Nat × Ctr) := (4, cHas) :: ks6
noncomputable def fx_with (x : HL (cWith : Ctr).as) : Fx := mkFx Tryd.prog env ks7 ([]) ([]) []
noncomputable def ks8 : List (Nat × Ctr) := (6, cWith) :: ks7
noncomputable def fx_without (x : HL (cWithout : Ctr).as) : Fx := mkFx Tryd.prog env ks8 ([]) ([]) []
noncomputable def ks9 : List (Nat × Ctr) := (8, cWithout) :: ks8
noncomputable def fx_top (x : HL (cTop : Ctr).as) : Fx := mkFx Tryd.prog env ks9 ((fun (x : HL (cTop : Ctr).as) => ([(9, 2, Ann.by [.box 1 [.d (.arr 4 U64)], .one 3 (.d I64)] (fun s g => -1 ≤ g.2.1 ∧ g.2.1 ≤ 3 ∧ g.1 = x.1 ∧ topOf x.1 = topB (bitN x.1) (64 * (g.2.1 + 1).toNat)) (fun s g => (g.2.1 + 1).toNat))])) x) ([]) []
noncomputable def ks10 : List (Nat × Ctr) := (9, cTop) :: ks9
noncomputable def fx_next (x : HL (cNext : Ctr).as) : Fx := mkFx Tryd.prog env ks10 ((fun (x : HL (cNext : Ctr).as) => ([(11, 6, Ann.by [.box 2 [.d (.arr 4 U64)], .one 5 (.d I64)] (fun s g => 0 ≤ g.2.1 ∧ g.2.1 ≤ 4 ∧ nextOf x.1 x.2.1 = nextB (bitN g.1) (64 * g.2.1.toNat) (64 * (4 - g.2.1).toNat)) (fun s g => (4 - g.2.1).toNat))])) x) ([]) []
noncomputable def ks11 : List (Nat × Ctr) := (11, cNext) :: ks10
noncomputable def fx_all (x : HL (cAll : Ctr).as) : Fx := mkFx Tryd.prog env ks11 ((fun (x : HL (cAll : Ctr).as) => ([(14, 3, Ann.by [.box 1 [.d (.arr 4 U64)], .one 3 (.row I64), .one 4 (.d I64)] (fun s g => g.1 = x.1 ∧ -1 ≤ g.2.2.1 ∧ g.2.2.1 ≤ 255 ∧ (g.2.1.length : Int) ≤ 256 ∧ ((g.2.2.1 = -1 ∧ g.2.1 = allOf x.1) ∨ (0 ≤ g.2.2.1 ∧ bitN x.1 g.2.2.1.toNat = true ∧ g.2.1 = allB (bitN x.1) g.2.2.1.toNat))) (fun s g => (256 - (if g.2.2.1 = -1 then 256 else g.2.2.1)).toNat))])) x) ([]) []
noncomputable def ks12 : List (Nat × Ctr) := (14, cAll) :: ks11
noncomputable def fx_aall (x : HL (cAll : Ctr).as) : Fx := mkFx Tryd.prog env ks12 ((fun (x : HL (cAll : Ctr).as) => ([(15, 3, Ann.by [.one 3 (.row I64), .keep 7, .one 8 (.d I64)] (fun s g => 0 ≤ g.2.1 ∧ g.2.1 ≤ 256 ∧ g.1 = allB (bitN x.1) g.2.1.toNat) (fun s g => (256 - g.2.1).toNat))])) x) ([]) []
noncomputable def ks13 : List (Nat × Ctr) := (15, cAll) :: ks12
noncomputable def fx_atop (x : HL (cTop : Ctr).as) : Fx := mkFx Tryd.prog env ks13 ((fun (x : HL (cTop : Ctr).as) => ([(10, 3, Ann.by [.one 3 (.d I64), .keep 7, .keep 8, .one 9 (.d I64)] (fun s g => 0 ≤ g.2.1 ∧ g.2.1 ≤ (allOf x.1).length ∧ g.1 = (if g.2.1 = 0 then -1 else (allOf x.1).getD (g.2.1 - 1).toNat 0)) (fun s g => ((allOf x.1).length - g.2.1).toNat))])) x) ([]) []
noncomputable def ks14 : List (Nat × Ctr) := (10, cTop) :: ks13
noncomputable def fx_aset (x : HL (cASet : Ctr).as) : Fx := mkFx Tryd.prog env ks14 ([]) ([]) []
noncomputable def ks15 : List (Nat × Ctr) := (7, cASet) :: ks14
noncomputable def fx_ahas (x : HL (cHas : Ctr).as) : Fx := mkFx Tryd.prog env ks15 ([]) ([]) []
noncomputable def ks16 : List (Nat × Ctr) := (5, cHas) :: ks15
noncomputable def fx_anext (x : HL (cNext : Ctr).as) : Fx := mkFx Tryd.prog env ks16 ((fun (x : HL (cNext : Ctr).as) => ([(12, 2, Ann.by [.keep 1, .keep 8, .keep 9, .one 10 (.d I64)] (fun s g => 0 ≤ g.1 ∧ g.1 ≤ (allOf x.1).length ∧ ∀ m ∈ (allOf x.1).take g.1.toNat, m < x.2.1) (fun s g => ((allOf x.1).length - g.1).toNat))])) x) ([]) []
noncomputable def ks17 : List (Nat × Ctr) := (12, cNext) :: ks16
noncomputable def fx_equal (x : HL (cEqual : Ctr).as) : Fx := mkFx Tryd.prog env ks17 ((fun (x : HL (cEqual : Ctr).as) => ([(13, 4, Ann.by [.keep 0, .keep 1, .keep 12, .one 13 (.d I64)] (fun s g => 0 ≤ g.1 ∧ g.1 ≤ x.1.length ∧ x.1.take g.1.toNat = x.2.1.take g.1.toNat) (fun s g => (x.1.length - g.1).toNat))])) x) ([]) []
noncomputable def ks18 : List (Nat × Ctr) := (13, cEqual) :: ks17
noncomputable def fx_tells (x : HL (cTell : Ctr).as) : Fx := mkFx Tryd.prog env ks18 ([]) ([]) []
noncomputable def ks19 : List (Nat × Ctr) := (3, cTell) :: ks18
noncomputable def ksAll : List (Nat × Ctr) := ks19
end Go.Proofs.YtjajpmemcfdmoaaDoor.Bitt
