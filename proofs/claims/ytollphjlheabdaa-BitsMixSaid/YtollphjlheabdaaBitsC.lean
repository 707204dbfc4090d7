/-
  BitsMix: what each function computes (its contract), and what its loops keep.
-/
import Derived.Test.YtollphjlheabdaaEnv
import Derived.Test.YtollphjlheabdaaSxZA
namespace Go.Proofs.Ytollphjlheabdaa.Bits
open Go.Sx
set_option maxRecDepth 100000
set_option linter.unusedVariables false

def bitN (b : List Int) (n : Nat) : Bool := decide (b.getD (n / 64) 0 / 2 ^ (n % 64) % 2 = 1)
def rowTo (b : List Int) (m : Nat) : List Bool := (List.range 256).map (fun i => decide (i < m) && bitN b i)
/- The number whose bits are k of a row, from s on. -/
def hor (f : Nat → Bool) (s : Nat) : Nat → Int
  | 0 => 0
  | k + 1 => (if f s = true then 1 else 0) + 2 * hor f (s + 1) k
def horTo (f : Nat → Bool) (m j : Nat) : Int := hor f (max (64 * j) m) (64 * (j + 1) - max (64 * j) m)
def bitsTo (f : Nat → Bool) (m : Nat) : List Int := [horTo f m 0, horTo f m 1, horTo f m 2, horTo f m 3]
def mixRow (g : Bool → Bool → Bool) (a b : List Int) (m : Nat) : List Bool := (List.range 256).map (fun i => decide (i < m) && g (bitN a i) (bitN b i))
def mix (g : Bool → Bool → Bool) (a b : List Int) : List Int := bitsTo (fun n => g (bitN a n) (bitN b n)) 0
def rf (r : List Bool) (n : Nat) : Bool := r.getD n false
def mixA (a b : List Int) : List Int := mix (fun a b => a && b) a b
def mixO (a b : List Int) : List Int := mix (fun a b => a || b) a b
def mixRA (a b : List Int) (m : Nat) : List Bool := mixRow (fun a b => a && b) a b m
def mixRO (a b : List Int) (m : Nat) : List Bool := mixRow (fun a b => a || b) a b m
@[reducible] def cRow : Ctr := ⟨[.arr 4 U64], [.arr 256 Bo], fun _ => True, fun x => (rowTo x.1 256, ()), false⟩
@[reducible] def cBits : Ctr := ⟨[.arr 256 Bo], [.arr 4 U64], fun _ => True, fun x => (bitsTo (rf x.1) 0, ()), false⟩
@[reducible] def cAnd : Ctr := ⟨[Bo, Bo], [.bool], fun _ => True, fun x => (x.1 && x.2.1, ()), false⟩
@[reducible] def cOr : Ctr := ⟨[Bo, Bo], [.bool], fun _ => True, fun x => (x.1 || x.2.1, ()), false⟩
@[reducible] def cMixA : Ctr := ⟨[.arr 4 U64, .arr 4 U64], [.arr 4 U64], fun _ => True, fun x => (mixA x.1 x.2.1, ()), false⟩
@[reducible] def cMixO : Ctr := ⟨[.arr 4 U64, .arr 4 U64], [.arr 4 U64], fun _ => True, fun x => (mixO x.1 x.2.1, ()), false⟩
@[reducible] def cLaw : Ctr := ⟨[.arr 4 U64, .arr 4 U64], [.bool], fun _ => True, fun _ => (true, ()), false⟩


noncomputable def ks0 : List (Nat × Ctr) := []
noncomputable def kf0 : List (Nat × Nat × Ctr) := []
noncomputable def fx_row (x : HL (cRow : Ctr).as) : Fx := mkFxF Try.prog env ks0 kf0 ((fun (x : HL (cRow : Ctr).as) => ([(66, 3, Ann.by [.keep 2, .box 3 [.d (.arr 256 Bo)], .keep 7, .one 8 (.d I64)] (fun s g => 0 ≤ g.2.1 ∧ g.2.1 ≤ 4 ∧ g.1 = rowTo x.1 (64 * g.2.1.toNat)) (fun s g => (4 - g.2.1).toNat)),
  (66, 6, Ann.by [.keep 2, .box 3 [.d (.arr 256 Bo)], .keep 4, .one 5 (.d U64), .keep 7, .keep 8, .one 12 (.d I64)] (fun s g => 0 ≤ g.2.2.1 ∧ g.2.2.1 ≤ 64 ∧ g.1 = rowTo x.1 (64 * (s.dat I64 4).toNat + g.2.2.1.toNat) ∧ g.2.1 = x.1.getD (s.dat I64 4).toNat 0 / 2 ^ g.2.2.1.toNat) (fun s g => (64 - g.2.2.1).toNat))])) x) ([]) []
noncomputable def ks1 : List (Nat × Ctr) := (66, cRow) :: ks0
noncomputable def kf1 : List (Nat × Nat × Ctr) := kf0
noncomputable def fx_bits (x : HL (cBits : Ctr).as) : Fx := mkFxF Try.prog env ks1 kf1 ((fun (x : HL (cBits : Ctr).as) => ([(67, 3, Ann.by [.keep 1, .keep 2, .box 3 [.d (.arr 4 U64)], .one 4 (.d I64)] (fun s g => -1 ≤ g.2.1 ∧ g.2.1 ≤ 255 ∧ g.1 = bitsTo (rf x.1) (g.2.1 + 1).toNat) (fun s g => (g.2.1 + 1).toNat))])) x) ([]) []
noncomputable def ks2 : List (Nat × Ctr) := (67, cBits) :: ks1
noncomputable def kf2 : List (Nat × Nat × Ctr) := kf1
noncomputable def fx_and (x : HL (cAnd : Ctr).as) : Fx := mkFxF Try.prog env ks2 kf2 ([]) ([]) []
noncomputable def ks3 : List (Nat × Ctr) := (17, cAnd) :: ks2
noncomputable def kf3 : List (Nat × Nat × Ctr) := kf2
noncomputable def fx_or (x : HL (cOr : Ctr).as) : Fx := mkFxF Try.prog env ks3 kf3 ([]) ([]) []
noncomputable def ks4 : List (Nat × Ctr) := (19, cOr) :: ks3
noncomputable def kf4 : List (Nat × Nat × Ctr) := kf3
noncomputable def fx_both (x : HL (cMixA : Ctr).as) : Fx := mkFxF Try.prog env ks4 kf4 ((fun (x : HL (cMixA : Ctr).as) => ([(15, 2, Ann.by [.box 2 [.d (.arr 4 U64)], .keep 3, .keep 4, .one 6 (.d I64)] (fun s g => 0 ≤ g.2.1 ∧ g.2.1 ≤ 4 ∧ g.1 = (mixA x.1 x.2.1).take g.2.1.toNat ++ x.1.drop g.2.1.toNat) (fun s g => (4 - g.2.1).toNat))])) x) ([]) []
noncomputable def ks5 : List (Nat × Ctr) := (15, cMixA) :: ks4
noncomputable def kf5 : List (Nat × Nat × Ctr) := kf4
noncomputable def fx_either (x : HL (cMixO : Ctr).as) : Fx := mkFxF Try.prog env ks5 kf5 ((fun (x : HL (cMixO : Ctr).as) => ([(18, 2, Ann.by [.box 2 [.d (.arr 4 U64)], .keep 3, .keep 4, .one 6 (.d I64)] (fun s g => 0 ≤ g.2.1 ∧ g.2.1 ≤ 4 ∧ g.1 = (mixO x.1 x.2.1).take g.2.1.toNat ++ x.1.drop g.2.1.toNat) (fun s g => (4 - g.2.1).toNat))])) x) ([]) []
noncomputable def ks6 : List (Nat × Ctr) := (18, cMixO) :: ks5
noncomputable def kf6 : List (Nat × Nat × Ctr) := kf5
noncomputable def fx_mixa (x : HL (cMixA : Ctr).as) : Fx := mkFxF Try.prog env ks6 kf6 ((fun (x : HL (cMixA : Ctr).as) => ([(16, 4, Ann.by [.keep 2, .keep 6, .box 7 [.d (.arr 256 Bo)], .keep 8, .keep 9, .one 15 (.d I64)] (fun s g => 0 ≤ g.2.1 ∧ g.2.1 ≤ 256 ∧ g.1 = mixRA x.1 x.2.1 g.2.1.toNat) (fun s g => (256 - g.2.1).toNat))])) x) ([]) []
noncomputable def ks7 : List (Nat × Ctr) := ks6
noncomputable def kf7 : List (Nat × Nat × Ctr) := (16, 17, cMixA) :: kf6
noncomputable def fx_mixo (x : HL (cMixO : Ctr).as) : Fx := mkFxF Try.prog env ks7 kf7 ((fun (x : HL (cMixO : Ctr).as) => ([(16, 4, Ann.by [.keep 2, .keep 6, .box 7 [.d (.arr 256 Bo)], .keep 8, .keep 9, .one 15 (.d I64)] (fun s g => 0 ≤ g.2.1 ∧ g.2.1 ≤ 256 ∧ g.1 = mixRO x.1 x.2.1 g.2.1.toNat) (fun s g => (256 - g.2.1).toNat))])) x) ([]) []
noncomputable def ks8 : List (Nat × Ctr) := ks7
noncomputable def kf8 : List (Nat × Nat × Ctr) := (16, 19, cMixO) :: kf7
noncomputable def fx_mixes (x : HL (cLaw : Ctr).as) : Fx := mkFxF Try.prog env ks8 kf8 ([]) ([]) []
noncomputable def ks9 : List (Nat × Ctr) := (3, cLaw) :: ks8
noncomputable def kf9 : List (Nat × Nat × Ctr) := kf8
noncomputable def ksAll : List (Nat × Ctr) := ks9
end Go.Proofs.Ytollphjlheabdaa.Bits
