/-
  VectorPlays: what each function computes (its contract), and what its loops keep.
-/
import Derived.Test.YtlkhpbjjimjhbaaDoorEnv
import Derived.Test.YtlkhpbjjimjhbaaDoorSxZA
import Derived.Lib.BitFns
import Derived.Lib.TrailingZeros
namespace Go.Proofs.YtlkhpbjjimjhbaaDoor.Vec
open Go.Sx
set_option maxRecDepth 100000
set_option linter.unusedVariables false

def bitN (b : List Int) (n : Nat) : Bool := decide (b.getD (n / 64) 0 / 2 ^ (n % 64) % 2 = 1)
def rowTo (b : List Int) (m : Nat) : List Bool := (List.range 256).map (fun i => decide (i < m) && bitN b i)
/- The number whose bits are k of a row, from s on. -/
def hor (f : Nat → Bool) (s : Nat) : Nat → Int
  | 0 => 0
  | k + 1 => (if f s = true then 1 else 0) + 2 * hor f (s + 1) k
def horTo (f : Nat → Bool) (m j : Nat) : Int := hor f (max (64 * j) m) (64 * (j + 1) - max (64 * j) m)
def bitsTo (f : Nat → Bool) (m : Nat) : List Int := [horTo f m 0, horTo f m 1, horTo f m 2, horTo f m 3]
def mixRow (g : Bool → Bool → Bool) (a b : List Int) (m : Nat) : List Bool := (List.range 256).map (fun i => decide (i < m) && g (bitN a i) (bitN b i))
def mix (g : Bool → Bool → Bool) (a b : List Int) : List Int := bitsTo (fun n => g (bitN a n) (bitN b n)) 0
def rf (r : List Bool) (n : Nat) : Bool := r.getD n false
def mixA (a b : List Int) : List Int := mix (fun a b => a && b) a b
def mixO (a b : List Int) : List Int := mix (fun a b => a || b) a b
def mixRA (a b : List Int) (m : Nat) : List Bool := mixRow (fun a b => a && b) a b m
def mixRO (a b : List Int) (m : Nat) : List Bool := mixRow (fun a b => a || b) a b m
@[reducible] def cRow : Ctr := ⟨[.arr 4 U64], [.arr 256 Bo], fun _ => True, fun x => (rowTo x.1 256, ()), false⟩
@[reducible] def cBits : Ctr := ⟨[.arr 256 Bo], [.arr 4 U64], fun _ => True, fun x => (bitsTo (rf x.1) 0, ()), false⟩
@[reducible] def cAnd : Ctr := ⟨[Bo, Bo], [.bool], fun _ => True, fun x => (x.1 && x.2.1, ()), false⟩
@[reducible] def cOr : Ctr := ⟨[Bo, Bo], [.bool], fun _ => True, fun x => (x.1 || x.2.1, ()), false⟩
@[reducible] def cMixA : Ctr := ⟨[.arr 4 U64, .arr 4 U64], [.arr 4 U64], fun _ => True, fun x => (mixA x.1 x.2.1, ()), false⟩
@[reducible] def cMixO : Ctr := ⟨[.arr 4 U64, .arr 4 U64], [.arr 4 U64], fun _ => True, fun x => (mixO x.1 x.2.1, ()), false⟩
@[reducible] def cLaw : Ctr := ⟨[.arr 4 U64, .arr 4 U64], [.bool], fun _ => True, fun _ => (true, ()), false⟩


/- The greatest below m that is there; the least from n on, of k; all below m. -/
def topB (f : Nat → Bool) : Nat → Int
  | 0 => -1
  | m + 1 => if f m = true then (m : Int) else topB f m
def nextB (f : Nat → Bool) (n : Nat) : Nat → Int
  | 0 => -1
  | k + 1 => if f n = true then (n : Int) else nextB f (n + 1) k
def allB (f : Nat → Bool) (m : Nat) : List Int := ((List.range m).filter f).map Int.ofNat
def fits (n : Int) : Bool := decide (0 ≤ n) && decide (n < 256)
def hasB (b : List Int) (n : Int) : Bool := fits n && bitN b n.toNat
def putB (b : List Int) (n : Int) (v : Bool) : List Int := if fits n = true then bitsTo (fun i => if i = n.toNat then v else bitN b i) 0 else b
def topOf (b : List Int) : Int := topB (bitN b) 256
def nextOf (b : List Int) (n : Int) : Int := if fits (max n 0) = true then nextB (bitN b) (max n 0).toNat (256 - (max n 0).toNat) else -1
def allOf (b : List Int) : List Int := allB (bitN b) 256
@[reducible] def cLen : Ctr := ⟨[U64], [I64], fun _ => True, fun x => ((Lib.bitLen x.1.toNat : Int), ()), false⟩
@[reducible] def cLead : Ctr := ⟨[U64], [I64], fun _ => True, fun x => (64 - (Lib.bitLen x.1.toNat : Int), ()), false⟩
@[reducible] def cTz : Ctr := ⟨[U64], [I64], fun _ => True, fun x => ((Lib.ctz 64 x.1.toNat : Int), ()), false⟩
@[reducible] def cFits : Ctr := ⟨[I64], [.bool], fun _ => True, fun x => (fits x.1, ()), false⟩
@[reducible] def cHas : Ctr := ⟨[.arr 4 U64, I64], [.bool], fun _ => True, fun x => (hasB x.1 x.2.1, ()), false⟩
@[reducible] def cWith : Ctr := ⟨[.arr 4 U64, I64], [.arr 4 U64], fun _ => True, fun x => (putB x.1 x.2.1 true, ()), false⟩
@[reducible] def cWithout : Ctr := ⟨[.arr 4 U64, I64], [.arr 4 U64], fun _ => True, fun x => (putB x.1 x.2.1 false, ()), false⟩
@[reducible] def cTop : Ctr := ⟨[.arr 4 U64], [I64], fun _ => True, fun x => (topOf x.1, ()), false⟩
@[reducible] def cNext : Ctr := ⟨[.arr 4 U64, I64], [I64], fun _ => True, fun x => (nextOf x.1 x.2.1, ()), false⟩
@[reducible] def cAll : Ctr := ⟨[.arr 4 U64], [.sl I64], fun _ => True, fun x => (allOf x.1, ()), false⟩
@[reducible] def cASet : Ctr := ⟨[.arr 4 U64, I64, Bo], [.arr 4 U64], fun _ => True, fun x => (putB x.1 x.2.1 x.2.2.1, ()), false⟩


/- The slots: each line's core and vector (vector 0: none). -/
abbrev VS := List (Int × Int)
def cntS (l : VS) (c : Int) : Int := ((l.filter (fun s => decide (0 < s.2) && decide (s.1 = c))).length : Nat)
def mbit (m : Int) (c : Nat) : Bool := decide (m / 2 ^ c % 2 = 1)
def okc (m b : Int) (c : Nat) : Bool := mbit m c && !(decide ((c : Int) = b))
def bst (f : Nat → Bool) (g : Nat → Int) : Nat → Int × Int
  | 0 => (-1, 1000)
  | n + 1 => if f n = true ∧ g n < 224 ∧ g n < (bst f g n).2 then ((n : Int), g n) else bst f g n
def usedS (l : VS) (c v : Int) : Bool := l.any (fun s => decide (0 < s.2) && decide (s.1 = c) && decide (s.2 = v))
def lstN (h : Nat → Bool) (n : Nat) : Nat → Nat
  | 0 => n
  | k + 1 => if h n = true then lstN h (n + 1) k else n
def hadT (l : VS) (c : Int) : List Bool := (List.range 256).map (fun (v : Nat) => usedS l c v)
def findS (cores : Int) (l : VS) (m b : Int) : Option (Int × Int) :=
  if (bst (okc m b) (fun c => cntS l c) cores.toNat).1 < 0 then none
  else some ((bst (okc m b) (fun c => cntS l c) cores.toNat).1, lstN (fun v => usedS l (bst (okc m b) (fun c => cntS l c) cores.toNat).1 v) 32 224)
def stepV (cores : Int) (l : VS) (o : Int × Int × Int) : VS × Int :=
  if o.1 < 1 ∨ 3 < o.1 then (l, 5)
  else if o.2.1 < 0 ∨ (l.length : Int) ≤ o.2.1 then (l, 2)
  else if o.1 = 1 ∧ 0 < (l.getD o.2.1.toNat (0, 0)).2 then (l, 6)
  else if o.1 ≠ 1 ∧ ¬ 0 < (l.getD o.2.1.toNat (0, 0)).2 then (l, 3)
  else if o.1 = 2 then (l.set o.2.1.toNat (0, 0), 0)
  else match findS cores l o.2.2 (if o.1 = 3 then (l.getD o.2.1.toNat (0, 0)).1 else -1) with
    | none => (l, 4)
    | some s => (l.set o.2.1.toNat s, 0)
def oneV (cores : Int) (s : VS × List Int) (o : Int × Int × Int) : VS × List Int := ((stepV cores s.1 o).1, s.2 ++ [(stepV cores s.1 o).2])
def plV (cores lines : Int) (ops : List (Int × Int × Int)) : VS × List Int := ops.foldl (oneV cores) (List.replicate lines.toNat (0, 0), [])
def badV (cores lines : Int) : Bool := decide (cores < 1) || decide (8 < cores) || decide (lines < 0) || decide (2000 < lines)
def playV (x : Int × Int × List (Int × Int × Int) × Unit) : List Int × List (Int × Int) × Int × Unit :=
  if badV x.1 x.2.1 = true then ([], [], 2, ()) else ((plV x.1 x.2.1 x.2.2.1).2, (plV x.1 x.2.1 x.2.2.1).1, 0, ())
def okSlot (cores : Int) (s : Int × Int) : Prop := s = (0, 0) ∨ ((0 ≤ s.1 ∧ s.1 < cores) ∧ 32 ≤ s.2 ∧ s.2 < 256)
/- What is taken of each core, and how many these are. -/
def RelV (cores : Int) (l : VS) (t : List (List Int)) : Prop :=
  (∀ s ∈ l, okSlot cores s) ∧ (t.length : Int) = cores ∧ (∀ c : Nat, (c : Int) < cores → ∀ v : Nat, v < 256 → bitN (t.getD c [0, 0, 0, 0]) v = usedS l c v)
  ∧ (∀ c : Nat, (c : Int) < cores → ((allOf (t.getD c [0, 0, 0, 0])).length : Int) = cntS l c)
  ∧ (∀ i j : Nat, i < j → j < l.length → 0 < (l.getD i (0, 0)).2 → l.getD i (0, 0) ≠ l.getD j (0, 0))
def ldT (t : List (List Int)) (c : Nat) : Int := ((allOf (t.getD c [0, 0, 0, 0])).length : Nat)
@[reducible] def cCloneS : Ctr := ⟨[.sl tySlot], [.sl tySlot], fun x => x.1.length * 16 ≤ 140737488355328, fun x => (x.1, ()), true⟩
@[reducible] def cEqS : Ctr := ⟨[.sl tySlot, .sl tySlot], [.bool], fun _ => True, fun x => (decide (x.1 = x.2.1), ()), false⟩
@[reducible] def cEqI : Ctr := ⟨[.sl I64, .sl I64], [.bool], fun _ => True, fun x => (decide (x.1 = x.2.1), ()), false⟩
@[reducible] def cPlayV : Ctr := ⟨[I64, I64, .sl tyVecOp], [.sl I64, .sl tySlot, I64], fun x => x.2.2.1.length * 24 ≤ 140737488355328, fun x => playV x, false⟩
@[reducible] def cVec : Ctr := ⟨[I64, I64, .sl tyVecOp], [.bool], fun x => x.2.2.1.length * 24 ≤ 140737488355328, fun _ => (true, ()), false⟩


noncomputable def ks0 : List (Nat × Ctr) := []
noncomputable def fx_len (x : HL (cLen : Ctr).as) : Fx := mkFx Tryd.prog env ks0 ([]) ([]) []
noncomputable def ks1 : List (Nat × Ctr) := (36, cLen) :: ks0
noncomputable def fx_lead (x : HL (cLead : Ctr).as) : Fx := mkFx Tryd.prog env ks1 ([]) ([]) []
noncomputable def ks2 : List (Nat × Ctr) := (29, cLead) :: ks1
noncomputable def fx_tz (x : HL (cTz : Ctr).as) : Fx := mkFx Tryd.prog env ks2 ([]) ([]) []
noncomputable def ks3 : List (Nat × Ctr) := (32, cTz) :: ks2
noncomputable def fx_fits (x : HL (cFits : Ctr).as) : Fx := mkFx Tryd.prog env ks3 ([]) ([]) []
noncomputable def ks4 : List (Nat × Ctr) := (28, cFits) :: ks3
noncomputable def fx_has (x : HL (cHas : Ctr).as) : Fx := mkFx Tryd.prog env ks4 ([]) ([]) []
noncomputable def ks5 : List (Nat × Ctr) := (40, cHas) :: ks4
noncomputable def fx_with (x : HL (cWith : Ctr).as) : Fx := mkFx Tryd.prog env ks5 ([]) ([]) []
noncomputable def ks6 : List (Nat × Ctr) := (16, cWith) :: ks5
noncomputable def fx_without (x : HL (cWithout : Ctr).as) : Fx := mkFx Tryd.prog env ks6 ([]) ([]) []
noncomputable def ks7 : List (Nat × Ctr) := (17, cWithout) :: ks6
noncomputable def fx_next (x : HL (cNext : Ctr).as) : Fx := mkFx Tryd.prog env ks7 ((fun (x : HL (cNext : Ctr).as) => ([(21, 6, Ann.by [.box 2 [.d (.arr 4 U64)], .one 5 (.d I64)] (fun s g => 0 ≤ g.2.1 ∧ g.2.1 ≤ 4 ∧ nextOf x.1 x.2.1 = nextB (bitN g.1) (64 * g.2.1.toNat) (64 * (4 - g.2.1).toNat)) (fun s g => (4 - g.2.1).toNat))])) x) ([]) []
noncomputable def ks8 : List (Nat × Ctr) := (21, cNext) :: ks7
noncomputable def fx_all (x : HL (cAll : Ctr).as) : Fx := mkFx Tryd.prog env ks8 ((fun (x : HL (cAll : Ctr).as) => ([(39, 3, Ann.by [.box 1 [.d (.arr 4 U64)], .one 3 (.row I64), .one 4 (.d I64)] (fun s g => g.1 = x.1 ∧ -1 ≤ g.2.2.1 ∧ g.2.2.1 ≤ 255 ∧ (g.2.1.length : Int) ≤ 256 ∧ ((g.2.2.1 = -1 ∧ g.2.1 = allOf x.1) ∨ (0 ≤ g.2.2.1 ∧ bitN x.1 g.2.2.1.toNat = true ∧ g.2.1 = allB (bitN x.1) g.2.2.1.toNat))) (fun s g => (256 - (if g.2.2.1 = -1 then 256 else g.2.2.1)).toNat))])) x) ([]) []
noncomputable def ks9 : List (Nat × Ctr) := (39, cAll) :: ks8
noncomputable def fx_cloneS (x : HL (cCloneS : Ctr).as) : Fx := mkFx Tryd.prog env ks9 ([]) ([]) []
noncomputable def ks10 : List (Nat × Ctr) := (26, cCloneS) :: ks9
noncomputable def fx_eqS (x : HL (cEqS : Ctr).as) : Fx := mkFx Tryd.prog env ks10 ((fun (x : HL (cEqS : Ctr).as) => ([(14, 4, Ann.by [.keep 0, .keep 1, .keep 12, .one 13 (.d I64)] (fun s g => 0 ≤ g.1 ∧ g.1 ≤ x.1.length ∧ x.1.take g.1.toNat = x.2.1.take g.1.toNat) (fun s g => (x.1.length - g.1).toNat))])) x) ([]) []
noncomputable def ks11 : List (Nat × Ctr) := (14, cEqS) :: ks10
noncomputable def fx_eqE (x : HL (cEqI : Ctr).as) : Fx := mkFx Tryd.prog env ks11 ((fun (x : HL (cEqI : Ctr).as) => ([(13, 4, Ann.by [.keep 0, .keep 1, .keep 12, .one 13 (.d I64)] (fun s g => 0 ≤ g.1 ∧ g.1 ≤ x.1.length ∧ x.1.take g.1.toNat = x.2.1.take g.1.toNat) (fun s g => (x.1.length - g.1).toNat))])) x) ([]) []
noncomputable def ks12 : List (Nat × Ctr) := (13, cEqI) :: ks11
noncomputable def fx_vplay (x : HL (cPlayV : Ctr).as) : Fx := mkFx Tryd.prog env ks12 ((fun (x : HL (cPlayV : Ctr).as) => ([(11, 6, Ann.by [.box 9 [.keep, .row tySlot, .row (.arr 4 U64)], .one 10 (.row I64), .keep 34, .keep 35, .one 36 (.d I64)] (fun s g => 0 ≤ g.2.2.1 ∧ g.2.2.1 ≤ x.2.2.1.length ∧ plV x.1 x.2.1 (x.2.2.1.take g.2.2.1.toNat) = (g.1.2.1, g.2.1) ∧ (g.2.1.length : Int) = g.2.2.1 ∧ RelV x.1 g.1.2.1 g.1.2.2) (fun s g => (x.2.2.1.length - g.2.2.1).toNat)),
  (33, 3, Ann.by [.bk, .keep 0, .keep 1, .keep 2, .one 7 (.d I64), .keep 12, .one 13 (.d I64)] (fun s g => 0 ≤ g.2.1 ∧ g.2.1 ≤ s.dat I64 12 ∧ g.1 = (bst (okc (s.dat I64 1) (s.dat I64 2)) (ldT (s.bxd (.sl (.arr 4 U64)) 0 2)) g.2.1.toNat).1) (fun s g => (s.dat I64 12 - g.2.1).toNat)),
  (38, 2, Ann.by [.bk, .keep 0, .keep 1, .one 5 (.d I64)] (fun s g => 32 ≤ g.1 ∧ g.1 ≤ 256 ∧ lstN (bitN ((s.bxd (.sl (.arr 4 U64)) 0 2).getD (s.dat I64 1).toNat [0, 0, 0, 0])) g.1.toNat (256 - g.1).toNat = lstN (bitN ((s.bxd (.sl (.arr 4 U64)) 0 2).getD (s.dat I64 1).toNat [0, 0, 0, 0])) 32 224) (fun s g => (256 - g.1).toNat))])) x) ([]) [(33,10000033),(25,9000018),(25,8000083)]
noncomputable def ks13 : List (Nat × Ctr) := (11, cPlayV) :: ks12
noncomputable def fx_dplay (x : HL (cPlayV : Ctr).as) : Fx := mkFx Tryd.prog env ks13 ((fun (x : HL (cPlayV : Ctr).as) => ([(12, 7, Ann.by [.keep 1, .box 9 [.row tySlot], .keep 10, .one 11 (.row I64), .keep 35, .keep 36, .one 37 (.d I64)] (fun s g => 0 ≤ g.2.2.1 ∧ g.2.2.1 ≤ x.2.2.1.length ∧ plV x.1 x.2.1 (x.2.2.1.take g.2.2.1.toNat) = (g.1, g.2.1) ∧ (g.2.1.length : Int) = g.2.2.1 ∧ (∀ s ∈ g.1, okSlot x.1 s)) (fun s g => (x.2.2.1.length - g.2.2.1).toNat)),
  (27, 3, Ann.by [.bk, .keep 0, .keep 1, .keep 3, .keep 6, .one 8 (.d I64), .one 9 (.d I64), .keep 18, .one 19 (.d I64)] (fun s g => 0 ≤ g.2.2.1 ∧ g.2.2.1 ≤ s.dat I64 18 ∧ (g.1, g.2.1) = bst (okc (s.dat I64 0) (s.dat I64 1)) (fun c => cntS (s.bxd (.sl tySlot) 3 0) c) g.2.2.1.toNat) (fun s g => (s.dat I64 18 - g.2.2.1).toNat)),
  (27, 7, Ann.by [.bk, .keep 0, .keep 1, .keep 3, .keep 6, .keep 8, .keep 9, .keep 10, .one 11 (.d I64), .keep 18, .keep 19, .keep 22, .keep 23, .one 24 (.d I64)] (fun s g => 0 ≤ g.2.1 ∧ g.2.1 ≤ (s.dat (.sl tySlot) 22).length ∧ g.1 = cntS ((s.dat (.sl tySlot) 22).take g.2.1.toNat) (s.dat I64 10)) (fun s g => ((s.dat (.sl tySlot) 22).length - g.2.1).toNat)),
  (27, 19, Ann.by [.bk, .keep 6, .keep 8, .box 14 [.d (.arr 256 Bo)], .keep 66, .keep 67, .one 68 (.d I64)] (fun s g => 0 ≤ g.2.1 ∧ g.2.1 ≤ (s.dat (.sl tySlot) 66).length ∧ g.1 = hadT ((s.dat (.sl tySlot) 66).take g.2.1.toNat) (s.dat I64 8)) (fun s g => ((s.dat (.sl tySlot) 66).length - g.2.1).toNat)),
  (27, 25, Ann.by [.bk, .keep 6, .keep 8, .keep 14, .one 17 (.d I64)] (fun s g => 32 ≤ g.1 ∧ g.1 ≤ 256 ∧ lstN (fun i => (s.bxd (.arr 256 Bo) 14 0).getD i false) g.1.toNat (256 - g.1).toNat = lstN (fun i => (s.bxd (.arr 256 Bo) 14 0).getD i false) 32 224) (fun s g => (256 - g.1).toNat))])) x) ((fun (x : HL (cPlayV : Ctr).as) => ([(12, 27, Ann.by [.keep 1, .box 9 [.row tySlot], .keep 10, .keep 11, .one 14 (.d I64), .keep 35, .keep 36, .keep 37] (fun s g => (g.1, g.2.1) = stepV x.1 (s.bxd (.sl tySlot) 9 0) (s.bxd tyVecOp 13 0)) (fun s g => 0)),
  (12, 13, Ann.by [.keep 1, .keep 9, .keep 10, .keep 11, .keep 13, .keep 14, .one 15 (.d I64), .keep 35, .keep 36, .keep 37] (fun s g => g.1 = (if (s.bxd tyVecOp 13 0).1 = 3 then ((s.bxd (.sl tySlot) 9 0).getD (s.bxd tyVecOp 13 0).2.1.toNat (0, 0)).1 else -1)) (fun s g => 0))])) x) [(27,45)]
noncomputable def ks14 : List (Nat × Ctr) := (12, cPlayV) :: ks13
noncomputable def fx_vplays (x : HL (cVec : Ctr).as) : Fx := mkFx Tryd.prog env ks14 ([]) ([]) []
noncomputable def ks15 : List (Nat × Ctr) := (4, cVec) :: ks14
noncomputable def ksAll : List (Nat × Ctr) := ks15
end Go.Proofs.YtlkhpbjjimjhbaaDoor.Vec
