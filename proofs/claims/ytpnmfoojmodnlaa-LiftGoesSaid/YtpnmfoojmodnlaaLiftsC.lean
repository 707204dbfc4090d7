/-
  LiftGoes: what each function computes (its contract), and what its loops keep.
-/
import Derived.Test.YtpnmfoojmodnlaaEnv
import Derived.Test.YtpnmfoojmodnlaaSxZA
namespace Go.Proofs.Ytpnmfoojmodnlaa.Lifts
open Go.Sx
set_option maxRecDepth 100000
set_option linter.unusedVariables false

def okB (a : Int) : Bool := decide (0 ≤ a) && decide (a ≤ 1099511627776)
def wr (l : List Int) : Int := if 400 < l.length ∨ l.all okB = false then 2 else 0
def stepW (s : Int × Int) (b : Int) : Int × Int := (s.1 + max (b - s.2) (s.2 - b), b)
def walk (h : Int) (l : List Int) : Int × Int := l.foldl stepW (0, h)
def way (h : Int) (l : List Int) : Int × Int := if wr l ≠ 0 ∨ wr [h] ≠ 0 then (0, 2) else ((walk h l).1, 0)
def sway (h : Int) (l : List Int) : Int := if wr l ≠ 0 ∨ wr [h] ≠ 0 then -1 else (walk h l).1
def sortI (l : List Int) : List Int := l.mergeSort fun x y => decide (x ≤ y)
/- How many are below. -/
def lb (l : List Int) (h : Int) : Int := l.countP (fun x => decide (x < h))
def found (l : List Int) (h : Int) : Bool := decide (lb l h < l.length) && decide (l.getD (lb l h).toNat 0 = h)
def up (h : Int) (l : List Int) : List Int := sortI (l.filter fun x => decide (h ≤ x))
def down (h : Int) (l : List Int) : List Int := sortI (l.filter fun x => decide (x < h))
def mn (l : List Int) : Int := (l.drop 1).foldl min (l.getD 0 0)
def mx (l : List Int) : Int := (l.drop 1).foldl max (l.getD 0 0)
def sweep (h : Int) (l : List Int) : List Int × Int := if (way h l).2 ≠ 0 then ([], 2) else (up h l ++ down h l, 0)
def order (h : Int) (l : List Int) : List Int := if mx l - h ≤ h - mn l then up h l ++ (down h l).reverse else (down h l).reverse ++ up h l
def short (h : Int) (l : List Int) : List Int × Int := if (way h l).2 ≠ 0 then ([], 2) else if l.length = 0 then ([], 0) else (order h l, 0)
def swp (d : List Int) (i j : Int) : List Int := (d.set i.toNat (d.getD j.toNat 0)).set j.toNat (d.getD i.toNat 0)
def revs (d : List Int) : Nat → List Int
  | 0 => d
  | n + 1 => swp (revs d n) n (d.length - 1 - n)
@[reducible] def cEqual : Ctr := ⟨[.sl I64, .sl I64], [.bool], fun _ => True, fun x => (decide (x.1 = x.2.1), ()), false⟩
@[reducible] def cMin : Ctr := ⟨[.sl I64], [I64], fun x => 0 < x.1.length, fun x => (mn x.1, ()), false⟩
@[reducible] def cMax : Ctr := ⟨[.sl I64], [I64], fun x => 0 < x.1.length, fun x => (mx x.1, ()), false⟩
@[reducible] def cAny : Ctr := ⟨[.sl I64], [.bool], fun _ => True, fun x => (!(x.1.all okB), ()), false⟩
@[reducible] def cWrong : Ctr := ⟨[.sl I64], [I64], fun _ => True, fun x => (wr x.1, ()), false⟩
@[reducible] def cWay : Ctr := ⟨[I64, .sl I64], [I64, I64], fun _ => True, fun x => ((way x.1 x.2.1).1, (way x.1 x.2.1).2, ()), false⟩
@[reducible] def cSway : Ctr := ⟨[I64, .sl I64], [I64], fun _ => True, fun x => (sway x.1 x.2.1, ()), false⟩
@[reducible] def cLess : Ctr := ⟨[I64, I64], [.bool], fun _ => True, fun x => (decide (x.1 < x.2.1), ()), false⟩
@[reducible] def cNaN : Ctr := ⟨[I64], [.bool], fun _ => True, fun _ => (false, ()), false⟩
@[reducible] def cBS : Ctr := ⟨[.sl I64, I64], [I64, .bool], fun x => x.1.length ≤ 400 ∧ x.1.Pairwise (· ≤ ·), fun x => (lb x.1 x.2.1, found x.1 x.2.1, ()), false⟩
@[reducible] def cClone : Ctr := ⟨[.sl I64], [.sl I64], fun x => x.1.length ≤ 400, fun x => (x.1, ()), true⟩
@[reducible] def cGrow : Ctr := ⟨[I64], [.sl I64], fun x => 0 ≤ x.1 ∧ x.1 ≤ 800, fun _ => ([], ()), true⟩
@[reducible] def cConcat : Ctr := ⟨[.sl (.sl I64)], [.sl I64], fun x => x.1.flatten.length ≤ 800, fun x => (x.1.flatten, ()), true⟩
@[reducible] def cSorted : Ctr := ⟨[.sl I64], [.sl I64], fun x => x.1.length ≤ 400, fun x => (sortI x.1, ()), false⟩
@[reducible] def cParts : Ctr := ⟨[I64, .sl I64], [.sl I64, .sl I64], fun x => x.2.1.length ≤ 400, fun x => (up x.1 x.2.1, down x.1 x.2.1, ()), false⟩
@[reducible] def cSshort : Ctr := ⟨[I64, .sl I64], [.sl I64], fun x => x.2.1.length ≤ 400 ∧ okB x.1 = true ∧ x.2.1.all okB = true, fun x => (if x.2.1.length = 0 then [] else order x.1 x.2.1, ()), false⟩
@[reducible] def cSweep : Ctr := ⟨[I64, .sl I64], [.sl I64, I64], fun _ => True, fun x => ((sweep x.1 x.2.1).1, (sweep x.1 x.2.1).2, ()), false⟩
@[reducible] def cShort : Ctr := ⟨[I64, .sl I64], [.sl I64, I64], fun _ => True, fun x => ((short x.1 x.2.1).1, (short x.1 x.2.1).2, ()), false⟩
@[reducible] def cLaw : Ctr := ⟨[I64, .sl I64], [.bool], fun _ => True, fun _ => (true, ()), false⟩
@[reducible] def own1 : St := canon [.one (.row 1)] [(1, .row I64 [])] 2
@[reducible] def pSort : Prc := Prc.by 1 own1 [.own 0 I64] (fun g => g.1.length ≤ 400) [] (fun g => ((sortI g.1, g.2), ()))
@[reducible] def pRev : Prc := Prc.by 1 own1 [.own 0 I64] (fun g => g.1.length ≤ 400) [] (fun g => ((g.1.reverse, g.2), ()))


noncomputable def ks0 : List (Nat × Ctr) := []
noncomputable def kf0 : List (Nat × Nat × Ctr) := []
noncomputable def ps0 : List (Nat × Prc) := []
noncomputable def knAll : List (Nat × Ctr) := [(42, cGrow)]
noncomputable def kcAll : List (Nat × Nat × List Nat × Ctr) := [(34, 59, [], cSorted)]
noncomputable def fx_sort (x : (pSort : Prc).G) : Fx := mkFxX Try.prog env ks0 kf0 (ps0) knAll kcAll ([]) ([]) []
noncomputable def ps1 : List (Nat × Prc) := (41, pSort) :: ps0
noncomputable def ks1 : List (Nat × Ctr) := ks0
noncomputable def kf1 : List (Nat × Nat × Ctr) := kf0
noncomputable def fx_rev (x : (pRev : Prc).G) : Fx := mkFxX Try.prog env ks1 kf1 (ps1) knAll kcAll ((fun (x : (pRev : Prc).G) => ([(38, 1, Ann.by [.bk, .own 0 I64, .one 2 (.d I64), .one 3 (.d I64)] (fun s g => 0 ≤ g.2.1 ∧ g.2.2.1 = x.1.length - 1 - g.2.1 ∧ g.2.1 ≤ g.2.2.1 + 1 ∧ g.1 = revs x.1 g.2.1.toNat) (fun s g => (g.2.2.1 - g.2.1 + 1).toNat))])) x) ([]) []
noncomputable def ps2 : List (Nat × Prc) := (38, pRev) :: ps1
noncomputable def ks2 : List (Nat × Ctr) := ks1
noncomputable def kf2 : List (Nat × Nat × Ctr) := kf1
noncomputable def fx_equal (x : HL (cEqual : Ctr).as) : Fx := mkFxX Try.prog env ks2 kf2 (ps2) knAll kcAll ((fun (x : HL (cEqual : Ctr).as) => ([(16, 4, Ann.by [.keep 0, .keep 1, .keep 12, .one 13 (.d I64)] (fun s g => 0 ≤ g.1 ∧ g.1 ≤ x.1.length ∧ x.1.take g.1.toNat = x.2.1.take g.1.toNat) (fun s g => (x.1.length - g.1).toNat))])) x) ([]) []
noncomputable def ps3 : List (Nat × Prc) := ps2
noncomputable def ks3 : List (Nat × Ctr) := (16, cEqual) :: ks2
noncomputable def kf3 : List (Nat × Nat × Ctr) := kf2
noncomputable def fx_min (x : HL (cMin : Ctr).as) : Fx := mkFxX Try.prog env ks3 kf3 (ps3) knAll kcAll ((fun (x : HL (cMin : Ctr).as) => ([(44, 5, Ann.by [.keep 0, .one 3 (.d I64), .one 4 (.d I64)] (fun s g => 1 ≤ g.2.1 ∧ g.2.1 ≤ x.1.length ∧ g.1 = mn (x.1.take g.2.1.toNat)) (fun s g => (x.1.length - g.2.1).toNat))])) x) ([]) []
noncomputable def ps4 : List (Nat × Prc) := ps3
noncomputable def ks4 : List (Nat × Ctr) := (44, cMin) :: ks3
noncomputable def kf4 : List (Nat × Nat × Ctr) := kf3
noncomputable def fx_max (x : HL (cMax : Ctr).as) : Fx := mkFxX Try.prog env ks4 kf4 (ps4) knAll kcAll ((fun (x : HL (cMax : Ctr).as) => ([(43, 5, Ann.by [.keep 0, .one 3 (.d I64), .one 4 (.d I64)] (fun s g => 1 ≤ g.2.1 ∧ g.2.1 ≤ x.1.length ∧ g.1 = mx (x.1.take g.2.1.toNat)) (fun s g => (x.1.length - g.2.1).toNat))])) x) ([]) []
noncomputable def ps5 : List (Nat × Prc) := ps4
noncomputable def ks5 : List (Nat × Ctr) := (43, cMax) :: ks4
noncomputable def kf5 : List (Nat × Nat × Ctr) := kf4
noncomputable def fx_nan (x : HL (cNaN : Ctr).as) : Fx := mkFxX Try.prog env ks5 kf5 (ps5) knAll kcAll ([]) ([]) []
noncomputable def ps6 : List (Nat × Prc) := ps5
noncomputable def ks6 : List (Nat × Ctr) := (61, cNaN) :: ks5
noncomputable def kf6 : List (Nat × Nat × Ctr) := kf5
noncomputable def fx_less (x : HL (cLess : Ctr).as) : Fx := mkFxX Try.prog env ks6 kf6 (ps6) knAll kcAll ([]) ([]) []
noncomputable def ps7 : List (Nat × Prc) := ps6
noncomputable def ks7 : List (Nat × Ctr) := (60, cLess) :: ks6
noncomputable def kf7 : List (Nat × Nat × Ctr) := kf6
noncomputable def fx_bs (x : HL (cBS : Ctr).as) : Fx := mkFxX Try.prog env ks7 kf7 (ps7) knAll kcAll ((fun (x : HL (cBS : Ctr).as) => ([(36, 3, Ann.by [.keep 0, .keep 1, .keep 6, .one 7 (.d I64), .one 8 (.d I64)] (fun s g => 0 ≤ g.1 ∧ g.1 ≤ g.2.1 ∧ g.2.1 ≤ x.1.length ∧ (∀ k, 0 ≤ k → k < g.1 → x.1.getD k.toNat 0 < x.2.1) ∧ ∀ k, g.2.1 ≤ k → k < x.1.length → x.2.1 ≤ x.1.getD k.toNat 0) (fun s g => (g.2.1 - g.1).toNat))])) x) ([]) [(36,19),(36,21)]
noncomputable def ps8 : List (Nat × Prc) := ps7
noncomputable def ks8 : List (Nat × Ctr) := (36, cBS) :: ks7
noncomputable def kf8 : List (Nat × Nat × Ctr) := kf7
noncomputable def fx_clone (x : HL (cClone : Ctr).as) : Fx := mkFxX Try.prog env ks8 kf8 (ps8) knAll kcAll ([]) ([]) []
noncomputable def ps9 : List (Nat × Prc) := ps8
noncomputable def ks9 : List (Nat × Ctr) := (37, cClone) :: ks8
noncomputable def kf9 : List (Nat × Nat × Ctr) := kf8
noncomputable def fx_concat (x : HL (cConcat : Ctr).as) : Fx := mkFxX Try.prog env ks9 kf9 (ps9) knAll kcAll ((fun (x : HL (cConcat : Ctr).as) => ([(17, 3, Ann.by [.keep 0, .one 3 (.d I64), .keep 9, .keep 10, .one 11 (.d I64)] (fun s g => 0 ≤ g.2.1 ∧ g.2.1 ≤ x.1.length ∧ g.1 = (x.1.take g.2.1.toNat).flatten.length) (fun s g => (x.1.length - g.2.1).toNat)),
  (17, 11, Ann.by [.one 6 (.row I64), .keep 25, .keep 26, .one 27 (.d I64)] (fun s g => 0 ≤ g.2.1 ∧ g.2.1 ≤ x.1.length ∧ g.1 = (x.1.take g.2.1.toNat).flatten) (fun s g => (x.1.length - g.2.1).toNat))])) x) ([]) []
noncomputable def ps10 : List (Nat × Prc) := ps9
noncomputable def ks10 : List (Nat × Ctr) := (17, cConcat) :: ks9
noncomputable def kf10 : List (Nat × Nat × Ctr) := kf9
noncomputable def fx_any (x : HL (cAny : Ctr).as) : Fx := mkFxX Try.prog env ks10 kf10 (ps10) knAll kcAll ((fun (x : HL (cAny : Ctr).as) => ([(62, 2, Ann.by [.keep 0, .keep 1, .keep 7, .one 8 (.d I64)] (fun s g => 0 ≤ g.1 ∧ g.1 ≤ x.1.length ∧ (x.1.take g.1.toNat).all okB = true) (fun s g => (x.1.length - g.1).toNat))])) x) ([]) []
noncomputable def ps11 : List (Nat × Prc) := ps10
noncomputable def ks11 : List (Nat × Ctr) := ks10
noncomputable def kf11 : List (Nat × Nat × Ctr) := (39, 40, cAny) :: kf10
noncomputable def fx_wrong (x : HL (cWrong : Ctr).as) : Fx := mkFxX Try.prog env ks11 kf11 (ps11) knAll kcAll ([]) ([]) []
noncomputable def ps12 : List (Nat × Prc) := ps11
noncomputable def ks12 : List (Nat × Ctr) := (13, cWrong) :: ks11
noncomputable def kf12 : List (Nat × Nat × Ctr) := kf11
noncomputable def fx_way (x : HL (cWay : Ctr).as) : Fx := mkFxX Try.prog env ks12 kf12 (ps12) knAll kcAll ((fun (x : HL (cWay : Ctr).as) => ([(10, 5, Ann.by [.one 0 (.d I64), .one 6 (.d I64), .keep 18, .keep 19, .one 20 (.d I64)] (fun s g => 0 ≤ g.2.2.1 ∧ g.2.2.1 ≤ x.2.1.length ∧ walk x.1 (x.2.1.take g.2.2.1.toNat) = (g.2.1, g.1) ∧ okB g.1 = true ∧ 0 ≤ g.2.1 ∧ g.2.1 ≤ g.2.2.1 * 1099511627776) (fun s g => (x.2.1.length - g.2.2.1).toNat))])) x) ([]) [(10,10000014),(10,10000015)]
noncomputable def ps13 : List (Nat × Prc) := ps12
noncomputable def ks13 : List (Nat × Ctr) := (10, cWay) :: ks12
noncomputable def kf13 : List (Nat × Nat × Ctr) := kf12
noncomputable def fx_sway (x : HL (cSway : Ctr).as) : Fx := mkFxX Try.prog env ks13 kf13 (ps13) knAll kcAll ((fun (x : HL (cSway : Ctr).as) => ([(14, 5, Ann.by [.one 0 (.d I64), .one 5 (.d I64), .keep 14, .keep 15, .one 16 (.d I64)] (fun s g => 0 ≤ g.2.2.1 ∧ g.2.2.1 ≤ x.2.1.length + 1 ∧ walk x.1 ((x.1 :: x.2.1).take g.2.2.1.toNat) = (g.2.1, g.1) ∧ ((x.1 :: x.2.1).take g.2.2.1.toNat).all okB = true ∧ (g.2.2.1 = 0 ∨ okB g.1 = true) ∧ 0 ≤ g.2.1 ∧ g.2.1 ≤ g.2.2.1 * 1099511627776) (fun s g => (x.2.1.length + 1 - g.2.2.1).toNat))])) x) ([]) []
noncomputable def ps14 : List (Nat × Prc) := ps13
noncomputable def ks14 : List (Nat × Ctr) := (14, cSway) :: ks13
noncomputable def kf14 : List (Nat × Nat × Ctr) := kf13
noncomputable def fx_sshort (x : HL (cSshort : Ctr).as) : Fx := mkFxX Try.prog env ks14 kf14 (ps14) knAll kcAll ((fun (x : HL (cSshort : Ctr).as) => ([(15, 3, Ann.by [.bk, .keep 0, .one 6 (.row I64), .one 7 (.row I64), .keep 10, .keep 11, .one 12 (.d I64)] (fun s g => 0 ≤ g.2.2.1 ∧ g.2.2.1 ≤ x.2.1.length ∧ g.1 = (x.2.1.take g.2.2.1.toNat).filter (fun y => decide (x.1 ≤ y)) ∧ g.2.1 = (x.2.1.take g.2.2.1.toNat).filter (fun y => decide (y < x.1))) (fun s g => (x.2.1.length - g.2.2.1).toNat))])) x) ([]) []
noncomputable def ps15 : List (Nat × Prc) := ps14
noncomputable def ks15 : List (Nat × Ctr) := (18, cSshort) :: ks14
noncomputable def kf15 : List (Nat × Nat × Ctr) := kf14
noncomputable def fx_parts (x : HL (cParts : Ctr).as) : Fx := mkFxX Try.prog env ks15 kf15 (ps15) knAll kcAll ((fun (x : HL (cParts : Ctr).as) => ([(15, 3, Ann.by [.keep 0, .one 6 (.row I64), .one 7 (.row I64), .keep 10, .keep 11, .one 12 (.d I64)] (fun s g => 0 ≤ g.2.2.1 ∧ g.2.2.1 ≤ x.2.1.length ∧ g.1 = (x.2.1.take g.2.2.1.toNat).filter (fun y => decide (x.1 ≤ y)) ∧ g.2.1 = (x.2.1.take g.2.2.1.toNat).filter (fun y => decide (y < x.1))) (fun s g => (x.2.1.length - g.2.2.1).toNat))])) x) ([]) []
noncomputable def ps16 : List (Nat × Prc) := ps15
noncomputable def ks16 : List (Nat × Ctr) := (15, cParts) :: ks15
noncomputable def kf16 : List (Nat × Nat × Ctr) := kf15
noncomputable def fx_sweep (x : HL (cSweep : Ctr).as) : Fx := mkFxX Try.prog env ks16 kf16 (ps16) knAll kcAll ([]) ([]) []
noncomputable def ps17 : List (Nat × Prc) := ps16
noncomputable def ks17 : List (Nat × Ctr) := (11, cSweep) :: ks16
noncomputable def kf17 : List (Nat × Nat × Ctr) := kf16
noncomputable def fx_short (x : HL (cShort : Ctr).as) : Fx := mkFxX Try.prog env ks17 kf17 (ps17) knAll kcAll ([]) ([]) [(12,23000058),(12,23000061)]
noncomputable def ps18 : List (Nat × Prc) := ps17
noncomputable def ks18 : List (Nat × Ctr) := (12, cShort) :: ks17
noncomputable def kf18 : List (Nat × Nat × Ctr) := kf17
noncomputable def fx_law (x : HL (cLaw : Ctr).as) : Fx := mkFxX Try.prog env ks18 kf18 (ps18) knAll kcAll ([]) ([]) [(4,10000103),(4,10000104),(4,10000105),(4,10000111),(4,10000112)]
noncomputable def ps19 : List (Nat × Prc) := ps18
noncomputable def ks19 : List (Nat × Ctr) := (4, cLaw) :: ks18
noncomputable def kf19 : List (Nat × Nat × Ctr) := kf18
noncomputable def ksAll : List (Nat × Ctr) := ks19
end Go.Proofs.Ytpnmfoojmodnlaa.Lifts
