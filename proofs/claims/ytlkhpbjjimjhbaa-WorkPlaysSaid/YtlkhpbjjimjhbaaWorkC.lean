/-
  WorkPlays: what each function computes (its contract), and what its loops keep.
-/
import Derived.Test.YtlkhpbjjimjhbaaEnv
import Derived.Test.YtlkhpbjjimjhbaaSxZA
namespace Go.Proofs.Ytlkhpbjjimjhbaa.Work
open Go.Sx
set_option maxRecDepth 100000
set_option linter.unusedVariables false

/- What waits, what was begun (below 0: nothing), what was done. -/
abbrev WS := List Int × Int × List Int
def lst (s : WS) : List Int := if 0 ≤ s.2.1 then s.2.1 :: s.1 else s.1
/- Up to the last x, and what is behind it. -/
def cutL (x : Int) : List Int → List Int × List Int
  | [] => ([], [])
  | a :: l => if a = x ∨ x ∈ l then (a :: (cutL x l).1, (cutL x l).2) else ([], a :: l)
def flush (x : Int) (s : WS) : WS := if x ∈ lst s then ((cutL x (lst s)).2, -1, s.2.2 ++ (cutL x (lst s)).1) else s
def idx (l : List Int) (x : Int) : Int := match l.idxOf? x with
  | some i => (i : Int)
  | none => -1
def step (s : WS) (o : Int × Int) : WS × Int :=
  if o.1 < 1 ∨ 5 < o.1 then (s, 5)
  else if (o.1 ≠ 2 ∧ o.1 ≠ 3) ∧ (o.2 < 0 ∨ 99 < o.2) then (s, 2)
  else if o.1 = 1 then (if 0 ≤ idx s.1 o.2 then (s, 6) else ((s.1 ++ [o.2], s.2.1, s.2.2), 0))
  else if o.1 = 2 then (if 0 ≤ s.2.1 then (s, 6) else if s.1.length = 0 then (s, 3) else ((s.1.drop 1, s.1.getD 0 0, s.2.2), 0))
  else if o.1 = 3 then (if s.2.1 < 0 then (s, 3) else ((s.1, -1, s.2.2 ++ [s.2.1]), 0))
  else if o.1 = 4 then (if idx s.1 o.2 < 0 then (s, 3) else ((s.1.take (idx s.1 o.2).toNat ++ s.1.drop ((idx s.1 o.2).toNat + 1), s.2.1, s.2.2), 0))
  else (flush o.2 s, 0)
def one (s : WS × List Int) (o : Int × Int) : WS × List Int := ((step s.1 o).1, s.2 ++ [(step s.1 o).2])
def pl (ops : List (Int × Int)) : WS × List Int := ops.foldl one (([], -1, []), [])
def good (s : WS) (k : Int) : Prop := (∀ a ∈ s.1, 0 ≤ a ∧ a ≤ 99) ∧ (-1 ≤ s.2.1 ∧ s.2.1 ≤ 99) ∧ ((lst s).length + s.2.2.length : Int) ≤ k
def onOf (s : WS) : Int := if 0 ≤ s.2.1 then 1 else 0
def play (ops : List (Int × Int)) : List Int × List Int × List Int × Int × Int × Unit :=
  if 400 < ops.length then ([], [], [], 0, 2, ()) else ((pl ops).2, (pl ops).1.2.2, (pl ops).1.1, (pl ops).1.2.1, 0, ())
def mea (q : WS) : Nat := 2 * q.1.length + (if 0 ≤ q.2.1 then 1 else 0)
def lastAt (x : Int) (l : List Int) (m j : Int) : Prop := (-1 ≤ m ∧ m < j) ∧ cutL x (l.take j.toNat) = (l.take (m + 1).toNat, (l.take j.toNat).drop (m + 1).toNat)
@[reducible] def cIndex : Ctr := ⟨[.sl I64, I64], [I64], fun _ => True, fun x => (idx x.1 x.2.1, ()), false⟩
@[reducible] def cContains : Ctr := ⟨[.sl I64, I64], [.bool], fun _ => True, fun x => (decide (0 ≤ idx x.1 x.2.1), ()), false⟩
@[reducible] def cClone : Ctr := ⟨[.sl I64], [.sl I64], fun x => x.1.length * 8 ≤ 140737488355328, fun x => (x.1, ()), true⟩
@[reducible] def cEqual : Ctr := ⟨[.sl I64, .sl I64], [.bool], fun _ => True, fun x => (decide (x.1 = x.2.1), ()), false⟩
@[reducible] def cPlay : Ctr := ⟨[.sl tyWorkOp], [.sl I64, .sl I64, .sl I64, I64, I64], fun _ => True, fun x => play x.1, false⟩
@[reducible] def cLaw : Ctr := ⟨[.sl tyWorkOp], [.bool], fun _ => True, fun _ => (true, ()), false⟩


noncomputable def ks0 : List (Nat × Ctr) := []
noncomputable def fx_index (x : HL (cIndex : Ctr).as) : Fx := mkFx Try.prog env ks0 ((fun (x : HL (cIndex : Ctr).as) => ([(50, 2, Ann.by [.keep 0, .keep 1, .keep 7, .one 8 (.d I64)] (fun s g => 0 ≤ g.1 ∧ g.1 ≤ x.1.length ∧ (x.1.take g.1.toNat).idxOf? x.2.1 = none) (fun s g => (x.1.length - g.1).toNat))])) x) ([]) []
noncomputable def ks1 : List (Nat × Ctr) := (50, cIndex) :: ks0
noncomputable def fx_contains (x : HL (cContains : Ctr).as) : Fx := mkFx Try.prog env ks1 ([]) ([]) []
noncomputable def ks2 : List (Nat × Ctr) := (79, cContains) :: ks1
noncomputable def fx_clone (x : HL (cClone : Ctr).as) : Fx := mkFx Try.prog env ks2 ([]) ([]) []
noncomputable def ks3 : List (Nat × Ctr) := (49, cClone) :: ks2
noncomputable def fx_equal (x : HL (cEqual : Ctr).as) : Fx := mkFx Try.prog env ks3 ((fun (x : HL (cEqual : Ctr).as) => ([(17, 4, Ann.by [.keep 0, .keep 1, .keep 12, .one 13 (.d I64)] (fun s g => 0 ≤ g.1 ∧ g.1 ≤ x.1.length ∧ x.1.take g.1.toNat = x.2.1.take g.1.toNat) (fun s g => (x.1.length - g.1).toNat))])) x) ([]) []
noncomputable def ks4 : List (Nat × Ctr) := (17, cEqual) :: ks3
noncomputable def fx_equali (x : HL (cEqual : Ctr).as) : Fx := mkFx Try.prog env ks4 ((fun (x : HL (cEqual : Ctr).as) => ([(18, 4, Ann.by [.keep 0, .keep 1, .keep 12, .one 13 (.d I64)] (fun s g => 0 ≤ g.1 ∧ g.1 ≤ x.1.length ∧ x.1.take g.1.toNat = x.2.1.take g.1.toNat) (fun s g => (x.1.length - g.1).toNat))])) x) ([]) []
noncomputable def ks5 : List (Nat × Ctr) := (18, cEqual) :: ks4
noncomputable def fx_play (x : HL (cPlay : Ctr).as) : Fx := mkFx Try.prog env ks5 ((fun (x : HL (cPlay : Ctr).as) => ([(15, 6, Ann.by [.box 7 [.row I64, .d I64, .row I64], .one 8 (.row I64), .keep 16, .keep 17, .one 18 (.d I64)] (fun s g => 0 ≤ g.2.2.1 ∧ g.2.2.1 ≤ x.1.length ∧ pl (x.1.take g.2.2.1.toNat) = (g.1, g.2.1) ∧ good g.1 g.2.2.1 ∧ (g.2.1.length : Int) = g.2.2.1) (fun s g => (x.1.length - g.2.2.1).toNat)),
  (48, 21, Ann.by [.bk, .box 0 [.row I64, .d I64, .row I64], .keep 3] (fun s g => flush (s.bxd tyWorkOp 3 0).2 g.1 = flush (s.bxd tyWorkOp 3 0).2 (s.bxd (.sl I64) 0 0, s.bxd I64 0 1, s.bxd (.sl I64) 0 2) ∧ (∀ a ∈ g.1.1, 0 ≤ a) ∧ ((lst g.1).length + g.1.2.2.length : Int) ≤ 400) (fun s g => mea g.1))])) x) ([]) [(86,3000028),(86,4000005),(88,3000022),(88,3000025),(88,3000031),(88,4000006)]
noncomputable def ks6 : List (Nat × Ctr) := (15, cPlay) :: ks5
noncomputable def fx_lplay (x : HL (cPlay : Ctr).as) : Fx := mkFx Try.prog env ks6 ((fun (x : HL (cPlay : Ctr).as) => ([(16, 7, Ann.by [.one 7 (.row I64), .one 8 (.row I64), .one 9 (.d I64), .one 10 (.row I64), .keep 22, .keep 23, .one 24 (.d I64)] (fun s g => 0 ≤ g.2.2.2.2.1 ∧ g.2.2.2.2.1 ≤ x.1.length ∧ ((pl (x.1.take g.2.2.2.2.1.toNat)).2 = g.2.2.2.1 ∧ good (pl (x.1.take g.2.2.2.2.1.toNat)).1 g.2.2.2.2.1) ∧ (g.2.2.2.1.length : Int) = g.2.2.2.2.1 ∧ g.1 = lst (pl (x.1.take g.2.2.2.2.1.toNat)).1 ∧ g.2.1 = (pl (x.1.take g.2.2.2.2.1.toNat)).1.2.2 ∧ g.2.2.1 = onOf (pl (x.1.take g.2.2.2.2.1.toNat)).1) (fun s g => (x.1.length - g.2.2.2.2.1).toNat)),
  (16, 13, Ann.by [.keep 7, .keep 8, .keep 9, .keep 10, .keep 12, .keep 13, .one 15 (.d I64), .keep 22, .keep 23, .keep 24, .keep 36, .keep 37, .one 38 (.d I64)] (fun s g => 0 ≤ g.2.1 ∧ g.2.1 ≤ (s.dat (.sl I64) 36).length ∧ lastAt (s.bxd tyWorkOp 12 0).2 (s.dat (.sl I64) 36) g.1 g.2.1) (fun s g => ((s.dat (.sl I64) 36).length - g.2.1).toNat))])) x) ([]) [(16,3000030),(16,3000055),(16,3000060),(16,4000019),(16,7000055),(16,3000153),(16,4000036),(16,3000161),(16,3000166)]
noncomputable def ks7 : List (Nat × Ctr) := (16, cPlay) :: ks6
noncomputable def fx_plays (x : HL (cLaw : Ctr).as) : Fx := mkFx Try.prog env ks7 ([]) ([]) []
noncomputable def ks8 : List (Nat × Ctr) := (4, cLaw) :: ks7
noncomputable def ksAll : List (Nat × Ctr) := ks8
end Go.Proofs.Ytlkhpbjjimjhbaa.Work
