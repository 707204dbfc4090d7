/-
  RankPlays: what each function computes (its contract), and what its loops keep.
-/
import Derived.Test.YtpmfgdedkmddlaaEnv
import Derived.Test.YtpmfgdedkmddlaaSxZA
namespace Go.Proofs.Ytpmfgdedkmddlaa.Rankp
open Go.Sx
set_option maxRecDepth 100000
set_option linter.unusedVariables false

abbrev RO := Int × Int × Int
abbrev RS := List Int × List Int
def idx (l : List Int) (x : Int) : Int := match l.idxOf? x with
  | some i => (i : Int)
  | none => -1
def mx (l : List Int) : Int := (l.drop 1).foldl max (l.getD 0 0)
/- Who has a lock above this one? -/
def above (h : List Int) (t l : Int) : Bool := (List.range h.length).any fun (i : Nat) => decide (h.getD i 0 = t ∧ l < (i : Int))
/- A thread's locks, of the first k. -/
def held (h : List Int) (t : Int) (k : Nat) : List Int := ((List.range k).filter fun (i : Nat) => decide (h.getD i 0 = t)).map Int.ofNat
def rone (rk : Bool) (s : RS) (o : RO) : RS × Int :=
  if o.1 ≠ 1 ∧ o.1 ≠ 2 then (s, 5)
  else if o.2.1 < 0 ∨ (s.2.length : Int) ≤ o.2.1 ∨ o.2.2 < 0 ∨ (s.1.length : Int) ≤ o.2.2 then (s, 2)
  else if o.1 = 2 then (if s.1.getD o.2.2.toNat 0 ≠ o.2.1 ∨ 0 ≤ s.2.getD o.2.1.toNat 0 then (s, 3) else ((s.1.set o.2.2.toNat (-1), s.2), 0))
  else if s.1.getD o.2.2.toNat 0 = o.2.1 then (s, 6)
  else if rk = true ∧ above s.1 o.2.1 o.2.2 = true then (s, 8)
  else if 0 ≤ s.2.getD o.2.1.toNat 0 ∧ s.2.getD o.2.1.toNat 0 ≠ o.2.2 then (s, 3)
  else if 0 ≤ s.1.getD o.2.2.toNat 0 then ((s.1, s.2.set o.2.1.toNat o.2.2), 7)
  else ((s.1.set o.2.2.toNat o.2.1, s.2.set o.2.1.toNat (-1)), 0)
def rst (rk : Bool) (s : RS × List Int) (o : RO) : RS × List Int := ((rone rk s.1 o).1, s.2 ++ [(rone rk s.1 o).2])
def rrun (n m : Int) (rk : Bool) (ops : List RO) : RS × List Int := ops.foldl (rst rk) ((List.replicate m.toNat (-1), List.replicate n.toNat (-1)), [])
def rplay (n m : Int) (rk : Bool) (ops : List RO) : List Int × List Int × List Int × Int × Unit :=
  if n < 1 ∨ 16 < n ∨ m < 1 ∨ 16 < m then ([], [], [], 2, ()) else ((rrun n m rk ops).2, (rrun n m rk ops).1.1, (rrun n m rk ops).1.2, 0, ())
/- A map has just what is not below 0 in the list. -/
def MR (m : List (Int × Int)) (l : List Int) : Prop := (m.map Prod.fst).Nodup ∧ ∀ k : Int, mget? I64 m k = if 0 ≤ k ∧ k < l.length ∧ 0 ≤ l.getD k.toNat 0 then some (l.getD k.toNat 0) else none
def lm (m : List (Int × Int)) (n : Nat) : List Int := (List.range n).map fun (i : Nat) => if mhas I64 m (i : Int) = true then mval I64 m (i : Int) else -1
def bad (rk : Bool) (o : RO) (e : Int × Int) : Prop := rk = true ∧ e.2 = o.2.1 ∧ o.2.2 < e.1
@[reducible] def cIndex : Ctr := ⟨[.sl I64, I64], [I64], fun _ => True, fun x => (idx x.1 x.2.1, ()), false⟩
@[reducible] def cContains : Ctr := ⟨[.sl I64, I64], [.bool], fun _ => True, fun x => (decide (0 ≤ idx x.1 x.2.1), ()), false⟩
@[reducible] def cMax : Ctr := ⟨[.sl I64], [I64], fun x => 0 < x.1.length, fun x => (mx x.1, ()), false⟩
@[reducible] def cMul : Ctr := ⟨[U64, U64], [U64, U64], fun x => x.1 = 1 ∧ 0 ≤ x.2.1 ∧ x.2.1 ≤ 16, fun x => ((0 : Int), x.2.1, ()), false⟩
@[reducible] def cRep : Ctr := ⟨[.sl I64, I64], [.sl I64], fun x => x.1.length = 1 ∧ 1 ≤ x.2.1 ∧ x.2.1 ≤ 16, fun x => (List.replicate x.2.1.toNat (x.1.getD 0 0), ()), true⟩
@[reducible] def cEqual : Ctr := ⟨[.sl I64, .sl I64], [.bool], fun _ => True, fun x => (decide (x.1 = x.2.1), ()), false⟩
@[reducible] def cPlay : Ctr := ⟨[I64, I64, Bo, .sl tyRankOp], [.sl I64, .sl I64, .sl I64, I64], fun x => x.2.2.2.1.length * 24 ≤ 140737488355328, fun x => rplay x.1 x.2.1 x.2.2.1 x.2.2.2.1, false⟩
@[reducible] def cRows : Ctr := ⟨[.mp .i64 I64, I64], [.sl I64], fun x => 1 ≤ x.2.1 ∧ x.2.1 ≤ 16, fun x => (lm x.1 x.2.1.toNat, ()), true⟩
@[reducible] def cLaw : Ctr := ⟨[I64, I64, Bo, .sl tyRankOp], [.bool], fun x => x.2.2.2.1.length * 24 ≤ 140737488355328, fun _ => (true, ()), false⟩


noncomputable def ks0 : List (Nat × Ctr) := []
noncomputable def fx_index (x : HL (cIndex : Ctr).as) : Fx := mkFx Try.prog env ks0 ((fun (x : HL (cIndex : Ctr).as) => ([(61, 2, Ann.by [.keep 0, .keep 1, .keep 7, .one 8 (.d I64)] (fun s g => 0 ≤ g.1 ∧ g.1 ≤ x.1.length ∧ (x.1.take g.1.toNat).idxOf? x.2.1 = none) (fun s g => (x.1.length - g.1).toNat))])) x) ([]) []
noncomputable def ks1 : List (Nat × Ctr) := (61, cIndex) :: ks0
noncomputable def fx_contains (x : HL (cContains : Ctr).as) : Fx := mkFx Try.prog env ks1 ([]) ([]) []
noncomputable def ks2 : List (Nat × Ctr) := (44, cContains) :: ks1
noncomputable def fx_max (x : HL (cMax : Ctr).as) : Fx := mkFx Try.prog env ks2 ((fun (x : HL (cMax : Ctr).as) => ([(46, 5, Ann.by [.keep 0, .one 3 (.d I64), .one 4 (.d I64)] (fun s g => 1 ≤ g.2.1 ∧ g.2.1 ≤ x.1.length ∧ g.1 = mx (x.1.take g.2.1.toNat)) (fun s g => (x.1.length - g.2.1).toNat))])) x) ([]) []
noncomputable def ks3 : List (Nat × Ctr) := (46, cMax) :: ks2
noncomputable def fx_mul (x : HL (cMul : Ctr).as) : Fx := mkFx Try.prog env ks3 ([]) ([]) []
noncomputable def ks4 : List (Nat × Ctr) := (47, cMul) :: ks3
noncomputable def fx_rep (x : HL (cRep : Ctr).as) : Fx := mkFx Try.prog env ks4 ((fun (x : HL (cRep : Ctr).as) => ([(26, 8, Ann.by [.own 7 I64, .one 8 (.d I64)] (fun s g => (1 ≤ g.2.1 ∧ g.2.1 ≤ x.2.1) ∧ g.1.length = x.2.1.toNat ∧ g.1.take g.2.1.toNat = List.replicate g.2.1.toNat (x.1.getD 0 0)) (fun s g => (x.2.1 - g.2.1).toNat))])) x) ([]) [(26,3000041),(26,3000044)]
noncomputable def ks5 : List (Nat × Ctr) := (26, cRep) :: ks4
noncomputable def fx_equale (x : HL (cEqual : Ctr).as) : Fx := mkFx Try.prog env ks5 ((fun (x : HL (cEqual : Ctr).as) => ([(10, 4, Ann.by [.keep 0, .keep 1, .keep 12, .one 13 (.d I64)] (fun s g => 0 ≤ g.1 ∧ g.1 ≤ x.1.length ∧ x.1.take g.1.toNat = x.2.1.take g.1.toNat) (fun s g => (x.1.length - g.1).toNat))])) x) ([]) []
noncomputable def ks6 : List (Nat × Ctr) := (10, cEqual) :: ks5
noncomputable def fx_equali (x : HL (cEqual : Ctr).as) : Fx := mkFx Try.prog env ks6 ((fun (x : HL (cEqual : Ctr).as) => ([(11, 4, Ann.by [.keep 0, .keep 1, .keep 12, .one 13 (.d I64)] (fun s g => 0 ≤ g.1 ∧ g.1 ≤ x.1.length ∧ x.1.take g.1.toNat = x.2.1.take g.1.toNat) (fun s g => (x.1.length - g.1).toNat))])) x) ([]) []
noncomputable def ks7 : List (Nat × Ctr) := (11, cEqual) :: ks6
noncomputable def fx_play (x : HL (cPlay : Ctr).as) : Fx := mkFx Try.prog env ks7 ((fun (x : HL (cPlay : Ctr).as) => ([(8, 6, Ann.by [.keep 2, .box 12 [.row I64, .row I64], .one 13 (.row I64), .keep 38, .keep 39, .one 40 (.d I64)] (fun s g => 0 ≤ g.2.2.1 ∧ g.2.2.1 ≤ x.2.2.2.1.length ∧ rrun x.1 x.2.1 x.2.2.1 (x.2.2.2.1.take g.2.2.1.toNat) = (g.1, g.2.1)) (fun s g => (x.2.2.2.1.length - g.2.2.1).toNat)),
  (48, 3, Ann.by [.bk, .keep 1, .one 5 (.row I64), .keep 11, .keep 12, .one 13 (.d I64)] (fun s g => 0 ≤ g.2.1 ∧ g.2.1 ≤ (s.dat (.sl I64) 11).length ∧ g.1 = held (s.dat (.sl I64) 11) (s.dat I64 1) g.2.1.toNat) (fun s g => ((s.dat (.sl I64) 11).length - g.2.1).toNat))])) x) ([]) []
noncomputable def ks8 : List (Nat × Ctr) := (8, cPlay) :: ks7
noncomputable def fx_rows (x : HL (cRows : Ctr).as) : Fx := mkFx Try.prog env ks8 ((fun (x : HL (cRows : Ctr).as) => ([(29, 3, Ann.by [.keep 0, .one 5 (.row I64), .keep 9, .one 10 (.d I64)] (fun s g => 0 ≤ g.2.1 ∧ g.2.1 ≤ x.2.1 ∧ g.1 = lm x.1 g.2.1.toNat) (fun s g => (x.2.1 - g.2.1).toNat))])) x) ([]) []
noncomputable def ks9 : List (Nat × Ctr) := (29, cRows) :: ks8
noncomputable def fx_hplay (x : HL (cPlay : Ctr).as) : Fx := mkFx Try.prog env ks9 ((fun (x : HL (cPlay : Ctr).as) => ([(9, 7, Ann.by [.keep 4, .keep 5, .box 12 [.map .i64 I64], .box 13 [.map .i64 I64], .keep 14, .one 15 (.row I64), .keep 36, .keep 37, .one 38 (.d I64)] (fun s g => 0 ≤ g.2.2.2.1 ∧ g.2.2.2.1 ≤ x.2.2.2.1.length ∧ ∃ h w, rrun x.1 x.2.1 x.2.2.1 (x.2.2.2.1.take g.2.2.2.1.toNat) = ((h, w), g.2.2.1) ∧ MR g.1 h ∧ MR g.2.1 w) (fun s g => (x.2.2.2.1.length - g.2.2.2.1).toNat)),
  (28, 15, Ann.by [.bk, .keep 3, .keep 4, .keep 5, .keep 6, .keep 9, .keep 10, .keep 11, .itm 81 .i64 I64] (fun s g => (∀ e ∈ g.1, e ∈ s.its I64 81) ∧ ∀ e ∈ s.its I64 81, e ∈ g.1 ∨ ¬ bad (s.bxd Bo 5 0) (s.bxd tyRankOp 6 0) e) (fun s g => g.1.length))])) x) ([]) []
noncomputable def ks10 : List (Nat × Ctr) := (9, cPlay) :: ks9
noncomputable def fx_ranks (x : HL (cLaw : Ctr).as) : Fx := mkFx Try.prog env ks10 ([]) ([]) []
noncomputable def ks11 : List (Nat × Ctr) := (3, cLaw) :: ks10
noncomputable def ksAll : List (Nat × Ctr) := ks11
end Go.Proofs.Ytpmfgdedkmddlaa.Rankp
