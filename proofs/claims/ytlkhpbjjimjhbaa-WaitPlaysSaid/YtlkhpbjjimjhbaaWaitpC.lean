/-
  WaitPlays: what each function computes (its contract), and what its loops keep.
-/
import Derived.Test.YtlkhpbjjimjhbaaEnv
import Derived.Test.YtlkhpbjjimjhbaaSxZA
namespace Go.Proofs.Ytlkhpbjjimjhbaa.Waitp
open Go.Sx
set_option maxRecDepth 100000
set_option linter.unusedVariables false

/- The line: each thread, and its state (0 up, 1 sleeps, 2 woken). -/
abbrev OL := List (Int × Int)
abbrev OS := OL × Int × List Int
def idx (l : List Int) (x : Int) : Int := match l.idxOf? x with
  | some i => (i : Int)
  | none => -1
def pos (l : OL) (t : Int) : Int := idx (l.map Prod.fst) t
def st (l : OL) (t : Int) : Int := match l.find? (fun e => decide (e.1 = t)) with
  | some e => e.2
  | none => -1
def setSt (l : OL) (t v : Int) : OL := l.map (fun e => if e.1 = t then (e.1, v) else e)
def del (l : OL) (t : Int) : OL := l.filter (fun e => !decide (e.1 = t))
def wake1 : OL → OL
  | [] => []
  | e :: l => if e.2 = 2 then e :: wake1 l else (e.1, 2) :: l
def wakeN (l : OL) : Nat → OL
  | 0 => l
  | n + 1 => wake1 (wakeN l n)
def wakeAll (l : OL) : OL := l.map (fun e => (e.1, 2))
def step (s : OS) (o : Int × Int) : OS × Int :=
  if o.1 < 1 ∨ 5 < o.1 then (s, 5)
  else if o.2 < 0 ∨ 63 < o.2 then (s, 2)
  else if o.1 = 1 then (if st s.1 o.2 = 1 then (s, 7) else if pos s.1 o.2 < 0 then ((s.1 ++ [(o.2, 0)], s.2.1, s.2.2), 0) else ((setSt s.1 o.2 0, s.2.1, s.2.2), 0))
  else if o.1 = 2 then (if st s.1 o.2 = 1 then (s, 7) else if pos s.1 o.2 < 0 then (s, 3) else if s.2.1 = 0 then (s, 6)
    else ((if 0 < s.2.1 - 1 then wake1 (del s.1 o.2) else del s.1 o.2, s.2.1 - 1, s.2.2 ++ [o.2]), 0))
  else if o.1 = 3 then (if st s.1 o.2 = 1 then (s, 7) else if pos s.1 o.2 < 0 then (s, 3) else if st s.1 o.2 = 0 ∧ s.2.1 = 0 then ((setSt s.1 o.2 1, s.2.1, s.2.2), 0) else (s, 0))
  else if o.1 = 4 then (if 400 ≤ s.2.1 then (s, 4) else ((wake1 s.1, s.2.1 + 1, s.2.2), 0))
  else ((wakeAll s.1, s.2.1, s.2.2), 0)
def one (s : OS × List Int) (o : Int × Int) : OS × List Int := ((step s.1 o).1, s.2 ++ [(step s.1 o).2])
def pl (ops : List (Int × Int)) : OS × List Int := ops.foldl one (([], 0, []), [])
def okE (e : Int × Int) : Prop := (0 ≤ e.1 ∧ e.1 ≤ 63) ∧ 0 ≤ e.2 ∧ e.2 ≤ 2
def okL (l : OL) : Prop := (l.map Prod.fst).Nodup ∧ ∀ e ∈ l, okE e
def good (s : OS) (k : Int) : Prop := okL s.1 ∧ (0 ≤ s.2.1 ∧ s.2.1 ≤ 400) ∧ (s.2.2.length : Int) ≤ k
def sleepers (l : OL) : List Int := (l.filter (fun e => decide (e.2 = 1))).map Prod.fst
def play (ops : List (Int × Int)) : List Int × List Int × List Int × Int × Unit := ((pl ops).2, (pl ops).1.2.2, sleepers (pl ops).1.1, (pl ops).1.2.1, ())
/- A map has just those whose state is v. -/
def MS (m : List (Int × Bool)) (l : OL) (v : Int) : Prop := (m.map Prod.fst).Nodup ∧ ∀ k : Int, mget? .bool m k = if st l k = v then some true else none
def MQ (w : List Int) (a b : List (Int × Bool)) (l : OL) : Prop := w = l.map Prod.fst ∧ MS a l 2 ∧ MS b l 1 ∧ okL l
/- What a closure says of y: it is that one; or it is not in the map. -/
def capF (o : Option Int) (m : List (Int × Bool)) (y : Int) : Bool := match o with
  | some t => decide (y = t)
  | none => !(mval .bool m y)
@[reducible] def cIndex : Ctr := ⟨[.sl I64, I64], [I64], fun _ => True, fun x => (idx x.1 x.2.1, ()), false⟩
@[reducible] def cContains : Ctr := ⟨[.sl I64, I64], [.bool], fun _ => True, fun x => (decide (0 ≤ idx x.1 x.2.1), ()), false⟩
@[reducible] def cClone : Ctr := ⟨[.sl I64], [.sl I64], fun x => x.1.length * 8 ≤ 140737488355328, fun x => (x.1, ()), true⟩
@[reducible] def cEqual : Ctr := ⟨[.sl I64, .sl I64], [.bool], fun _ => True, fun x => (decide (x.1 = x.2.1), ()), false⟩
@[reducible] def cPlay : Ctr := ⟨[.sl tyWaitOp], [.sl I64, .sl I64, .sl I64, I64], fun x => x.1.length * 16 ≤ 140737488355328, fun x => play x.1, false⟩
@[reducible] def cLaw : Ctr := ⟨[.sl tyWaitOp], [.bool], fun x => x.1.length * 16 ≤ 140737488355328, fun _ => (true, ()), false⟩


noncomputable def ks0 : List (Nat × Ctr) := []
noncomputable def fx_index (x : HL (cIndex : Ctr).as) : Fx := mkFx Try.prog env ks0 ((fun (x : HL (cIndex : Ctr).as) => ([(50, 2, Ann.by [.keep 0, .keep 1, .keep 7, .one 8 (.d I64)] (fun s g => 0 ≤ g.1 ∧ g.1 ≤ x.1.length ∧ (x.1.take g.1.toNat).idxOf? x.2.1 = none) (fun s g => (x.1.length - g.1).toNat))])) x) ([]) []
noncomputable def ks1 : List (Nat × Ctr) := (50, cIndex) :: ks0
noncomputable def fx_contains (x : HL (cContains : Ctr).as) : Fx := mkFx Try.prog env ks1 ([]) ([]) []
noncomputable def ks2 : List (Nat × Ctr) := (79, cContains) :: ks1
noncomputable def fx_clone (x : HL (cClone : Ctr).as) : Fx := mkFx Try.prog env ks2 ([]) ([]) []
noncomputable def ks3 : List (Nat × Ctr) := (49, cClone) :: ks2
noncomputable def fx_equal (x : HL (cEqual : Ctr).as) : Fx := mkFx Try.prog env ks3 ((fun (x : HL (cEqual : Ctr).as) => ([(17, 4, Ann.by [.keep 0, .keep 1, .keep 12, .one 13 (.d I64)] (fun s g => 0 ≤ g.1 ∧ g.1 ≤ x.1.length ∧ x.1.take g.1.toNat = x.2.1.take g.1.toNat) (fun s g => (x.1.length - g.1).toNat))])) x) ([]) []
noncomputable def ks4 : List (Nat × Ctr) := (17, cEqual) :: ks3
noncomputable def fx_equali (x : HL (cEqual : Ctr).as) : Fx := mkFx Try.prog env ks4 ((fun (x : HL (cEqual : Ctr).as) => ([(18, 4, Ann.by [.keep 0, .keep 1, .keep 12, .one 13 (.d I64)] (fun s g => 0 ≤ g.1 ∧ g.1 ≤ x.1.length ∧ x.1.take g.1.toNat = x.2.1.take g.1.toNat) (fun s g => (x.1.length - g.1).toNat))])) x) ([]) []
noncomputable def ks5 : List (Nat × Ctr) := (18, cEqual) :: ks4
noncomputable def fx_play (x : HL (cPlay : Ctr).as) : Fx := mkFx Try.prog env ks5 ((fun (x : HL (cPlay : Ctr).as) => ([(30, 4, Ann.by [.box 6 [.keep], .box 14 [.d I64, .row I64, .map .i64 Bo, .map .i64 Bo, .row I64], .one 7 (.row I64), .keep 15, .keep 16, .one 17 (.d I64)] (fun s g => 0 ≤ g.2.2.2.1 ∧ g.2.2.2.1 ≤ x.1.length ∧ (g.2.2.1.length : Int) = g.2.2.2.1 ∧ ∃ l, pl (x.1.take g.2.2.2.1.toNat) = ((l, g.2.1.1, g.2.1.2.2.2.2), g.2.2.1) ∧ MQ g.2.1.2.1 g.2.1.2.2.1 g.2.1.2.2.2.1 l ∧ good (l, g.2.1.1, g.2.1.2.2.2.2) g.2.2.2.1) (fun s g => (x.1.length - g.2.2.2.1).toNat)),
  (104, 2, Ann.by [.bk, .keep 0, .keep 1, .keep 7, .one 8 (.d I64)] (fun s g => 0 ≤ g.1 ∧ g.1 ≤ (s.dat (.sl I64) 0).length ∧ ((s.dat (.sl I64) 0).take g.1.toNat).any (fun y => capF (s.capI 1) (s.capM 1 3) y) = false) (fun s g => ((s.dat (.sl I64) 0).length - g.1).toNat)),
  (66, 5, Ann.by [.bk, .own 0 I64, .keep 1, .one 5 (.d I64), .one 6 (.d I64)] (fun s g => (0 ≤ g.2.1 ∧ g.2.1 ≤ g.2.2.1 ∧ g.2.2.1 ≤ (s.dat (.sl I64) 0).length) ∧ g.1.length = (s.dat (.sl I64) 0).length ∧ g.1.take g.2.1.toNat = ((s.dat (.sl I64) 0).take g.2.2.1.toNat).filter (fun y => !(capF (s.capI 1) (s.capM 1 3) y)) ∧ g.1.drop g.2.2.1.toNat = (s.dat (.sl I64) 0).drop g.2.2.1.toNat) (fun s g => ((s.dat (.sl I64) 0).length - g.2.2.1).toNat)),
  (103, 2, Ann.by [.bk, .keep 0, .keep 8, .keep 9, .one 10 (.d I64)] (fun s g => 0 ≤ g.1 ∧ g.1 ≤ (s.dat (.sl I64) 8).length ∧ ((s.dat (.sl I64) 8).take g.1.toNat).all (fun y => mval .bool (s.bxm Bo 0 2) y) = true) (fun s g => ((s.dat (.sl I64) 8).length - g.1).toNat)),
  (65, 38, Ann.by [.bk, .box 0 [.keep, .keep, .map .i64 Bo, .map .i64 Bo, .keep]] (fun s g => ∀ l, MQ (s.bxd (.sl I64) 0 1) (s.bxm Bo 0 2) (s.bxm Bo 0 3) l → ∃ l', MQ (s.bxd (.sl I64) 0 1) g.1.2.2.1 g.1.2.2.2.1 l' ∧ wakeAll l' = wakeAll l) (fun s g => ((s.bxd (.sl I64) 0 1).filter (fun y => !(mval .bool g.1.2.2.1 y))).length))])) x) ([]) [(66,3000038),(66,3000041),(66,4000012),(66,7000038)]
noncomputable def ks6 : List (Nat × Ctr) := (30, cPlay) :: ks5
noncomputable def fx_oplay (x : HL (cPlay : Ctr).as) : Fx := mkFx Try.prog env ks6 ((fun (x : HL (cPlay : Ctr).as) => ([(31, 7, Ann.by [.box 6 [.row tyowaits], .one 7 (.row I64), .one 8 (.row I64), .keep 9, .one 10 (.d I64), .keep 11, .keep 22, .keep 23, .one 24 (.d I64)] (fun s g => 0 ≤ g.2.2.2.2.1 ∧ g.2.2.2.2.1 ≤ x.1.length ∧ (g.2.1.length : Int) = g.2.2.2.2.1 ∧ pl (x.1.take g.2.2.2.2.1.toNat) = ((g.1, g.2.2.2.1, g.2.2.1), g.2.1) ∧ good (g.1, g.2.2.2.1, g.2.2.1) g.2.2.2.2.1) (fun s g => (x.1.length - g.2.2.2.2.1).toNat)),
  (31, 11, Ann.by [.keep 6, .keep 7, .keep 8, .keep 9, .keep 10, .keep 11, .keep 13, .one 14 (.d I64), .keep 15, .keep 22, .keep 23, .keep 24, .keep 28, .keep 29, .one 30 (.d I64)] (fun s g => 0 ≤ g.2.1 ∧ g.2.1 ≤ (s.dat (.sl tyowaits) 28).length ∧ g.1 = (if pos (s.dat (.sl tyowaits) 28) (s.bxd tyWaitOp 13 0).2 < g.2.1 then pos (s.dat (.sl tyowaits) 28) (s.bxd tyWaitOp 13 0).2 else -1)) (fun s g => ((s.dat (.sl tyowaits) 28).length - g.2.1).toNat)),
  (31, 18, Ann.by [.box 6 [.row tyowaits], .keep 7, .keep 8, .keep 9, .keep 10, .keep 11, .keep 15, .keep 22, .keep 23, .keep 24, .keep 56, .one 57 (.d I64)] (fun s g => 0 ≤ g.2.1 ∧ g.2.1 ≤ (s.bxd (.sl tyowaits) 6 0).length ∧ g.1 = wakeN (s.bxd (.sl tyowaits) 6 0) g.2.1.toNat) (fun s g => ((s.bxd (.sl tyowaits) 6 0).length - g.2.1).toNat)),
  (31, 52, Ann.by [.keep 7, .keep 8, .one 9 (.row I64), .keep 10, .keep 194, .keep 195, .one 196 (.d I64)] (fun s g => 0 ≤ g.2.1 ∧ g.2.1 ≤ (s.dat (.sl tyowaits) 194).length ∧ g.1 = sleepers ((s.dat (.sl tyowaits) 194).take g.2.1.toNat)) (fun s g => ((s.dat (.sl tyowaits) 194).length - g.2.1).toNat)),
  (68, 1, Ann.by [.bk, .keep 0, .keep 3, .one 4 (.d I64)] (fun s g => 0 ≤ g.1 ∧ g.1 ≤ (s.bxd (.sl tyowaits) 0 0).length ∧ ((s.bxd (.sl tyowaits) 0 0).take g.1.toNat).all (fun e => decide (e.2 = 2)) = true) (fun s g => ((s.bxd (.sl tyowaits) 0 0).length - g.1).toNat))])) x) ([]) [(31,3000162),(31,3000167)]
noncomputable def ks7 : List (Nat × Ctr) := (31, cPlay) :: ks6
noncomputable def fx_plays (x : HL (cLaw : Ctr).as) : Fx := mkFx Try.prog env ks7 ([]) ([]) []
noncomputable def ks8 : List (Nat × Ctr) := (8, cLaw) :: ks7
noncomputable def ksAll : List (Nat × Ctr) := ks8
end Go.Proofs.Ytlkhpbjjimjhbaa.Waitp
