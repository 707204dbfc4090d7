/-
  SoftRuns: what each function computes (its contract), and what its loops keep.
-/
import Derived.Test.YtmcepjbbbkgfcaaEnv
import Derived.Test.YtmcepjbbbkgfcaaSxZA
namespace Go.Proofs.Ytmcepjbbbkgfcaa.Soft
open Go.Sx
set_option maxRecDepth 100000
set_option linter.unusedVariables false

abbrev RL := List (Int × Int)
/- Which are pending, and what has run. -/
abbrev PR := List Bool × List Int
def softB (n : Int) : Bool := decide (0 ≤ n) && decide (n < 8)
def rz (l : RL) (i : Int) : Int × Int := l.getD i.toNat (0, 0)
def okAt (l : RL) (i : Int) : Prop := softB (rz l i).2 = true ∧ (0 ≤ (rz l i).1 ∧ (rz l i).1 ≤ 400) ∧ (0 < i → (rz l (i - 1)).1 ≤ (rz l i).1)
def okP (p : List Int) : Prop := ∀ n ∈ p, softB n = true
def okR (l : RL) (k : Int) : Prop := ∀ i : Int, 0 ≤ i → i < k → okAt l i
def Right (p : List Int) (l : RL) : Prop := okP p ∧ okR l l.length ∧ l.length ≤ 400
open Classical in
noncomputable def right (p : List Int) (l : RL) : Bool := decide (Right p l)
open Classical in
noncomputable def rightTo (p : List Int) (l : RL) (k : Int) : Bool := decide (l.length ≤ 400 ∧ okP p ∧ okR l k)
open Classical in
noncomputable def pendTo (p : List Int) (l : RL) (k : Int) : Bool := decide (l.length ≤ 400 ∧ okP (p.take k.toNat))
def nob : List Bool := [false, false, false, false, false, false, false, false]
/- All that come behind m runs. -/
def come1 (m : Int) (p : List Bool) (r : Int × Int) : List Bool := if r.1 = m then p.set r.2.toNat true else p
def come (m : Int) (l : RL) (p : List Bool) : List Bool := l.foldl (come1 m) p
def pend (l : List Int) : List Bool := l.foldl (fun p n => p.set n.toNat true) nob
/- One that ran, of those that were pending. -/
def rst (l : RL) (now : List Bool) (q : PR) (n : Nat) : PR := if now.getD n false = true then (come (q.2.length + 1 : Int) l q.1, q.2 ++ [(n : Int)]) else q
def rnd (l : RL) (now : List Bool) (ran : List Int) (k : Nat) : PR := (List.range k).foldl (rst l now) (nob, ran)
def sst (p : List Int) (l : RL) : Nat → PR
  | 0 => (come 0 l (pend p), [])
  | n + 1 => rnd l (sst p l n).1 (sst p l n).2 8
def fin (p : List Int) (l : RL) : Nat := ((List.range 1000).find? (fun n => !((sst p l n).1.contains true))).getD 0
def ahd (p : List Int) (l : RL) (rounds : Int) (n : Nat) : Int := ((sst p l (min n rounds.toNat)).2.length : Int)
noncomputable def run (p : List Int) (l : RL) (rounds : Int) : List Int × Int × Int × Unit :=
  if right p l = false then ([], 0, 1, ()) else if rounds < 0 ∨ 400 < rounds then ([], 0, 2, ()) else ((sst p l (fin p l)).2, ahd p l rounds (fin p l), 0, ())
/- What the program does: the raises that are still to come. -/
def left (l : RL) (m : Int) : RL := l.dropWhile (fun r => decide (r.1 < m))
def rai (n : Int) : List Bool → RL → List Bool × RL
  | p, [] => (p, [])
  | p, r :: t => if r.1 ≤ n then rai n (p.set r.2.toNat true) t else (p, r :: t)
/- A map that has just the pending ones. -/
def MR (m : List (Int × Bool)) (p : List Bool) : Prop := p.length = 8 ∧ ∀ k : Int, mget? .bool m k = if 0 ≤ k ∧ k < 8 ∧ p.getD k.toNat false = true then some true else none
/- How much is still to be done. -/
def todo (l : RL) (q : PR) : Nat := (left l (q.2.length + 1)).length + q.1.count true
/- Ahead of round n, some was pending in each one before. -/
def going (p : List Int) (l : RL) (n : Int) : Prop := (n + todo l (sst p l n.toNat) ≤ 408) ∧ ∀ i : Nat, (i : Int) < n → (sst p l i).1.contains true = true
@[reducible] def cEqual : Ctr := ⟨[.sl I64, .sl I64], [.bool], fun _ => True, fun x => (decide (x.1 = x.2.1), ()), false⟩
@[reducible] def cSoft : Ctr := ⟨[I64], [.bool], fun _ => True, fun x => (softB x.1, ()), false⟩
@[reducible] def cIndex : Ctr := ⟨[.sl Bo, Bo], [I64], fun x => x.2.1 = true, fun x => ((match x.1.idxOf? true with | some i => (i : Int) | none => -1), ()), false⟩
@[reducible] def cContains : Ctr := ⟨[.sl Bo, Bo], [.bool], fun x => x.2.1 = true, fun x => (x.1.contains true, ()), false⟩
@[reducible] noncomputable def cRight : Ctr := ⟨[.sl I64, .sl tyRaise], [.bool], fun _ => True, fun x => (right x.1 x.2.1, ()), false⟩
@[reducible] noncomputable def cRun : Ctr := ⟨[.sl I64, .sl tyRaise, I64], [.sl I64, I64, I64], fun _ => True, fun x => run x.1 x.2.1 x.2.2.1, false⟩
@[reducible] noncomputable def cJRun : Ctr := ⟨[.sl I64, .sl tyRaise, I64], [.sl I64, I64], fun x => Right x.1 x.2.1 ∧ x.1.length * 8 ≤ 140737488355328, fun x => ((sst x.1 x.2.1 (fin x.1 x.2.1)).2, ahd x.1 x.2.1 x.2.2.1 (fin x.1 x.2.1), ()), false⟩
@[reducible] def cLaw : Ctr := ⟨[.sl I64, .sl tyRaise, I64], [.bool], fun x => x.1.length * 8 ≤ 140737488355328, fun _ => (true, ()), false⟩


noncomputable def ks0 : List (Nat × Ctr) := []
noncomputable def fx_equal (x : HL (cEqual : Ctr).as) : Fx := mkFx Try.prog env ks0 ((fun (x : HL (cEqual : Ctr).as) => ([(18, 4, Ann.by [.keep 0, .keep 1, .keep 12, .one 13 (.d I64)] (fun s g => 0 ≤ g.1 ∧ g.1 ≤ x.1.length ∧ x.1.take g.1.toNat = x.2.1.take g.1.toNat) (fun s g => (x.1.length - g.1).toNat))])) x) ([]) []
noncomputable def ks1 : List (Nat × Ctr) := (18, cEqual) :: ks0
noncomputable def fx_index (x : HL (cIndex : Ctr).as) : Fx := mkFx Try.prog env ks1 ((fun (x : HL (cIndex : Ctr).as) => ([(91, 2, Ann.by [.keep 0, .keep 1, .keep 7, .one 8 (.d I64)] (fun s g => 0 ≤ g.1 ∧ g.1 ≤ x.1.length ∧ (x.1.take g.1.toNat).contains true = false) (fun s g => (x.1.length - g.1).toNat))])) x) ([]) []
noncomputable def ks2 : List (Nat × Ctr) := (91, cIndex) :: ks1
noncomputable def fx_contains (x : HL (cContains : Ctr).as) : Fx := mkFx Try.prog env ks2 ([]) ([]) []
noncomputable def ks3 : List (Nat × Ctr) := (75, cContains) :: ks2
noncomputable def fx_soft (x : HL (cSoft : Ctr).as) : Fx := mkFx Try.prog env ks3 ([]) ([]) []
noncomputable def ks4 : List (Nat × Ctr) := (57, cSoft) :: ks3
noncomputable def fx_right (x : HL (cRight : Ctr).as) : Fx := mkFx Try.prog env ks4 ((fun (x : HL (cRight : Ctr).as) => ([(24, 3, Ann.by [.keep 1, .keep 5, .keep 10, .keep 11, .one 12 (.d I64)] (fun s g => 0 ≤ g.1 ∧ g.1 ≤ x.1.length ∧ okP (x.1.take g.1.toNat)) (fun s g => (x.1.length - g.1).toNat)),
  (24, 9, Ann.by [.keep 1, .keep 5, .keep 21, .keep 22, .one 23 (.d I64)] (fun s g => 0 ≤ g.1 ∧ g.1 ≤ x.2.1.length ∧ okP x.1 ∧ okR x.2.1 g.1) (fun s g => (x.2.1.length - g.1).toNat))])) x) ([]) []
noncomputable def ks5 : List (Nat × Ctr) := (24, cRight) :: ks4
noncomputable def fx_jright (x : HL (cRight : Ctr).as) : Fx := mkFx Try.prog env ks5 ((fun (x : HL (cRight : Ctr).as) => ([(23, 3, Ann.by [.keep 1, .one 5 (.d Bo), .keep 14, .keep 15, .one 16 (.d I64)] (fun s g => 0 ≤ g.2.1 ∧ g.2.1 ≤ x.1.length ∧ g.1 = pendTo x.1 x.2.1 g.2.1) (fun s g => (x.1.length - g.2.1).toNat)),
  (23, 9, Ann.by [.one 5 (.d Bo), .one 8 (.d I64), .keep 30, .keep 31, .one 32 (.d I64)] (fun s g => 0 ≤ g.2.2.1 ∧ g.2.2.1 ≤ x.2.1.length ∧ g.1 = rightTo x.1 x.2.1 g.2.2.1 ∧ g.2.1 = (if g.2.2.1 = 0 then 0 else (rz x.2.1 (g.2.2.1 - 1)).1)) (fun s g => (x.2.1.length - g.2.2.1).toNat))])) x) ([]) []
noncomputable def ks6 : List (Nat × Ctr) := (23, cRight) :: ks5
noncomputable def fx_run (x : HL (cRun : Ctr).as) : Fx := mkFx Try.prog env ks6 ((fun (x : HL (cRun : Ctr).as) => ([(22, 7, Ann.by [.keep 2, .box 9 [.d (.arr 8 Bo), .keep, .keep], .keep 27, .keep 28, .one 29 (.d I64)] (fun s g => 0 ≤ g.2.1 ∧ g.2.1 ≤ x.1.length ∧ g.1.1 = pend (x.1.take g.2.1.toNat) ∧ Right x.1 x.2.1 ∧ 0 ≤ x.2.2.1 ∧ x.2.2.1 ≤ 400) (fun s g => (x.1.length - g.2.1).toNat)),
  (54, 0, Ann.by [.bk, .box 0 [.d (.arr 8 Bo), .d (.sl tyRaise), .keep]] (fun s g => rai ((s.bxd (.sl I64) 0 2).length : Int) g.1.1 g.1.2.1 = rai ((s.bxd (.sl I64) 0 2).length : Int) (s.bxd (.arr 8 Bo) 0 0) (s.bxd (.sl tyRaise) 0 1) ∧ (∀ r ∈ g.1.2.1, softB r.2 = true)) (fun s g => g.1.2.1.length)),
  (22, 14, Ann.by [.keep 2, .box 9 [.d (.arr 8 Bo), .d (.sl tyRaise), .row I64], .one 12 (.d I64), .one 13 (.d I64)] (fun s g => 0 ≤ g.2.2.1 ∧ Right x.1 x.2.1 ∧ (0 ≤ x.2.2.1 ∧ x.2.2.1 ≤ 400) ∧ (g.1.1, g.1.2.2) = sst x.1 x.2.1 g.2.2.1.toNat ∧ g.1.2.1 = left x.2.1 (g.1.2.2.length + 1) ∧ g.2.1 = ahd x.1 x.2.1 x.2.2.1 g.2.2.1.toNat ∧ going x.1 x.2.1 g.2.2.1) (fun s g => 408 - g.2.2.1.toNat)),
  (56, 3, Ann.by [.bk, .box 0 [.d (.arr 8 Bo), .d (.sl tyRaise), .row I64], .keep 13, .one 14 (.d I64)] (fun s g => 0 ≤ g.2.1 ∧ g.2.1 ≤ 8 ∧ (g.1.1, g.1.2.2) = rnd x.2.1 (s.bxd (.arr 8 Bo) 2 0) (s.bxd (.sl I64) 0 2) g.2.1.toNat ∧ g.1.2.1 = left x.2.1 (g.1.2.2.length + 1)) (fun s g => (8 - g.2.1).toNat))])) x) ([]) []
noncomputable def ks7 : List (Nat × Ctr) := (22, cRun) :: ks6
noncomputable def fx_jrun (x : HL (cJRun : Ctr).as) : Fx := mkFx Try.prog env ks7 ((fun (x : HL (cJRun : Ctr).as) => ([(25, 3, Ann.by [.keep 2, .keep 4, .one 8 (.map .i64 Bo), .keep 18, .keep 19, .one 20 (.d I64)] (fun s g => 0 ≤ g.2.1 ∧ g.2.1 ≤ x.1.length ∧ MR g.1 (pend (x.1.take g.2.1.toNat)) ∧ (g.1.length : Int) ≤ g.2.1) (fun s g => (x.1.length - g.2.1).toNat)),
  (58, 1, Ann.by [.bk, .keep 0, .ownm 1 .i64 Bo, .keep 7, .keep 8, .one 9 (.d I64)] (fun s g => 0 ≤ g.2.1 ∧ g.2.1 ≤ x.2.1.length ∧ (∀ p, MR (s.mp Bo 1) p → MR g.1 (come (s.dat I64 0) (x.2.1.take g.2.1.toNat) p)) ∧ (g.1.length : Int) ≤ (s.mp Bo 1).length + g.2.1) (fun s g => (x.2.1.length - g.2.1).toNat)),
  (25, 12, Ann.by [.keep 2, .one 8 (.map .i64 Bo), .one 11 (.row I64), .keep 12, .one 13 (.d I64), .one 14 (.d I64)] (fun s g => 0 ≤ g.2.2.2.1 ∧ MR g.1 (sst x.1 x.2.1 g.2.2.2.1.toNat).1 ∧ g.2.1 = (sst x.1 x.2.1 g.2.2.2.1.toNat).2 ∧ g.2.2.1 = ahd x.1 x.2.1 x.2.2.1 g.2.2.2.1.toNat ∧ going x.1 x.2.1 g.2.2.2.1 ∧ (g.1.length : Int) ≤ x.1.length + 4000) (fun s g => 408 - g.2.2.2.1.toNat)),
  (25, 16, Ann.by [.keep 2, .keep 8, .one 11 (.row I64), .keep 12, .keep 13, .keep 14, .ownm 15 .i64 Bo, .one 37 (.d I64)] (fun s g => 0 ≤ g.2.2.1 ∧ g.2.2.1 ≤ 8 ∧ (∃ p, MR g.2.1 p ∧ (p, g.1) = rnd x.2.1 (sst x.1 x.2.1 (s.dat I64 14).toNat).1 (sst x.1 x.2.1 (s.dat I64 14).toNat).2 g.2.2.1.toNat) ∧ (g.2.1.length : Int) ≤ 400 * g.2.2.1) (fun s g => (8 - g.2.2.1).toNat))])) x) ([]) []
noncomputable def ks8 : List (Nat × Ctr) := (25, cJRun) :: ks7
noncomputable def fx_softs (x : HL (cLaw : Ctr).as) : Fx := mkFx Try.prog env ks8 ([]) ([]) []
noncomputable def ks9 : List (Nat × Ctr) := (5, cLaw) :: ks8
noncomputable def ksAll : List (Nat × Ctr) := ks9
end Go.Proofs.Ytmcepjbbbkgfcaa.Soft
