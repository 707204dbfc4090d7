/-
  SpreadPlans: what each function computes (its contract), and what its loops keep.
-/
import Derived.Test.YtpmfgdedkmddlaaEnv
import Derived.Test.YtpmfgdedkmddlaaSxZA
namespace Go.Proofs.Ytpmfgdedkmddlaa.Plans
open Go.Sx
set_option maxRecDepth 100000
set_option linter.unusedVariables false

def inS (a : Int) : Bool := decide (0 ≤ a) && decide (a ≤ 1073741824)
def wt (w : List Int) (a : Int) : Int := w.getD a.toNat 0
/- The greater one comes first; of the same size, as they come. -/
def leT (w : List Int) (a b : Int) : Bool := decide (wt w b < wt w a) || (decide (wt w a = wt w b) && decide (a ≤ b))
def sortT (w : List Int) (l : List Int) : List Int := l.mergeSort (leT w)
def seg (d : List Int) (a b : Int) : List Int := (d.take b.toNat).drop a.toNat
/- A part of a list, sorted; a part, turned. -/
def srt (w d : List Int) (a b : Int) : List Int := d.take a.toNat ++ (sortT w (seg d a b) ++ d.drop b.toNat)
def rot (d : List Int) (a m b : Int) : List Int := d.take a.toNat ++ (seg d m b ++ (seg d a m ++ d.drop b.toNat))
def swp (d : List Int) (i j : Int) : List Int := (d.set i.toNat (d.getD j.toNat 0)).set j.toNat (d.getD i.toNat 0)
def swaps (d : List Int) (a b : Int) : Nat → List Int
  | 0 => d
  | n + 1 => swp (swaps d a b n) (a + n) (b + n)
def okW (w d : List Int) : Prop := w.length ≤ 400 ∧ w.all inS = true ∧ ∀ x ∈ d, 0 ≤ x ∧ x < w.length
def up (l : List Int) : Prop := l.Pairwise (· < ·)
def down (w : List Int) (l : List Int) : Prop := l.Pairwise (fun a b => leT w a b = true ∧ a ≠ b)
/- An element moved to the left, to the right. -/
def mvL (d : List Int) (j i : Int) : List Int := d.take j.toNat ++ (d.getD i.toNat 0 :: (seg d j i ++ d.drop (i + 1).toNat))
def mvR (d : List Int) (i k : Int) : List Int := d.take i.toNat ++ (seg d (i + 1) (k + 1) ++ (d.getD i.toNat 0 :: d.drop (k + 1).toNat))
/- b's goes ahead of a's. -/
def ahd (w : List Int) (b a : Int) : Prop := wt w a < wt w b
/- The blocks of n are sorted, from block q0 on; those up to a. -/
def blkT (w x d : List Int) (n q : Int) : Prop := seg d (q * n) (min ((q + 1) * n) x.length) = sortT w (seg x (q * n) (min ((q + 1) * n) x.length))
def wrong (l : List Int) (c : Int) : Int := if c < 1 ∨ 8 < c ∨ 400 < l.length ∨ l.all inS = false then 2 else 0
def mn (l : List Int) : Int := (l.drop 1).foldl min (l.getD 0 0)
def mx (l : List Int) : Int := (l.drop 1).foldl max (l.getD 0 0)
def idx (l : List Int) (x : Int) : Int := match l.idxOf? x with
  | some i => (i : Int)
  | none => -1
def ord (n : Int) : List Int := (List.range n.toNat).map Int.ofNat
/- A piece goes to the core that has the least. -/
def idle (has : List Int) : Nat := (idx has (mn has)).toNat
def plStep (w : List Int) (s : List Int × List Int × Int) (k : Int) : List Int × List Int × Int :=
  (s.1.set k.toNat (idle s.2.1), s.2.1.set (idle s.2.1) (s.2.1.getD (idle s.2.1) 0 + wt w k), max s.2.2 (s.2.1.getD (idle s.2.1) 0 + wt w k))
def plRun (w : List Int) (c : Int) (o : List Int) : List Int × List Int × Int := o.foldl (plStep w) (List.replicate w.length 0, List.replicate c.toNat 0, 0)
def plan (w : List Int) (c : Int) (o : List Int) : (List Int × Int) × Unit := (((plRun w c o).1, (plRun w c o).2.2), ())
def order (w : List Int) (longest : Bool) : List Int := if longest = true then sortT w (ord w.length) else ord w.length
def shared (l : List Int) (c : Int) (longest : Bool) : (List Int × Int) × Int × Unit := if wrong l c ≠ 0 then (([], 0), wrong l c, ()) else ((plan l c (order l longest)).1, 0, ())
/- The first of those ahead of k that has the least. -/
def firstMin (has : List Int) (c k : Int) : Prop := 0 ≤ c ∧ (c < k ∨ c = 0) ∧ (∀ j : Nat, (j : Int) < c → has.getD c.toNat 0 < has.getD j 0) ∧ ∀ j : Nat, (j : Int) < k → has.getD c.toNat 0 ≤ has.getD j 0
/- Of those ahead of k that are not in out: the best one, -1: there is none. -/
def bestOf (w out : List Int) (longest : Bool) (b k : Int) : Prop := (b = -1 ∧ ∀ j : Nat, (j : Int) < k → (j : Int) ∈ out) ∨
  (0 ≤ b ∧ b < k ∧ b ∉ out ∧ ∀ j : Nat, (j : Int) < k → (j : Int) ∉ out → if longest = true then leT w b j = true else b ≤ (j : Int))
@[reducible] def cMin : Ctr := ⟨[.sl I64], [I64], fun x => 0 < x.1.length, fun x => (mn x.1, ()), false⟩
@[reducible] def cIndex : Ctr := ⟨[.sl I64, I64], [I64], fun _ => True, fun x => (idx x.1 x.2.1, ()), false⟩
@[reducible] def cContains : Ctr := ⟨[.sl I64, I64], [.bool], fun _ => True, fun x => (decide (0 ≤ idx x.1 x.2.1), ()), false⟩
@[reducible] def cEqual : Ctr := ⟨[.sl I64, .sl I64], [.bool], fun _ => True, fun x => (decide (x.1 = x.2.1), ()), false⟩
@[reducible] def cAny : Ctr := ⟨[.sl I64], [.bool], fun _ => True, fun x => (!(x.1.all inS), ()), false⟩
@[reducible] def cWrong : Ctr := ⟨[.sl I64, I64], [I64], fun _ => True, fun x => (wrong x.1 x.2.1, ()), false⟩
@[reducible] def cOrd : Ctr := ⟨[I64], [.sl I64], fun x => 0 ≤ x.1 ∧ x.1 ≤ 400, fun x => (ord x.1, ()), true⟩
@[reducible] def cPlan : Ctr := ⟨[.sl I64, I64, .sl I64], [tyPlan], fun x => (1 ≤ x.2.1 ∧ x.2.1 ≤ 8) ∧ x.2.2.1.length ≤ 400 ∧ okW x.1 x.2.2.1, fun x => plan x.1 x.2.1 x.2.2.1, false⟩
@[reducible] def cOrder : Ctr := ⟨[.sl I64, .bool], [.sl I64], fun x => x.1.length ≤ 400, fun x => (order x.1 x.2.1, ()), false⟩
@[reducible] def cSame : Ctr := ⟨[tyPlan, tyPlan], [.bool], fun _ => True, fun x => (decide (x.1 = x.2.1), ()), false⟩
@[reducible] def cList : Ctr := ⟨[.sl I64, I64], [tyPlan, I64], fun _ => True, fun x => shared x.1 x.2.1 false, false⟩
@[reducible] def cLongest : Ctr := ⟨[.sl I64, I64], [tyPlan, I64], fun _ => True, fun x => shared x.1 x.2.1 true, false⟩
@[reducible] def cLaw : Ctr := ⟨[.sl I64, I64], [.bool], fun _ => True, fun _ => (true, ()), false⟩
def apart (l m : List Int) : Prop := ∀ x ∈ l, ∀ y ∈ m, x < y
@[reducible] def cvs : St := canon [.one (.row 6), .one .any, .one .any, .one .any, .one (.clo 5)] [(6, .row I64 []), (5, .clo 41 [.ptr 4 0]), (4, .box [.any])] 7
@[reducible] def cvs4 : St := canon [.one (.row 6), .one .any, .one .any, .one (.clo 5)] [(6, .row I64 []), (5, .clo 41 [.ptr 4 0]), (4, .box [.any])] 7
@[reducible] def cvs3 : St := canon [.one (.row 6), .one .any, .one (.clo 5)] [(6, .row I64 []), (5, .clo 41 [.ptr 4 0]), (4, .box [.any])] 7
@[reducible] def pCmp : Prc := Prc.by 3 (canon [.one .any, .one .any, .one (.ptr 1 0)] [(1, .box [.any])] 2) [.one 0 (.d I64), .one 1 (.d I64), .box 2 [.d (.sl I64)]]
  (fun g => okW g.2.2.1 [g.1, g.2.1]) [I64] (fun g => (g, wt g.2.2.1 g.2.1 - wt g.2.2.1 g.1, ()))
@[reducible] def pSwap : Prc := Prc.by 5 cvs [.own 0 I64, .one 1 (.d I64), .one 2 (.d I64), .one 3 (.d I64), .keep 4, .cb 4 0 [.d (.sl I64)]]
  (fun g => (0 ≤ g.2.1 ∧ 0 ≤ g.2.2.2.1 ∧ g.2.1 + g.2.2.2.1 ≤ g.2.2.1 ∧ g.2.2.1 + g.2.2.2.1 ≤ g.1.length) ∧ g.1.length ≤ 400) []
  (fun g => ((swaps g.1 g.2.1 g.2.2.1 g.2.2.2.1.toNat, g.2), ()))
@[reducible] def pRot : Prc := Prc.by 5 cvs [.own 0 I64, .one 1 (.d I64), .one 2 (.d I64), .one 3 (.d I64), .keep 4, .cb 4 0 [.d (.sl I64)]]
  (fun g => (0 ≤ g.2.1 ∧ g.2.1 < g.2.2.1 ∧ g.2.2.1 < g.2.2.2.1 ∧ g.2.2.2.1 ≤ g.1.length) ∧ g.1.length ≤ 400) []
  (fun g => ((rot g.1 g.2.1 g.2.2.1 g.2.2.2.1, g.2), ()))
@[reducible] def pIns : Prc := Prc.by 4 cvs4 [.own 0 I64, .one 1 (.d I64), .one 2 (.d I64), .keep 3, .cb 3 0 [.d (.sl I64)]]
  (fun g => (0 ≤ g.2.1 ∧ g.2.1 ≤ g.2.2.1 ∧ g.2.2.1 ≤ g.1.length ∧ g.1.length ≤ 400) ∧ okW g.2.2.2.1 g.1 ∧ up (seg g.1 g.2.1 g.2.2.1)) []
  (fun g => ((srt g.2.2.2.1 g.1 g.2.1 g.2.2.1, g.2), ()))
@[reducible] def pSym : Prc := Prc.by 5 cvs [.own 0 I64, .one 1 (.d I64), .one 2 (.d I64), .one 3 (.d I64), .keep 4, .cb 4 0 [.d (.sl I64)]]
  (fun g => (0 ≤ g.2.1 ∧ g.2.1 < g.2.2.1 ∧ g.2.2.1 < g.2.2.2.1 ∧ g.2.2.2.1 ≤ g.1.length ∧ g.1.length ≤ 400) ∧ okW g.2.2.2.2.1 g.1 ∧ down g.2.2.2.2.1 (seg g.1 g.2.1 g.2.2.1) ∧ down g.2.2.2.2.1 (seg g.1 g.2.2.1 g.2.2.2.1) ∧ apart (seg g.1 g.2.1 g.2.2.1) (seg g.1 g.2.2.1 g.2.2.2.1)) []
  (fun g => ((srt g.2.2.2.2.1 g.1 g.2.1 g.2.2.2.1, g.2), ()))
@[reducible] def cvs2 : St := canon [.one (.row 6), .one (.clo 5)] [(6, .row I64 []), (5, .clo 41 [.ptr 4 0]), (4, .box [.any])] 7
@[reducible] def pSort : Prc := Prc.by 2 cvs2 [.own 0 I64, .keep 1, .cb 1 0 [.d (.sl I64)]] (fun g => g.1.length ≤ 400 ∧ okW g.2.1 g.1 ∧ up g.1) [] (fun g => ((sortT g.2.1 g.1, g.2), ()))
@[reducible] def pStable : Prc := Prc.by 3 cvs3 [.own 0 I64, .one 1 (.d I64), .keep 2, .cb 2 0 [.d (.sl I64)]]
  (fun g => (g.2.1 = g.1.length ∧ g.1.length ≤ 400) ∧ okW g.2.2.1 g.1 ∧ up g.1) []
  (fun g => ((sortT g.2.2.1 g.1, g.2), ()))


noncomputable def ks0 : List (Nat × Ctr) := []
noncomputable def kf0 : List (Nat × Nat × Ctr) := []
noncomputable def ps0 : List (Nat × Prc) := []
noncomputable def fx_cmp (x : (pCmp : Prc).G) : Fx := mkFxG Try.prog env ks0 kf0 (ps0) ([]) ([]) []
noncomputable def ps1 : List (Nat × Prc) := (41, pCmp) :: ps0
noncomputable def ks1 : List (Nat × Ctr) := ks0
noncomputable def kf1 : List (Nat × Nat × Ctr) := kf0
noncomputable def fx_swap (x : (pSwap : Prc).G) : Fx := mkFxG Try.prog env ks1 kf1 (ps1) ((fun (x : (pSwap : Prc).G) => ([(75, 1, Ann.by [.bk, .own 0 I64, .keep 1, .keep 2, .keep 3, .keep 4, .one 10 (.d I64)] (fun s g => 0 ≤ g.2.1 ∧ g.2.1 ≤ x.2.2.2.1 ∧ g.1 = swaps x.1 x.2.1 x.2.2.1 g.2.1.toNat) (fun s g => (x.2.2.2.1 - g.2.1).toNat))])) x) ([]) []
noncomputable def ps2 : List (Nat × Prc) := (75, pSwap) :: ps1
noncomputable def ks2 : List (Nat × Ctr) := ks1
noncomputable def kf2 : List (Nat × Nat × Ctr) := kf1
noncomputable def fx_rot (x : (pRot : Prc).G) : Fx := mkFxG Try.prog env ks2 kf2 (ps2) ((fun (x : (pRot : Prc).G) => ([(73, 2, Ann.by [.bk, .own 0 I64, .keep 1, .keep 2, .keep 3, .keep 4, .one 10 (.d I64), .one 11 (.d I64)] (fun s g => (1 ≤ g.2.1 ∧ 1 ≤ g.2.2.1 ∧ g.2.1 ≤ x.2.2.1 - x.2.1 ∧ g.2.2.1 ≤ x.2.2.2.1 - x.2.2.1) ∧ g.1.length = x.1.length ∧ rot g.1 (x.2.2.1 - g.2.1) x.2.2.1 (x.2.2.1 + g.2.2.1) = rot x.1 x.2.1 x.2.2.1 x.2.2.2.1) (fun s g => (g.2.1 + g.2.2.1).toNat))])) x) ([]) []
noncomputable def ps3 : List (Nat × Prc) := (73, pRot) :: ps2
noncomputable def ks3 : List (Nat × Ctr) := ks2
noncomputable def kf3 : List (Nat × Nat × Ctr) := kf2
noncomputable def fx_ins (x : (pIns : Prc).G) : Fx := mkFxG Try.prog env ks3 kf3 (ps3) ((fun (x : (pIns : Prc).G) => ([(68, 1, Ann.by [.bk, .own 0 I64, .keep 1, .keep 2, .keep 3, .one 8 (.d I64)] (fun s g => x.2.1 + 1 ≤ g.2.1 ∧ (g.2.1 ≤ x.2.2.1 ∨ g.2.1 = x.2.1 + 1) ∧ g.1 = srt x.2.2.2.1 x.1 x.2.1 g.2.1) (fun s g => (x.2.2.1 - g.2.1).toNat)),
  (68, 4, Ann.by [.bk, .own 0 I64, .keep 1, .keep 2, .keep 3, .keep 8, .one 9 (.d I64)] (fun s g => x.2.1 ≤ g.2.1 ∧ g.2.1 ≤ s.dat I64 8 ∧ g.1 = mvL (s.dat (.sl I64) 0) g.2.1 (s.dat I64 8) ∧ ∀ y ∈ seg (s.dat (.sl I64) 0) g.2.1 (s.dat I64 8), ahd x.2.2.2.1 ((s.dat (.sl I64) 0).getD (s.dat I64 8).toNat 0) y) (fun s g => g.2.1.toNat))])) x) ([]) [(68,9000004),(68,8000032)]
noncomputable def ps4 : List (Nat × Prc) := (68, pIns) :: ps3
noncomputable def ks4 : List (Nat × Ctr) := ks3
noncomputable def kf4 : List (Nat × Nat × Ctr) := kf3
noncomputable def fx_sym (x : (pSym : Prc).G) : Fx := mkFxG Try.prog env ks4 kf4 ((69, (pSym : Prc).sub fun y => (fun y => (y.2.2.2.1 - y.2.1).toNat) y < (fun y => (y.2.2.2.1 - y.2.1).toNat) x) :: ps4) ((fun (x : (pSym : Prc).G) => ([(69, 3, Ann.by [.bk, .keep 0, .keep 1, .keep 2, .keep 3, .keep 4, .one 10 (.d I64), .one 11 (.d I64)] (fun s g => x.2.2.1 ≤ g.1 ∧ g.1 ≤ g.2.1 ∧ g.2.1 ≤ x.2.2.2.1 ∧ (∀ k, x.2.2.1 ≤ k → k < g.1 → ahd x.2.2.2.2.1 (x.1.getD k.toNat 0) (x.1.getD x.2.1.toNat 0)) ∧ ∀ k, g.2.1 ≤ k → k < x.2.2.2.1 → ¬ ahd x.2.2.2.2.1 (x.1.getD k.toNat 0) (x.1.getD x.2.1.toNat 0)) (fun s g => (g.2.1 - g.1).toNat)),
  (69, 9, Ann.by [.bk, .own 0 I64, .keep 1, .keep 2, .keep 3, .keep 4, .keep 10, .one 13 (.d I64)] (fun s g => x.2.1 ≤ g.2.1 ∧ g.2.1 + 1 ≤ s.dat I64 10 ∧ g.1 = mvR x.1 x.2.1 g.2.1) (fun s g => (s.dat I64 10 - g.2.1).toNat)),
  (69, 15, Ann.by [.bk, .keep 0, .keep 1, .keep 2, .keep 3, .keep 4, .one 14 (.d I64), .one 15 (.d I64)] (fun s g => x.2.1 ≤ g.1 ∧ g.1 ≤ g.2.1 ∧ g.2.1 ≤ x.2.2.1 ∧ (∀ k, x.2.1 ≤ k → k < g.1 → ¬ ahd x.2.2.2.2.1 (x.1.getD x.2.2.1.toNat 0) (x.1.getD k.toNat 0)) ∧ ∀ k, g.2.1 ≤ k → k < x.2.2.1 → ahd x.2.2.2.2.1 (x.1.getD x.2.2.1.toNat 0) (x.1.getD k.toNat 0)) (fun s g => (g.2.1 - g.1).toNat)),
  (69, 21, Ann.by [.bk, .own 0 I64, .keep 1, .keep 2, .keep 3, .keep 4, .keep 14, .one 17 (.d I64)] (fun s g => s.dat I64 14 ≤ g.2.1 ∧ g.2.1 ≤ x.2.2.1 ∧ g.1 = mvL x.1 g.2.1 x.2.2.1) (fun s g => (g.2.1 - s.dat I64 14).toNat)),
  (69, 33, Ann.by [.bk, .keep 0, .keep 1, .keep 2, .keep 3, .keep 4, .keep 18, .keep 19, .one 20 (.d I64), .one 21 (.d I64), .keep 22] (fun s g => s.dat I64 20 ≤ g.1 ∧ g.1 ≤ g.2.1 ∧ g.2.1 ≤ s.dat I64 21 ∧ (∀ k, s.dat I64 20 ≤ k → k < g.1 → ¬ ahd x.2.2.2.2.1 (x.1.getD (s.dat I64 22 - k).toNat 0) (x.1.getD k.toNat 0)) ∧ ∀ k, g.2.1 ≤ k → k < s.dat I64 21 → ahd x.2.2.2.2.1 (x.1.getD (s.dat I64 22 - k).toNat 0) (x.1.getD k.toNat 0)) (fun s g => (g.2.1 - g.1).toNat))])) x) ((fun (x : (pSym : Prc).G) => ([(69, 32, Ann.by [.bk, .keep 0, .keep 1, .keep 2, .keep 3, .keep 4, .keep 18, .keep 19, .one 20 (.d I64), .one 21 (.d I64)] (fun s g => (s.dat I64 18 < x.2.2.1 ∧ g.1 = s.dat I64 19 - x.2.2.2.1 ∧ g.2.1 = s.dat I64 18) ∨ (¬ s.dat I64 18 < x.2.2.1 ∧ g.1 = x.2.1 ∧ g.2.1 = x.2.2.1)) (fun s g => 0)),
  (69, 41, Ann.by [.bk, .own 0 I64, .keep 1, .keep 2, .keep 3, .keep 4, .keep 18, .keep 20, .keep 24] (fun s g => g.1 = (if s.dat I64 20 < x.2.2.1 ∧ x.2.2.1 < s.dat I64 24 then rot x.1 (s.dat I64 20) x.2.2.1 (s.dat I64 24) else x.1)) (fun s g => 0)),
  (69, 43, Ann.by [.bk, .own 0 I64, .keep 1, .keep 2, .keep 3, .keep 4, .keep 18, .keep 20, .keep 24] (fun s g => g.1 = (if x.2.1 < s.dat I64 20 ∧ s.dat I64 20 < s.dat I64 18 then srt x.2.2.2.2.1 (s.dat (.sl I64) 0) x.2.1 (s.dat I64 18) else s.dat (.sl I64) 0)) (fun s g => 0))])) x) [(69,9000005),(69,8000049),(69,9000017),(69,8000101),(69,9000035),(69,8000169)]
noncomputable def ps5 : List (Nat × Prc) := (69, pSym) :: ps4
noncomputable def ks5 : List (Nat × Ctr) := ks4
noncomputable def kf5 : List (Nat × Nat × Ctr) := kf4
noncomputable def fx_stable (x : (pStable : Prc).G) : Fx := mkFxG Try.prog env ks5 kf5 (ps5) ((fun (x : (pStable : Prc).G) => ([(59, 2, Ann.by [.bk, .own 0 I64, .keep 1, .keep 2, .keep 6, .one 7 (.d I64), .one 8 (.d I64)] (fun s g => 0 ≤ g.2.1 ∧ g.2.1 ≤ x.1.length ∧ g.2.2.1 = g.2.1 + 20 ∧ g.2.1 % 20 = 0 ∧ g.1.length = x.1.length ∧ (∀ q, 0 ≤ q → (q + 1) * 20 ≤ g.2.1 → blkT x.2.2.1 x.1 g.1 20 q) ∧ g.1.drop g.2.1.toNat = x.1.drop g.2.1.toNat) (fun s g => (x.1.length - g.2.1).toNat)),
  (59, 7, Ann.by [.bk, .own 0 I64, .keep 1, .keep 2, .one 6 (.d I64)] (fun s g => 20 ≤ g.2.1 ∧ g.2.1 ≤ 800 ∧ g.1.length = x.1.length ∧ ∀ q, 0 ≤ q → q * g.2.1 ≤ x.1.length → blkT x.2.2.1 x.1 g.1 g.2.1 q) (fun s g => (x.1.length - g.2.1).toNat)),
  (59, 9, Ann.by [.bk, .own 0 I64, .keep 1, .keep 2, .keep 6, .one 7 (.d I64), .one 8 (.d I64)] (fun s g => 0 ≤ g.2.1 ∧ g.2.1 ≤ x.1.length ∧ g.2.2.1 = g.2.1 + 2 * s.dat I64 6 ∧ g.2.1 % (2 * s.dat I64 6) = 0 ∧ g.1.length = x.1.length ∧ (∀ q, 0 ≤ q → (q + 1) * (2 * s.dat I64 6) ≤ g.2.1 → blkT x.2.2.1 x.1 g.1 (2 * s.dat I64 6) q) ∧ ∀ q, g.2.1 ≤ q * s.dat I64 6 → q * s.dat I64 6 ≤ x.1.length → blkT x.2.2.1 x.1 g.1 (s.dat I64 6) q) (fun s g => (x.1.length - g.2.1).toNat))])) x) ([]) []
noncomputable def ps6 : List (Nat × Prc) := (59, pStable) :: ps5
noncomputable def ks6 : List (Nat × Ctr) := ks5
noncomputable def kf6 : List (Nat × Nat × Ctr) := kf5
noncomputable def fx_sort (x : (pSort : Prc).G) : Fx := mkFxG Try.prog env ks6 kf6 (ps6) ([]) ([]) []
noncomputable def ps7 : List (Nat × Prc) := (40, pSort) :: ps6
noncomputable def ks7 : List (Nat × Ctr) := ks6
noncomputable def kf7 : List (Nat × Nat × Ctr) := kf6
noncomputable def fx_equal (x : HL (cEqual : Ctr).as) : Fx := mkFxG Try.prog env ks7 kf7 (ps7) ((fun (x : HL (cEqual : Ctr).as) => ([(11, 4, Ann.by [.keep 0, .keep 1, .keep 12, .one 13 (.d I64)] (fun s g => 0 ≤ g.1 ∧ g.1 ≤ x.1.length ∧ x.1.take g.1.toNat = x.2.1.take g.1.toNat) (fun s g => (x.1.length - g.1).toNat))])) x) ([]) []
noncomputable def ps8 : List (Nat × Prc) := ps7
noncomputable def ks8 : List (Nat × Ctr) := (11, cEqual) :: ks7
noncomputable def kf8 : List (Nat × Nat × Ctr) := kf7
noncomputable def fx_min (x : HL (cMin : Ctr).as) : Fx := mkFxG Try.prog env ks8 kf8 (ps8) ((fun (x : HL (cMin : Ctr).as) => ([(67, 5, Ann.by [.keep 0, .one 3 (.d I64), .one 4 (.d I64)] (fun s g => 1 ≤ g.2.1 ∧ g.2.1 ≤ x.1.length ∧ g.1 = mn (x.1.take g.2.1.toNat)) (fun s g => (x.1.length - g.2.1).toNat))])) x) ([]) []
noncomputable def ps9 : List (Nat × Prc) := ps8
noncomputable def ks9 : List (Nat × Ctr) := (67, cMin) :: ks8
noncomputable def kf9 : List (Nat × Nat × Ctr) := kf8
noncomputable def fx_index (x : HL (cIndex : Ctr).as) : Fx := mkFxG Try.prog env ks9 kf9 (ps9) ((fun (x : HL (cIndex : Ctr).as) => ([(61, 2, Ann.by [.keep 0, .keep 1, .keep 7, .one 8 (.d I64)] (fun s g => 0 ≤ g.1 ∧ g.1 ≤ x.1.length ∧ (x.1.take g.1.toNat).idxOf? x.2.1 = none) (fun s g => (x.1.length - g.1).toNat))])) x) ([]) []
noncomputable def ps10 : List (Nat × Prc) := ps9
noncomputable def ks10 : List (Nat × Ctr) := (61, cIndex) :: ks9
noncomputable def kf10 : List (Nat × Nat × Ctr) := kf9
noncomputable def fx_contains (x : HL (cContains : Ctr).as) : Fx := mkFxG Try.prog env ks10 kf10 (ps10) ([]) ([]) []
noncomputable def ps11 : List (Nat × Prc) := ps10
noncomputable def ks11 : List (Nat × Ctr) := (44, cContains) :: ks10
noncomputable def kf11 : List (Nat × Nat × Ctr) := kf10
noncomputable def fx_any (x : HL (cAny : Ctr).as) : Fx := mkFxG Try.prog env ks11 kf11 (ps11) ((fun (x : HL (cAny : Ctr).as) => ([(60, 2, Ann.by [.keep 0, .keep 1, .keep 7, .one 8 (.d I64)] (fun s g => 0 ≤ g.1 ∧ g.1 ≤ x.1.length ∧ (x.1.take g.1.toNat).all inS = true) (fun s g => (x.1.length - g.1).toNat))])) x) ([]) []
noncomputable def ps12 : List (Nat × Prc) := ps11
noncomputable def ks12 : List (Nat × Ctr) := ks11
noncomputable def kf12 : List (Nat × Nat × Ctr) := (42, 43, cAny) :: kf11
noncomputable def fx_wrong (x : HL (cWrong : Ctr).as) : Fx := mkFxG Try.prog env ks12 kf12 (ps12) ([]) ([]) []
noncomputable def ps13 : List (Nat × Prc) := ps12
noncomputable def ks13 : List (Nat × Ctr) := (20, cWrong) :: ks12
noncomputable def kf13 : List (Nat × Nat × Ctr) := kf12
noncomputable def fx_ewrong (x : HL (cWrong : Ctr).as) : Fx := mkFxG Try.prog env ks13 kf13 (ps13) ((fun (x : HL (cWrong : Ctr).as) => ([(19, 3, Ann.by [.keep 0, .one 5 (.d .bool), .keep 19, .keep 20, .one 21 (.d I64)] (fun s g => 0 ≤ g.2.1 ∧ g.2.1 ≤ x.1.length ∧ (g.1 = true ↔ 1 ≤ x.2.1 ∧ x.2.1 ≤ 8 ∧ x.1.length ≤ 400 ∧ (x.1.take g.2.1.toNat).all inS = true)) (fun s g => (x.1.length - g.2.1).toNat))])) x) ([]) []
noncomputable def ps14 : List (Nat × Prc) := ps13
noncomputable def ks14 : List (Nat × Ctr) := (19, cWrong) :: ks13
noncomputable def kf14 : List (Nat × Nat × Ctr) := kf13
noncomputable def fx_ord (x : HL (cOrd : Ctr).as) : Fx := mkFxG Try.prog env ks14 kf14 (ps14) ((fun (x : HL (cOrd : Ctr).as) => ([(39, 3, Ann.by [.one 3 (.row I64), .keep 8, .one 9 (.d I64)] (fun s g => 0 ≤ g.2.1 ∧ g.2.1 ≤ x.1 ∧ g.1.length = x.1.toNat ∧ g.1.take g.2.1.toNat = ord g.2.1) (fun s g => (x.1 - g.2.1).toNat))])) x) ([]) []
noncomputable def ps15 : List (Nat × Prc) := ps14
noncomputable def ks15 : List (Nat × Ctr) := (39, cOrd) :: ks14
noncomputable def kf15 : List (Nat × Nat × Ctr) := kf14
noncomputable def fx_plan (x : HL (cPlan : Ctr).as) : Fx := mkFxG Try.prog env ks15 kf15 (ps15) ((fun (x : HL (cPlan : Ctr).as) => ([(38, 4, Ann.by [.keep 0, .keep 6, .box 7 [.row I64, .d I64], .one 8 (.row I64), .keep 18, .keep 19, .one 20 (.d I64)] (fun s g => 0 ≤ g.2.2.1 ∧ g.2.2.1 ≤ x.2.2.1.length ∧ plRun x.1 x.2.1 (x.2.2.1.take g.2.2.1.toNat) = (g.1.1, g.2.1, g.1.2) ∧ g.2.1.length = x.2.1.toNat ∧ g.1.1.length = x.1.length ∧ 0 ≤ g.1.2 ∧ g.1.2 ≤ g.2.2.1 * 1073741824 ∧ ∀ h ∈ g.2.1, 0 ≤ h ∧ h ≤ g.2.2.1 * 1073741824) (fun s g => (x.2.2.1.length - g.2.2.1).toNat))])) x) ([]) []
noncomputable def ps16 : List (Nat × Prc) := ps15
noncomputable def ks16 : List (Nat × Ctr) := (38, cPlan) :: ks15
noncomputable def kf16 : List (Nat × Nat × Ctr) := kf15
noncomputable def fx_eplan (x : HL (cPlan : Ctr).as) : Fx := mkFxG Try.prog env ks16 kf16 (ps16) ((fun (x : HL (cPlan : Ctr).as) => ([(22, 4, Ann.by [.keep 0, .keep 1, .keep 6, .box 7 [.row I64, .d I64], .one 8 (.row I64), .keep 21, .keep 22, .one 23 (.d I64)] (fun s g => 0 ≤ g.2.2.1 ∧ g.2.2.1 ≤ x.2.2.1.length ∧ g.1.2 = 0 ∧ (∃ q, plRun x.1 x.2.1 (x.2.2.1.take g.2.2.1.toNat) = (g.1.1, g.2.1, q)) ∧ g.2.1.length = x.2.1.toNat ∧ g.1.1.length = x.1.length ∧ ∀ h ∈ g.2.1, 0 ≤ h ∧ h ≤ g.2.2.1 * 1073741824) (fun s g => (x.2.2.1.length - g.2.2.1).toNat)),
  (22, 8, Ann.by [.keep 0, .keep 1, .keep 6, .keep 7, .keep 8, .keep 10, .one 11 (.d I64), .keep 21, .keep 22, .keep 23, .keep 27, .one 28 (.d I64)] (fun s g => 0 ≤ g.2.1 ∧ g.2.1 ≤ x.2.1 ∧ firstMin (s.dat (.sl I64) 8) g.1 g.2.1) (fun s g => (x.2.1 - g.2.1).toNat)),
  (22, 17, Ann.by [.keep 6, .box 7 [.row I64, .d I64], .keep 58, .keep 59, .one 60 (.d I64)] (fun s g => 0 ≤ g.2.1 ∧ g.1.1 = (s.bxd (.sl I64) 7 0) ∧ g.2.1 ≤ (s.dat (.sl I64) 58).length ∧ g.1.2 = ((s.dat (.sl I64) 58).take g.2.1.toNat).foldl max 0) (fun s g => ((s.dat (.sl I64) 58).length - g.2.1).toNat))])) x) ([]) []
noncomputable def ps17 : List (Nat × Prc) := ps16
noncomputable def ks17 : List (Nat × Ctr) := (22, cPlan) :: ks16
noncomputable def kf17 : List (Nat × Nat × Ctr) := kf16
noncomputable def fx_order (x : HL (cOrder : Ctr).as) : Fx := mkFxG Try.prog env ks17 kf17 (ps17) ((fun (x : HL (cOrder : Ctr).as) => ([(23, 2, Ann.by [.keep 0, .keep 1, .one 5 (.row I64)] (fun s g => g.1.length ≤ x.1.length ∧ g.1 = (order x.1 x.2.1).take g.1.length) (fun s g => (x.1.length - g.1.length : Nat))),
  (23, 5, Ann.by [.keep 0, .keep 1, .keep 5, .one 6 (.d I64), .keep 14, .keep 15, .one 16 (.d I64)] (fun s g => 0 ≤ g.2.1 ∧ g.2.1 ≤ x.1.length ∧ bestOf x.1 (s.dat (.sl I64) 5) x.2.1 g.1 g.2.1) (fun s g => (x.1.length - g.2.1).toNat))])) x) ([]) []
noncomputable def ps18 : List (Nat × Prc) := ps17
noncomputable def ks18 : List (Nat × Ctr) := (23, cOrder) :: ks17
noncomputable def kf18 : List (Nat × Nat × Ctr) := kf17
noncomputable def fx_same (x : HL (cSame : Ctr).as) : Fx := mkFxG Try.prog env ks18 kf18 (ps18) ([]) ([]) []
noncomputable def ps19 : List (Nat × Prc) := ps18
noncomputable def ks19 : List (Nat × Ctr) := (21, cSame) :: ks18
noncomputable def kf19 : List (Nat × Nat × Ctr) := kf18
noncomputable def fx_list (x : HL (cList : Ctr).as) : Fx := mkFxG Try.prog env ks19 kf19 (ps19) ([]) ([]) []
noncomputable def ps20 : List (Nat × Prc) := ps19
noncomputable def ks20 : List (Nat × Ctr) := (17, cList) :: ks19
noncomputable def kf20 : List (Nat × Nat × Ctr) := kf19
noncomputable def fx_longest (x : HL (cLongest : Ctr).as) : Fx := mkFxG Try.prog env ks20 kf20 (ps20) ([]) ([]) []
noncomputable def ps21 : List (Nat × Prc) := ps20
noncomputable def ks21 : List (Nat × Ctr) := (18, cLongest) :: ks20
noncomputable def kf21 : List (Nat × Nat × Ctr) := kf20
noncomputable def fx_law (x : HL (cLaw : Ctr).as) : Fx := mkFxG Try.prog env ks21 kf21 (ps21) ([]) ([]) []
noncomputable def ps22 : List (Nat × Prc) := ps21
noncomputable def ks22 : List (Nat × Ctr) := (6, cLaw) :: ks21
noncomputable def kf22 : List (Nat × Nat × Ctr) := kf21
noncomputable def ksAll : List (Nat × Ctr) := ks22
end Go.Proofs.Ytpmfgdedkmddlaa.Plans
