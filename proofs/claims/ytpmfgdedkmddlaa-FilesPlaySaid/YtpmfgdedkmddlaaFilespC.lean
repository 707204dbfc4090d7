/-
  FilesPlay: what each function computes (its contract), and what its loops keep.
-/
import Derived.Test.YtpmfgdedkmddlaaEnv
import Derived.Test.YtpmfgdedkmddlaaSxZA
namespace Go.Proofs.Ytpmfgdedkmddlaa.Filesp
open Go.Sx
set_option maxRecDepth 100000
set_option linter.unusedVariables false

abbrev FO := Int × Int × Int × Int × Int × Int × Int
abbrev FA := Int × Int
/- What each process means by its numbers (0: nothing; else an opening's number and 1); who lives; the openings' names, sizes, places. -/
abbrev FS := List (List Int) × List Bool × List Int × List Int × List Int
@[reducible] def RR {α : Type} (x : α) : Prop := x = x
@[reducible] def R8 (p : Prop) : Prop := True ∧ True ∧ True ∧ True ∧ True ∧ True ∧ True ∧ True ∧ p
@[reducible] def R32 (p : Prop) : Prop := R8 (R8 (R8 (R8 p)))
theorem RR_eq {α : Type} (x : α) : RR x = True := eq_self x
theorem R8_eq (p : Prop) : R8 p = p := by unfold R8; simp only [true_and]
theorem R32_eq (p : Prop) : R32 p = p := by unfold R32; simp only [R8_eq]
@[reducible] def opAt (l : List FO) (k : Int) : FO := l.getD k.toNat (0, 0, 0, 0, 0, 0, 0)
@[reducible] def Z16 : List Int := 0 :: 0 :: 0 :: 0 :: 0 :: 0 :: 0 :: 0 :: 0 :: 0 :: 0 :: 0 :: 0 :: 0 :: 0 :: 0 :: []
@[reducible] def Z64 : List (List Int) := Z16 :: Z16 :: Z16 :: Z16 :: []
@[reducible] def N16 : List Int := -1 :: -1 :: -1 :: -1 :: -1 :: -1 :: -1 :: -1 :: -1 :: -1 :: -1 :: -1 :: -1 :: -1 :: -1 :: -1 :: []
def idx (l : List Int) (x : Int) : Int := match l.idxOf? x with
  | some i => (i : Int)
  | none => -1
def cnt (x : Int) (l : List Int) : Int := (l.countP (fun y => decide (y = x)) : Int)
def cntM (x : Int) (m : List (List Int)) : Int := cnt x m.flatten
def row (m : List (List Int)) (p : Int) : List Int := m.getD p.toNat []
def fdo (s : FS) (mean : Int) (o : FO) : FS × FA :=
  let k := o.1; let p := o.2.1; let fd := o.2.2.2.2.1; let to := o.2.2.2.2.2.1; let n := o.2.2.2.2.2.2
  let m := s.1; let al := s.2.1; let nm := s.2.2.1; let sz := s.2.2.2.1; let pl := s.2.2.2.2
  let put := fun (j v : Int) => m.set p.toNat ((row m p).set j.toNat v)
  let l := idx (row m p) 0
  if (k = 1 ∨ k = 2) ∧ l < 0 then (s, 4, 0)
  else if k = 1 then ((put l (nm.length + 1), al, nm ++ [o.2.2.1], sz ++ [o.2.2.2.1], pl ++ [0]), 0, l)
  else if k = 2 then ((put l (mean + 1), al, nm, sz, pl), 0, l)
  else if (k = 3 ∧ (to < 0 ∨ 15 < to)) ∨ (k = 6 ∧ (n < 0 ∨ 1099511627776 < n)) ∨ (k = 5 ∧ n < 1) then (s, 2, 0)
  else if k = 3 then ((put to (mean + 1), al, nm, sz, pl), 0, to)
  else if k = 4 then ((put fd 0, al, nm, sz, pl), 0, cntM (mean + 1) (put fd 0))
  else if k = 6 then ((m, al, nm, sz, pl.set mean.toNat n), 0, n)
  else if sz.getD mean.toNat 0 - pl.getD mean.toNat 0 > 0 then
    ((m, al, nm, sz, pl.set mean.toNat (pl.getD mean.toNat 0 + min (sz.getD mean.toNat 0 - pl.getD mean.toNat 0) n)), 0, min (sz.getD mean.toNat 0 - pl.getD mean.toNat 0) n)
  else ((m, al, nm, sz, pl.set mean.toNat (pl.getD mean.toNat 0 + 0)), 0, 0)
def fmean (s : FS) (o : FO) : Int := if 0 ≤ o.2.2.2.2.1 ∧ o.2.2.2.2.1 < 16 then (row s.1 o.2.1).getD o.2.2.2.2.1.toNat 0 - 1 else -1
def fone (s : FS) (o : FO) : FS × FA :=
  if o.1 < 1 ∨ 7 < o.1 then (s, 5, 0)
  else if ¬ (0 ≤ o.2.1 ∧ o.2.1 < 4 ∧ s.2.1.getD o.2.1.toNat false = true) then (s, 3, 0)
  else if o.1 = 1 ∧ (o.2.2.2.1 < 0 ∨ 1099511627776 < o.2.2.2.1) then (s, 2, 0)
  else if o.1 = 7 ∧ (o.2.2.2.2.2.1 < 0 ∨ 3 < o.2.2.2.2.2.1 ∨ s.2.1.getD o.2.2.2.2.2.1.toNat false = true) then (s, 6, 0)
  else if o.1 = 7 then ((s.1.set o.2.2.2.2.2.1.toNat (row s.1 o.2.1), s.2.1.set o.2.2.2.2.2.1.toNat true, s.2.2), 0, o.2.2.2.2.2.1)
  else if o.1 ≠ 1 ∧ fmean s o < 0 then (s, 3, 0)
  else fdo s (fmean s o) o
def fst' (s : FS × List FA) (o : FO) : FS × List FA := ((fone s.1 o).1, s.2 ++ [(fone s.1 o).2])
def f0 : FS := (List.replicate 4 (List.replicate 16 0), [true, false, false, false], [], [], [])
def frun (ops : List FO) : FS × List FA := ops.foldl fst' (f0, [])
def holdV (m : List (List Int)) (nm : List Int) : List (List Int) := m.map fun r => r.map fun x => if 0 < x then max (nm.getD (x - 1).toNat 0) 0 else -1
def hold (s : FS) : List (List Int) := holdV s.1 s.2.2.1
def fplay (ops : List FO) : List FA × List (List Int) × Unit := ((frun ops).2, hold (frun ops).1, ())
def meanV (m : List (List Int)) (live : Bool) (p fd : Int) : Int := if live = true ∧ 0 ≤ fd ∧ fd < 16 then (row m p).getD fd.toNat 0 - 1 else -1
/- A thing done, by whether its process lives and what its number means. -/
def doV (s : FS) (live : Bool) (mean : Int) (o : FO) : FS × FA :=
  if o.1 < 1 ∨ 7 < o.1 then (s, 5, 0)
  else if live = false then (s, 3, 0)
  else if o.1 = 1 ∧ (o.2.2.2.1 < 0 ∨ 1099511627776 < o.2.2.2.1) then (s, 2, 0)
  else if o.1 = 7 ∧ (o.2.2.2.2.2.1 < 0 ∨ 3 < o.2.2.2.2.2.1 ∨ s.2.1.getD o.2.2.2.2.2.1.toNat false = true) then (s, 6, 0)
  else if o.1 = 7 then ((s.1.set o.2.2.2.2.2.1.toNat (row s.1 o.2.1), s.2.1.set o.2.2.2.2.2.1.toNat true, s.2.2), 0, o.2.2.2.2.2.1)
  else if o.1 ≠ 1 ∧ mean < 0 then (s, 3, 0)
  else fdo s mean o
abbrev M33 : Ty := .arr 4 (.arr 16 I64)
abbrev TB : Ty := .arr 16 (.ref 1)
abbrev TM := List (Int × List Int)
abbrev OM := List (Int × Int × Int × Int × Int)
def tbOf (m0 : TM) (a : Int) : List Int := mval TB m0 a
def opOf (m1 : OM) (a : Int) : Int × Int × Int × Int := mval tyopen m1 a
/- One more who holds it. -/
def inc (m1 : OM) (a : Int) : OM := if a = -1 then m1 else mput tyopen m1 a ((opOf m1 a).1, (opOf m1 a).2.1, (opOf m1 a).2.2.1, (opOf m1 a).2.2.2 + 1)
def incs (m1 : OM) (l : List Int) : OM := l.foldl inc m1
/- The openings' places in memory, in their order. -/
def keys (m1 : OM) : List Int := m1.map Prod.fst
def okOps (m1 : OM) (s : FS) : Prop := m1.length = s.2.2.1.length ∧ s.2.2.2.1.length = s.2.2.1.length ∧ s.2.2.2.2.length = s.2.2.1.length ∧
  ∀ i : Nat, i < m1.length → (m1.getD i (0, 0, 0, 0, 0)).2 = (s.2.2.1.getD i 0, s.2.2.2.1.getD i 0, s.2.2.2.2.getD i 0, cntM (i + 1) s.1)
/- A number of a process and the place in memory that it leads to. -/
def same (m1 : OM) (c x : Int) : Prop := (x = 0 ∧ c = -1) ∨ (1 ≤ x ∧ x ≤ m1.length ∧ c = (keys m1).getD (x - 1).toNat 0)
def FR (s : FS) (tabs : List Int) (m0 : TM) (m1 : OM) : Prop := (tabs.length = 4 ∧ s.1.length = 4 ∧ s.2.1.length = 4) ∧ okOps m1 s ∧
  (∀ p : Nat, p < 4 → (s.1.getD p []).length = 16 ∧ (s.2.1.getD p false = true ↔ 0 ≤ tabs.getD p 0) ∧ (s.2.1.getD p false = false → tabs.getD p 0 = -1 ∧ s.1.getD p [] = List.replicate 16 0) ∧
    (s.2.1.getD p false = true → mhas TB m0 (tabs.getD p 0) = true ∧ (tbOf m0 (tabs.getD p 0)).length = 16 ∧ ∀ j : Nat, j < 16 → same m1 ((tbOf m0 (tabs.getD p 0)).getD j 0) ((s.1.getD p []).getD j 0)) ∧
    ∀ q : Nat, q < 4 → tabs.getD p 0 = tabs.getD q 0 → 0 ≤ tabs.getD p 0 → p = q) ∧
  ∀ i : Nat, i < s.2.2.2.1.length → 0 ≤ s.2.2.2.1.getD i 0 ∧ s.2.2.2.1.getD i 0 ≤ 1099511627776 ∧ 0 ≤ s.2.2.2.2.getD i 0 ∧ s.2.2.2.2.getD i 0 ≤ 1099511627776
def holdT (m1 : OM) (l : List Int) : List Int := l.map fun c => if c = -1 then -1 else max (opOf m1 c).1 0
def holdI (tabs : List Int) (m0 : TM) (m1 : OM) : List (List Int) := tabs.map fun a => if a = -1 then List.replicate 16 (-1) else holdT m1 (tbOf m0 a)
/- The first k rows of a matrix, and the first j of the next, are as they shall be. -/
def upto (out want : List (List Int)) (k j : Int) : Prop := out.length = 4 ∧ (∀ p : Nat, p < 4 → (row out p).length = 16) ∧ (∀ p : Nat, (p : Int) < k → row out p = row want p) ∧
  ∀ i : Nat, (i : Int) < j → (row out k).getD i 0 = (row want k).getD i 0
@[reducible] def cEqual : Ctr := ⟨[.sl tyFileAns, .sl tyFileAns], [.bool], fun _ => True, fun x => (decide (x.1 = x.2.1), ()), false⟩
@[reducible] def cPlay : Ctr := ⟨[.sl tyFileOp], [.sl tyFileAns, M33], fun x => x.1.length * 56 ≤ 140737488355328, fun x => fplay x.1, false⟩
/- The least number of a table that is free, and whether there is one. -/
def lea (l : List Int) : Int × Bool × Unit := (if idx l (-1) < 0 then 0 else idx l (-1), decide (0 ≤ idx l (-1)), ())
def dec (m1 : OM) (a : Int) : OM := if a < 0 then m1 else mput tyopen m1 a ((opOf m1 a).1, (opOf m1 a).2.1, (opOf m1 a).2.2.1, (opOf m1 a).2.2.2 - 1)
def tset (m0 : TM) (t fd o : Int) : TM := mput TB m0 t ((tbOf m0 t).set fd.toNat o)
def tdrop (m0 : TM) (t fd : Int) : TM := if (tbOf m0 t).getD fd.toNat 0 < 0 then m0 else tset m0 t fd (-1)
@[reducible] def pLeast : Prc := Prc.by 1 (canon [.one .any] [] 1) [.one 0 (.d (.ref 0)), .pl 0 TB] (fun g => mhas TB g.2.1 g.1 = true ∧ (tbOf g.2.1 g.1).length = 16) [I64, .bool] (fun g => (g, lea (tbOf g.2.1 g.1)))
@[reducible] def pSet : Prc := Prc.by 3 (canon [.one .any, .one .any, .one .any] [] 1) [.one 0 (.d (.ref 0)), .one 1 (.d I64), .one 2 (.d (.ref 1)), .pl 0 TB, .pl 1 tyopen]
  (fun g => (mhas TB g.2.2.2.1 g.1 = true ∧ (0 ≤ g.2.1 ∧ g.2.1 < 16)) ∧ (0 ≤ g.2.2.1 ∧ mhas tyopen g.2.2.2.2.1 g.2.2.1 = true) ∧ 0 ≤ (opOf g.2.2.2.2.1 g.2.2.1).2.2.2 ∧ (opOf g.2.2.2.2.1 g.2.2.1).2.2.2 ≤ 1000) []
  (fun g => ((g.1, g.2.1, g.2.2.1, tset g.2.2.2.1 g.1 g.2.1 g.2.2.1, inc g.2.2.2.2.1 g.2.2.1, ()), ()))
@[reducible] def pDrop : Prc := Prc.by 2 (canon [.one .any, .one .any] [] 1) [.one 0 (.d (.ref 0)), .one 1 (.d I64), .pl 0 TB, .pl 1 tyopen]
  (fun g => ((mhas TB g.2.2.1 g.1 = true ∧ (0 ≤ g.2.1 ∧ g.2.1 < 16)) ∧ (tbOf g.2.2.1 g.1).length = 16) ∧ (0 ≤ (tbOf g.2.2.1 g.1).getD g.2.1.toNat 0 → mhas tyopen g.2.2.2.1 ((tbOf g.2.2.1 g.1).getD g.2.1.toNat 0) = true ∧ 0 ≤ (opOf g.2.2.2.1 ((tbOf g.2.2.1 g.1).getD g.2.1.toNat 0)).2.2.2 ∧ (opOf g.2.2.2.1 ((tbOf g.2.2.1 g.1).getD g.2.1.toNat 0)).2.2.2 ≤ 1000)) []
  (fun g => ((g.1, g.2.1, tdrop g.2.2.1 g.1 g.2.1, dec g.2.2.2.1 ((tbOf g.2.2.1 g.1).getD g.2.1.toNat 0), ()), ()))
@[reducible] def pFree : Prc := Prc.by 2 (canon [.one .any, .one (.ptr 1 0)] [(1, .box [.any])] 2) [.one 0 (.d I64), .box 1 [.d M33]] (fun g => 0 ≤ g.1 ∧ g.1 < 4) [I64] (fun g => (g, idx (row g.2.1 g.1) 0, ()))
@[reducible] def cLaw : Ctr := ⟨[.sl tyFileOp], [.bool], fun x => x.1.length * 56 ≤ 140737488355328, fun _ => (true, ()), false⟩


noncomputable def ks0 : List (Nat × Ctr) := []
noncomputable def kf0 : List (Nat × Nat × Ctr) := []
noncomputable def ps0 : List (Nat × Prc) := []
noncomputable def fx_equal (x : HL (cEqual : Ctr).as) : Fx := mkFxG Try.prog env ks0 kf0 (ps0) ((fun (x : HL (cEqual : Ctr).as) => ([(14, 4, Ann.by [.keep 0, .keep 1, .keep 12, .one 13 (.d I64)] (fun s g => 0 ≤ g.1 ∧ g.1 ≤ x.1.length ∧ x.1.take g.1.toNat = x.2.1.take g.1.toNat) (fun s g => (x.1.length - g.1).toNat))])) x) ([]) []
noncomputable def ps1 : List (Nat × Prc) := ps0
noncomputable def ks1 : List (Nat × Ctr) := (14, cEqual) :: ks0
noncomputable def kf1 : List (Nat × Nat × Ctr) := kf0
noncomputable def fx_least (x : (pLeast : Prc).G) : Fx := mkFxG Try.prog env ks1 kf1 (ps1) ((fun (x : (pLeast : Prc).G) => ([(50, 2, Ann.by [.bk, .keep 6, .one 7 (.d I64), .pl 0 TB] (fun s g => 0 ≤ g.1 ∧ g.1 ≤ 16 ∧ g.2.1 = x.2.1 ∧ ((tbOf g.2.1 x.1).take g.1.toNat).idxOf? (-1) = none) (fun s g => (16 - g.1).toNat))])) x) ([]) []
noncomputable def ps2 : List (Nat × Prc) := (50, pLeast) :: ps1
noncomputable def ks2 : List (Nat × Ctr) := ks1
noncomputable def kf2 : List (Nat × Nat × Ctr) := kf1
noncomputable def fx_set (x : (pSet : Prc).G) : Fx := mkFxG Try.prog env ks2 kf2 (ps2) ([]) ([]) []
noncomputable def ps3 : List (Nat × Prc) := (51, pSet) :: ps2
noncomputable def ks3 : List (Nat × Ctr) := ks2
noncomputable def kf3 : List (Nat × Nat × Ctr) := kf2
noncomputable def fx_drop (x : (pDrop : Prc).G) : Fx := mkFxG Try.prog env ks3 kf3 (ps3) ([]) ([]) []
noncomputable def ps4 : List (Nat × Prc) := (52, pDrop) :: ps3
noncomputable def ks4 : List (Nat × Ctr) := ks3
noncomputable def kf4 : List (Nat × Nat × Ctr) := kf3
noncomputable def fx_play (x : HL (cPlay : Ctr).as) : Fx := mkFxG Try.prog env ks4 kf4 (ps4) ((fun (x : HL (cPlay : Ctr).as) => ([(12, 5, Ann.by [.keep 3, .box 4 [.d (.arr 4 (.ref 0))], .one 5 (.row tyFileAns), .keep 20, .keep 21, .one 22 (.d I64), .pl 0 TB, .pl 1 tyopen] (fun s g => 0 ≤ g.2.2.1 ∧ g.2.2.1 ≤ x.1.length ∧ ∃ s, frun (x.1.take g.2.2.1.toNat) = (s, g.2.1) ∧ FR s g.1 g.2.2.2.1 g.2.2.2.2.1) (fun s g => (x.1.length - g.2.2.1).toNat)),
  (12, 11, Ann.by [.keep 3, .keep 5, .box 8 [.d M33], .keep 36, .one 37 (.d I64), .pl 0 TB, .pl 1 tyopen] (fun s g => 0 ≤ g.2.1 ∧ g.2.1 ≤ 4 ∧ (g.2.2.1 = s.pool TB 0 ∧ g.2.2.2.1 = s.pool tyopen 1) ∧ upto g.1 (holdI (s.dat (.arr 4 (.ref 0)) 36) g.2.2.1 g.2.2.2.1) g.2.1 0) (fun s g => (4 - g.2.1).toNat)),
  (12, 14, Ann.by [.keep 3, .keep 5, .box 8 [.d M33], .keep 9, .keep 10, .keep 36, .keep 37, .one 41 (.d I64), .pl 0 TB, .pl 1 tyopen] (fun s g => 0 ≤ g.2.1 ∧ g.2.1 ≤ 16 ∧ (g.2.2.1 = s.pool TB 0 ∧ g.2.2.2.1 = s.pool tyopen 1) ∧ upto g.1 (holdI (s.dat (.arr 4 (.ref 0)) 36) g.2.2.1 g.2.2.2.1) (s.dat I64 37) g.2.1) (fun s g => (16 - g.2.1).toNat)),
  (30, 20, Ann.by [.bk, .keep 0, .keep 3, .keep 4, .keep 5, .keep 8, .keep 107, .one 108 (.d I64), .pl 0 TB, .pl 1 tyopen] (fun s g => 0 ≤ g.1 ∧ g.1 ≤ 16 ∧ g.2.1 = mput TB (s.pool TB 0) (s.dat (.ref 0) 8) ((tbOf (s.pool TB 0) (s.dat (.ref 0) 107)).take g.1.toNat ++ List.replicate (16 - g.1).toNat (-1)) ∧ g.2.2.1 = incs (s.pool tyopen 1) ((tbOf (s.pool TB 0) (s.dat (.ref 0) 107)).take g.1.toNat)) (fun s g => (16 - g.1).toNat))])) x) ([]) [(12,20000016),(30,21000080),(30,20000106)]
noncomputable def ps5 : List (Nat × Prc) := ps4
noncomputable def ks5 : List (Nat × Ctr) := (12, cPlay) :: ks4
noncomputable def kf5 : List (Nat × Nat × Ctr) := kf4
noncomputable def fx_free (x : (pFree : Prc).G) : Fx := mkFxG Try.prog env ks5 kf5 (ps5) ((fun (x : (pFree : Prc).G) => ([(31, 2, Ann.by [.bk, .keep 8, .one 9 (.d I64)] (fun s g => 0 ≤ g.1 ∧ g.1 ≤ 16 ∧ ((s.dat (.arr 16 I64) 8).take g.1.toNat).idxOf? 0 = none) (fun s g => (16 - g.1).toNat))])) x) ([]) []
noncomputable def ps6 : List (Nat × Prc) := (31, pFree) :: ps5
noncomputable def ks6 : List (Nat × Ctr) := ks5
noncomputable def kf6 : List (Nat × Nat × Ctr) := kf5
noncomputable def fx_vplay (x : HL (cPlay : Ctr).as) : Fx := mkFxG Try.prog env ks6 kf6 (ps6) ((fun (x : HL (cPlay : Ctr).as) => ([(13, 7, Ann.by [.keep 3, .box 4 [.d M33], .box 5 [.d (.arr 4 .bool)], .one 6 (.row I64), .one 7 (.row I64), .one 8 (.row I64), .keep 9, .one 10 (.row tyFileAns), .keep 29, .keep 30, .one 31 (.d I64)] (fun s g => 0 ≤ g.2.2.2.2.2.2.1 ∧ g.2.2.2.2.2.2.1 ≤ x.1.length ∧ frun (x.1.take g.2.2.2.2.2.2.1.toNat) = ((g.1, g.2.1, g.2.2.1, g.2.2.2.1, g.2.2.2.2.1), g.2.2.2.2.2.1)) (fun s g => (x.1.length - g.2.2.2.2.2.2.1).toNat)),
  (13, 49, Ann.by [.keep 3, .keep 4, .keep 5, .keep 6, .keep 7, .keep 8, .keep 9, .keep 10, .box 13 [.d I64, .d I64], .keep 16, .keep 29, .keep 30, .keep 31, .keep 282, .one 283 (.d I64)] (fun s g => 0 ≤ g.2.1 ∧ g.2.1 ≤ 4 ∧ g.1.1 = 0 ∧ g.1.2 = cntM (s.dat I64 16 + 1) ((s.dat M33 282).take g.2.1.toNat)) (fun s g => (4 - g.2.1).toNat)),
  (13, 52, Ann.by [.keep 3, .keep 4, .keep 5, .keep 6, .keep 7, .keep 8, .keep 9, .keep 10, .box 13 [.d I64, .d I64], .keep 16, .keep 29, .keep 30, .keep 31, .keep 282, .keep 283, .keep 286, .one 287 (.d I64)] (fun s g => 0 ≤ g.2.1 ∧ g.2.1 ≤ 16 ∧ g.1.1 = 0 ∧ g.1.2 = cntM (s.dat I64 16 + 1) ((s.dat M33 282).take (s.dat I64 283).toNat) + cnt (s.dat I64 16 + 1) ((s.dat (.arr 16 I64) 286).take g.2.1.toNat)) (fun s g => (16 - g.2.1).toNat)),
  (13, 64, Ann.by [.keep 3, .keep 4, .keep 6, .keep 10, .box 23 [.d M33], .one 317 (.d I64)] (fun s g => 0 ≤ g.2.1 ∧ g.2.1 ≤ 4 ∧ upto g.1 (holdV (s.bxd M33 4 0) (s.dat (.sl I64) 6)) g.2.1 0) (fun s g => (4 - g.2.1).toNat)),
  (13, 67, Ann.by [.keep 3, .keep 4, .keep 6, .keep 10, .box 23 [.d M33], .keep 24, .keep 317, .keep 322, .one 323 (.d I64)] (fun s g => 0 ≤ g.2.1 ∧ g.2.1 ≤ 16 ∧ upto g.1 (holdV (s.bxd M33 4 0) (s.dat (.sl I64) 6)) (s.dat I64 317) g.2.1) (fun s g => (16 - g.2.1).toNat))])) x) ((fun (x : HL (cPlay : Ctr).as) => ([(13, 19, Ann.by [.keep 3, .keep 4, .keep 5, .keep 6, .keep 7, .keep 8, .keep 9, .keep 10, .keep 12, .keep 13, .keep 14, .keep 15, .one 16 (.d I64), .keep 17, .keep 29, .keep 30, .keep 31] (fun s g => g.1 = meanV (s.bxd M33 4 0) (s.dat .bool 17) (s.dat I64 14) (s.dat I64 15)) (fun s g => 0)),
  (13, 60, Ann.by [.keep 3, .box 4 [.d M33], .box 5 [.d (.arr 4 .bool)], .one 6 (.row I64), .one 7 (.row I64), .one 8 (.row I64), .keep 9, .keep 10, .box 13 [.d I64, .d I64], .keep 29, .keep 30, .keep 31] (fun s g => doV (s.bxd M33 4 0, s.bxd (.arr 4 .bool) 5 0, s.dat (.sl I64) 6, s.dat (.sl I64) 7, s.dat (.sl I64) 8) (s.dat .bool 17) (s.dat I64 16) (s.bxd tyFileOp 12 0) = ((g.1, g.2.1, g.2.2.1, g.2.2.2.1, g.2.2.2.2.1), g.2.2.2.2.2.1)) (fun s g => 0))])) x) [(13,10000177)]
noncomputable def ps7 : List (Nat × Prc) := ps6
noncomputable def ks7 : List (Nat × Ctr) := (13, cPlay) :: ks6
noncomputable def kf7 : List (Nat × Nat × Ctr) := kf6
noncomputable def fx_law (x : HL (cLaw : Ctr).as) : Fx := mkFxG Try.prog env ks7 kf7 (ps7) ([]) ([]) []
noncomputable def ps8 : List (Nat × Prc) := ps7
noncomputable def ks8 : List (Nat × Ctr) := (4, cLaw) :: ks7
noncomputable def kf8 : List (Nat × Nat × Ctr) := kf7
noncomputable def ksAll : List (Nat × Ctr) := ks8
end Go.Proofs.Ytpmfgdedkmddlaa.Filesp
