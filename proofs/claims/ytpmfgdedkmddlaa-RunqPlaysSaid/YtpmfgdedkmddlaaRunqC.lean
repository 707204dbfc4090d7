/-
  RunqPlays: what each function computes (its contract), and what its loops keep.
-/
import Derived.Test.YtpmfgdedkmddlaaEnv
import Derived.Test.YtpmfgdedkmddlaaSxZA
import Derived.Lib.BitFns
namespace Go.Proofs.Ytpmfgdedkmddlaa.Runq
open Go.Sx
set_option maxRecDepth 100000
set_option linter.unusedVariables false

@[reducible] def RR {α : Type} (x : α) : Prop := x = x
@[reducible] def R8 (p : Prop) : Prop := True ∧ True ∧ True ∧ True ∧ True ∧ True ∧ True ∧ True ∧ p
@[reducible] def R32 (p : Prop) : Prop := R8 (R8 (R8 (R8 p)))
theorem RR_eq {α : Type} (x : α) : RR x = True := eq_self x
theorem R8_eq (p : Prop) : R8 p = p := by unfold R8; simp only [true_and]
theorem R32_eq (p : Prop) : R32 p = p := by unfold R32; simp only [R8_eq]
def insA {α : Type} (l : List α) (i : Int) (v : List α) : List α := l.take i.toNat ++ (v ++ l.drop i.toNat)
@[reducible] def a3 : St := canon [.one .any, .one .any, .one .any] [] 1
@[reducible] def pIns : Prc := Prc.by 3 a3 [.one 0 (.row I64), .one 1 (.d I64), .one 2 (.row I64)] (fun g => (g.1.length + 1) * 8 ≤ 140737488355328 ∧ (0 ≤ g.2.1 ∧ g.2.1 ≤ g.1.length) ∧ g.2.2.1.length = 1) [] (fun g => ((insA g.1 g.2.1 g.2.2.1, g.2.1, g.2.2.1, ()), ()))
@[reducible] def pInso : Prc := Prc.by 3 a3 [.one 0 (.row tyone), .one 1 (.d I64), .one 2 (.row tyone)] (fun g => (g.1.length + 1) * 16 ≤ 140737488355328 ∧ (0 ≤ g.2.1 ∧ g.2.1 ≤ g.1.length) ∧ g.2.2.1.length = 1) [] (fun g => ((insA g.1 g.2.1 g.2.2.1, g.2.1, g.2.2.1, ()), ()))
@[reducible] def cLen : Ctr := ⟨[U32], [I64], fun _ => True, fun x => ((Lib.bitLen x.1.toNat : Int), ()), false⟩
/- The reference's list: who is there, with the level, the first one first. -/
abbrev QL := List (Int × Int)
abbrev RO := Int × Int × Int
def isAdd (o : RO) : Prop := o.1 = 1 ∨ o.1 = 2
instance (o : RO) : Decidable (isAdd o) := by unfold isAdd; infer_instance
def posQ (l : QL) (id : Int) : Int := match l.findIdx? (fun e => decide (e.1 = id)) with
  | some i => (i : Int)
  | none => -1
/- Where one is put in. -/
def inQ (l : QL) (o : RO) : Nat := (l.takeWhile fun e => decide (o.2.2 < e.2) || (decide (o.1 = 1) && decide (e.2 = o.2.2))).length
def errQ (l : QL) (o : RO) : Int :=
  if o.1 < 1 ∨ 4 < o.1 then 5 else if isAdd o ∧ (o.2.2 < 0 ∨ 31 < o.2.2) then 2 else if isAdd o ∧ 0 ≤ posQ l o.2.1 then 6
  else if isAdd o then 0 else if (o.1 = 3 ∧ l = []) ∨ (o.1 = 4 ∧ posQ l o.2.1 < 0) then 3 else 0
def nextQ (l : QL) (o : RO) : QL :=
  if errQ l o ≠ 0 then l else if isAdd o then l.take (inQ l o) ++ ((o.2.1, o.2.2) :: l.drop (inQ l o)) else if o.1 = 3 then l.drop 1 else l.eraseIdx (posQ l o.2.1).toNat
/- The list, what was wrong, who was taken. -/
def stQ (s : QL × List Int × List Int) (o : RO) : QL × List Int × List Int :=
  (nextQ s.1 o, s.2.1 ++ [errQ s.1 o], if errQ s.1 o = 0 ∧ o.1 = 3 then s.2.2 ++ [(s.1.getD 0 (0, 0)).1] else s.2.2)
def runQ (ops : List RO) : QL × List Int × List Int := ops.foldl stQ ([], [], [])

/- What each answers, by the list. -/
abbrev QS := QL × List Int × List Int
def ids (l : QL) : List Int := l.map Prod.fst
def mplay (ops : List RO) : List Int × List Int × List Int × Unit := ((runQ ops).2.1, (runQ ops).2.2, ids (runQ ops).1, ())
def idx (l : List Int) (x : Int) : Int := match l.idxOf? x with
  | some i => (i : Int)
  | none => -1
@[reducible] def own3 : St := canon [.one (.row 6), .one (.clo 5)] [(6, .row tyone []), (5, .clo 34 [.ptr 4 0]), (4, .box [.any])] 7
@[reducible] def pIdx : Prc := Prc.by 2 own3 [.own 0 tyone, .keep 1, .cb 1 0 [.d tyRunOp]] (fun _ => True) [I64] (fun g => (g, posQ g.1 g.2.1.2.1, ()))
@[reducible] def cIndex : Ctr := ⟨[.sl I64, I64], [I64], fun _ => True, fun x => (idx x.1 x.2.1, ()), false⟩
@[reducible] def cCloneP : Ctr := ⟨[.sl tyone], [.sl tyone], fun x => x.1.length * 16 ≤ 140737488355328, fun x => (x.1, ()), true⟩
@[reducible] def cEqual : Ctr := ⟨[.sl I64, .sl I64], [.bool], fun _ => True, fun x => (decide (x.1 = x.2.1), ()), false⟩
@[reducible] def cPlay : Ctr := ⟨[.sl tyRunOp], [.sl I64, .sl I64, .sl I64], fun x => x.1.length * 24 ≤ 140737488355328, fun x => mplay x.1, false⟩
@[reducible] def cLaw : Ctr := ⟨[.sl tyRunOp], [.bool], fun x => x.1.length * 24 ≤ 140737488355328, fun _ => (true, ()), false⟩

/- The queue in memory: which levels have some, their lists, the level of each. -/
abbrev QM := Int × List (List Int) × List (Int × Int)
def opAt (l : List RO) (k : Int) : RO := l.getD k.toNat (0, 0, 0)
def lvl (q : QM) (lev : Int) : List Int := q.2.1.getD lev.toNat []
def bitB (lev : Int) : Int := IntKind.u32.wrap (1 * 2 ^ min lev.toNat IntKind.u32.bits)
def setB (a lev : Int) : Int := Go.bits .or .u32 a (bitB lev)
def clrB (a lev : Int) : Int := Go.bits .andNot .u32 a (bitB lev)
def putL (l : List Int) (id : Int) (h : Bool) : List Int := if h = true then id :: l else l ++ [id]
def addQ (q : QM) (id lev : Int) (h : Bool) : QM := (setB q.1 lev, q.2.1.set lev.toNat (putL (lvl q lev) id h), mput I64 q.2.2 id lev)
def cutL (l : List Int) (k : Int) : List Int := l.take k.toNat ++ l.drop (k + 1).toNat
def dropQ (q : QM) (id : Int) : QM :=
  (if (cutL (lvl q (mval I64 q.2.2 id)) (idx (lvl q (mval I64 q.2.2 id)) id)).length = 0 then clrB q.1 (mval I64 q.2.2 id) else q.1,
    q.2.1.set (Int.toNat (mval I64 q.2.2 id)) (cutL (lvl q (mval I64 q.2.2 id)) (idx (lvl q (mval I64 q.2.2 id)) id)), mdel I64 q.2.2 id)
def firstQ (q : QM) : Int := (lvl q ((Lib.bitLen q.1.toNat : Int) - 1)).getD 0 0
def doQ (q : QM) (o : RO) : QM × Int × Int :=
  if isAdd o then (if o.2.2 < 0 ∨ 31 < o.2.2 then (q, 0, 2) else if mhas I64 q.2.2 o.2.1 = true then (q, 0, 6) else (addQ q o.2.1 o.2.2 (decide (o.1 = 2)), 0, 0))
  else if o.1 = 3 then (if q.1 = 0 then (q, 0, 3) else (dropQ q (firstQ q), firstQ q, 0))
  else if o.1 = 4 then (if mhas I64 q.2.2 o.2.1 = true then (dropQ q o.2.1, 0, 0) else (q, 0, 3)) else (q, 0, 5)
/- The queue in memory is the list. -/
def RQ (q : QM) (l : QL) : Prop := (q.2.1.length = 32 ∧ 0 ≤ q.1 ∧ q.1 < 4294967296) ∧ (∀ e ∈ l, 0 ≤ e.2 ∧ e.2 ≤ 31) ∧ (ids l).Nodup ∧ (l.Pairwise fun a b => b.2 ≤ a.2) ∧
  (∀ i : Nat, i < 32 → q.2.1.getD i [] = ids (l.filter fun e => decide (e.2 = (i : Int))) ∧ (q.1.toNat.testBit i = true ↔ q.2.1.getD i [] ≠ [])) ∧
  (∀ id : Int, (mhas I64 q.2.2 id = true ↔ 0 ≤ posQ l id) ∧ ∀ e ∈ l, mval I64 q.2.2 e.1 = e.2) ∧ (q.2.2.map Prod.fst).Nodup


noncomputable def ks0 : List (Nat × Ctr) := []
noncomputable def kf0 : List (Nat × Nat × Ctr) := []
noncomputable def ps0 : List (Nat × Prc) := []
noncomputable def knAll : List (Nat × Ctr) := []
noncomputable def poAll : List (Nat × Prc × Nat) := [(64, pIns, 1), (35, pInso, 1)]
noncomputable def kcAll : List (Nat × Nat × List Nat × Ctr) := []
noncomputable def fx_len (x : HL (cLen : Ctr).as) : Fx := mkFxO Try.prog env ks0 kf0 (ps0) poAll knAll kcAll ([]) ([]) []
noncomputable def ps1 : List (Nat × Prc) := ps0
noncomputable def ks1 : List (Nat × Ctr) := (54, cLen) :: ks0
noncomputable def kf1 : List (Nat × Nat × Ctr) := kf0
noncomputable def fx_equal (x : HL (cEqual : Ctr).as) : Fx := mkFxO Try.prog env ks1 kf1 (ps1) poAll knAll kcAll ((fun (x : HL (cEqual : Ctr).as) => ([(10, 4, Ann.by [.keep 0, .keep 1, .keep 12, .one 13 (.d I64)] (fun s g => 0 ≤ g.1 ∧ g.1 ≤ x.1.length ∧ x.1.take g.1.toNat = x.2.1.take g.1.toNat) (fun s g => (x.1.length - g.1).toNat))])) x) ([]) []
noncomputable def ps2 : List (Nat × Prc) := ps1
noncomputable def ks2 : List (Nat × Ctr) := (10, cEqual) :: ks1
noncomputable def kf2 : List (Nat × Nat × Ctr) := kf1
noncomputable def fx_equali (x : HL (cEqual : Ctr).as) : Fx := mkFxO Try.prog env ks2 kf2 (ps2) poAll knAll kcAll ((fun (x : HL (cEqual : Ctr).as) => ([(11, 4, Ann.by [.keep 0, .keep 1, .keep 12, .one 13 (.d I64)] (fun s g => 0 ≤ g.1 ∧ g.1 ≤ x.1.length ∧ x.1.take g.1.toNat = x.2.1.take g.1.toNat) (fun s g => (x.1.length - g.1).toNat))])) x) ([]) []
noncomputable def ps3 : List (Nat × Prc) := ps2
noncomputable def ks3 : List (Nat × Ctr) := (11, cEqual) :: ks2
noncomputable def kf3 : List (Nat × Nat × Ctr) := kf2
noncomputable def fx_index (x : HL (cIndex : Ctr).as) : Fx := mkFxO Try.prog env ks3 kf3 (ps3) poAll knAll kcAll ((fun (x : HL (cIndex : Ctr).as) => ([(61, 2, Ann.by [.keep 0, .keep 1, .keep 7, .one 8 (.d I64)] (fun s g => 0 ≤ g.1 ∧ g.1 ≤ x.1.length ∧ (x.1.take g.1.toNat).idxOf? x.2.1 = none) (fun s g => (x.1.length - g.1).toNat))])) x) ([]) []
noncomputable def ps4 : List (Nat × Prc) := ps3
noncomputable def ks4 : List (Nat × Ctr) := (61, cIndex) :: ks3
noncomputable def kf4 : List (Nat × Nat × Ctr) := kf3
noncomputable def fx_clone (x : HL (cCloneP : Ctr).as) : Fx := mkFxO Try.prog env ks4 kf4 (ps4) poAll knAll kcAll ([]) ([]) []
noncomputable def ps5 : List (Nat × Prc) := ps4
noncomputable def ks5 : List (Nat × Ctr) := (37, cCloneP) :: ks4
noncomputable def kf5 : List (Nat × Nat × Ctr) := kf4
noncomputable def fx_idx (x : (pIdx : Prc).G) : Fx := mkFxO Try.prog env ks5 kf5 (ps5) poAll knAll kcAll ((fun (x : (pIdx : Prc).G) => ([(33, 2, Ann.by [.bk, .keep 0, .keep 1, .keep 7, .one 8 (.d I64)] (fun s g => 0 ≤ g.1 ∧ g.1 ≤ x.1.length ∧ posQ (x.1.take g.1.toNat) x.2.1.2.1 = -1) (fun s g => (x.1.length - g.1).toNat))])) x) ([]) []
noncomputable def ps6 : List (Nat × Prc) := (33, pIdx) :: ps5
noncomputable def ks6 : List (Nat × Ctr) := ks5
noncomputable def kf6 : List (Nat × Nat × Ctr) := kf5
noncomputable def fx_mplay (x : HL (cPlay : Ctr).as) : Fx := mkFxO Try.prog env ks6 kf6 (ps6) poAll knAll kcAll ((fun (x : HL (cPlay : Ctr).as) => ([(16, 5, Ann.by [.one 5 (.row tyone), .one 6 (.row I64), .one 7 (.row I64), .keep 8, .keep 17, .keep 18, .one 19 (.d I64)] (fun s g => 0 ≤ g.2.2.2.1 ∧ g.2.2.2.1 ≤ x.1.length ∧ runQ (x.1.take g.2.2.2.1.toNat) = (g.1, g.2.1, g.2.2.1) ∧ (g.1.length : Int) ≤ g.2.2.2.1 ∧ (g.2.1.length : Int) ≤ g.2.2.2.1 ∧ (g.2.2.1.length : Int) ≤ g.2.2.2.1) (fun s g => (x.1.length - g.2.2.2.1).toNat)),
  (16, 19, Ann.by [.keep 5, .keep 6, .keep 7, .keep 8, .keep 10, .keep 11, .one 14 (.d I64), .keep 17, .keep 18, .keep 19] (fun s g => 0 ≤ g.1 ∧ g.1 ≤ (s.dat (.sl tyone) 5).length ∧ g.1 ≤ inQ (s.dat (.sl tyone) 5) (s.bxd tyRunOp 10 0)) (fun s g => ((s.dat (.sl tyone) 5).length - g.1).toNat)),
  (16, 30, Ann.by [.keep 6, .keep 7, .one 8 (.row I64), .keep 143, .keep 144, .one 145 (.d I64)] (fun s g => 0 ≤ g.2.1 ∧ g.2.1 ≤ (s.dat (.sl tyone) 143).length ∧ g.1 = ids ((s.dat (.sl tyone) 143).take g.2.1.toNat)) (fun s g => ((s.dat (.sl tyone) 143).length - g.2.1).toNat))])) x) ([]) [(16,3000137),(16,4000026),(36,3000022),(36,3000025),(36,3000031),(36,4000006)]
noncomputable def ps7 : List (Nat × Prc) := ps6
noncomputable def ks7 : List (Nat × Ctr) := (16, cPlay) :: ks6
noncomputable def kf7 : List (Nat × Nat × Ctr) := kf6
noncomputable def fx_play (x : HL (cPlay : Ctr).as) : Fx := mkFxO Try.prog env ks7 kf7 (ps7) poAll knAll kcAll ((fun (x : HL (cPlay : Ctr).as) => ([(15, 5, Ann.by [.box 5 [.d U32, .orp 32 I64, .map .i64 I64], .one 6 (.row I64), .one 7 (.row I64), .keep 8, .keep 17, .keep 18, .one 19 (.d I64)] (fun s g => 0 ≤ g.2.2.2.1 ∧ g.2.2.2.1 ≤ x.1.length ∧ (∃ l, runQ (x.1.take g.2.2.2.1.toNat) = (l, g.2.1, g.2.2.1) ∧ RQ g.1 l ∧ (l.length : Int) ≤ g.2.2.2.1) ∧ (g.2.1.length : Int) ≤ g.2.2.2.1 ∧ (g.2.2.1.length : Int) ≤ g.2.2.2.1) (fun s g => (x.1.length - g.2.2.2.1).toNat)),
  (15, 13, Ann.by [.keep 5, .keep 6, .keep 7, .one 8 (.row I64), .one 13 (.d I64)] (fun s g => -1 ≤ g.2.1 ∧ g.2.1 ≤ 31 ∧ g.1 = ((List.range (31 - g.2.1).toNat).map fun j => (s.bxo I64 5 1).getD (31 - j) []).flatten) (fun s g => (g.2.1 + 1).toNat))])) x) ((fun (x : HL (cPlay : Ctr).as) => ([(15, 8, Ann.by [.box 5 [.d U32, .orp 32 I64, .map .i64 I64], .keep 6, .keep 7, .keep 8, .keep 10, .one 11 (.d I64), .one 12 (.d I64), .keep 17, .keep 18, .keep 19] (fun s g => (g.1, g.2.1, g.2.2.1) = doQ (s.bxd U32 5 0, s.bxo I64 5 1, s.bxm I64 5 2) (s.bxd tyRunOp 10 0)) (fun s g => 0)),
  (32, 2, Ann.by [.bk, .keep 0, .box 3 [.d tyRunOp], .one 7 (.d .bool)] (fun s g => g.1 = s.bxd tyRunOp 3 0 ∧ g.2.1 = mhas I64 (s.bxm I64 0 2) (s.bxd tyRunOp 3 0).2.1) (fun s g => 0)),
  (32, 15, Ann.by [.bk, .keep 0, .one 8 (.d I64)] (fun s g => g.1 = firstQ (s.bxd U32 0 0, s.bxo I64 0 1, s.bxm I64 0 2)) (fun s g => 0)),
  (55, 1, Ann.by [.bk, .keep 0, .one 1 (.d I64), .one 4 (.d I64)] (fun s g => g.1 = s.dat I64 1 ∧ g.2.1 = mval I64 (s.bxm I64 0 2) (s.dat I64 1)) (fun s g => 0)),
  (55, 2, Ann.by [.bk, .keep 0, .keep 1, .keep 4, .one 5 (.d I64)] (fun s g => g.1 = idx ((s.bxo I64 0 1).getD (s.dat I64 4).toNat []) (s.dat I64 1)) (fun s g => 0)),
  (55, 3, Ann.by [.bk, .box 0 [.keep, .orp 32 I64, .keep], .keep 1, .keep 4] (fun s g => g.1.2.1 = (s.bxo I64 0 1).set (s.dat I64 4).toNat (cutL ((s.bxo I64 0 1).getD (s.dat I64 4).toNat []) (s.dat I64 5))) (fun s g => 0)),
  (55, 5, Ann.by [.bk, .box 0 [.d U32, .keep, .keep], .keep 1] (fun s g => g.1.1 = if (s.bxo I64 0 1).getD (s.dat I64 4).toNat [] = [] then clrB (s.bxd U32 0 0) (s.dat I64 4) else s.bxd U32 0 0) (fun s g => 0)),
  (53, 5, Ann.by [.bk, .box 0 [.keep, .orp 32 I64, .map .i64 I64], .keep 2] (fun s g => g.1.2.1 = (s.bxo I64 0 1).set (s.dat I64 2).toNat (s.dat (.sl I64) 8) ∧ g.1.2.2 = mput I64 (s.bxm I64 0 2) (s.dat I64 1) (s.dat I64 2)) (fun s g => 0))])) x) [(53,9000004),(53,29000024),(53,8000036),(53,27000030),(53,27000032),(55,9000002),(55,8000027),(55,8000031),(55,29000024),(55,27000020),(55,27000021),(55,27000028),(55,27000029),(55,27000030),(55,27000032),(55,27000033),(32,9000014),(32,8000061),(65,3000022),(65,3000025),(65,3000031),(65,4000006)]
noncomputable def ps8 : List (Nat × Prc) := ps7
noncomputable def ks8 : List (Nat × Ctr) := (15, cPlay) :: ks7
noncomputable def kf8 : List (Nat × Nat × Ctr) := kf7
noncomputable def fx_law (x : HL (cLaw : Ctr).as) : Fx := mkFxO Try.prog env ks8 kf8 (ps8) poAll knAll kcAll ([]) ([]) []
noncomputable def ps9 : List (Nat × Prc) := ps8
noncomputable def ks9 : List (Nat × Ctr) := (5, cLaw) :: ks8
noncomputable def kf9 : List (Nat × Nat × Ctr) := kf8
noncomputable def ksAll : List (Nat × Ctr) := ks9
end Go.Proofs.Ytpmfgdedkmddlaa.Runq
