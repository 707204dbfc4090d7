/-
  WheelPlays: what each function computes (its contract), and what its loops keep.
-/
import Derived.Test.YtpnmfoojmodnlaaEnv
import Derived.Test.YtpnmfoojmodnlaaSxZA
namespace Go.Proofs.Ytpnmfoojmodnlaa.Wheel
open Go.Sx
set_option maxRecDepth 100000
set_option linter.unusedVariables false

@[reducible] def RR {α : Type} (x : α) : Prop := x = x
@[reducible] def R8 (p : Prop) : Prop := True ∧ True ∧ True ∧ True ∧ True ∧ True ∧ True ∧ True ∧ p
@[reducible] def R32 (p : Prop) : Prop := R8 (R8 (R8 (R8 p)))
theorem RR_eq {α : Type} (x : α) : RR x = True := eq_self x
theorem R8_eq (p : Prop) : R8 p = p := by unfold R8; simp only [true_and]
theorem R32_eq (p : Prop) : R32 p = p := by unfold R32; simp only [R8_eq]
abbrev TO := Int × Int × Int
/- A time and a number. -/
abbrev TI2 := Int × Int
abbrev SM := List (Int × Int)
def sortI (l : List Int) : List Int := l.mergeSort fun x y => decide (x ≤ y)
def leF (x y : TI2) : Bool := decide (x.1 < y.1) || (decide (x.1 = y.1) && decide (x.2 ≤ y.2))
def sortF (l : List TI2) : List TI2 := l.mergeSort leF
def okF (p : TI2) : Bool := decide (0 ≤ p.1) && decide (p.1 ≤ 1099511627776)
/- The reference: the time, who is set for when, who fired. -/
abbrev KS := Int × SM × List TI2
def errK (m : SM) (o : TO) : Int :=
  if o.1 < 1 ∨ 3 < o.1 then 5 else if (o.1 = 1 ∧ (o.2.2 < 1 ∨ 511 < o.2.2)) ∨ (o.1 = 3 ∧ (o.2.2 < 0 ∨ 2000 < o.2.2)) then 2
  else if o.1 = 1 ∧ mhas I64 m o.2.1 = true then 6 else if o.1 = 2 ∧ mhas I64 m o.2.1 = false then 3 else 0
def dueK (m : SM) (now : Int) : List TI2 := sortF ((m.filter fun e => decide (e.2 ≤ now)).map fun e => (e.2, e.1))
def restK (m : SM) (now : Int) : SM := m.filter fun e => !decide (e.2 ≤ now)
def nextK (s : KS) (o : TO) : KS :=
  if errK s.2.1 o ≠ 0 then s else if o.1 = 1 then (s.1, mput I64 s.2.1 o.2.1 (s.1 + o.2.2), s.2.2) else if o.1 = 2 then (s.1, mdel I64 s.2.1 o.2.1, s.2.2)
  else (s.1 + o.2.2, restK s.2.1 (s.1 + o.2.2), s.2.2 ++ dueK s.2.1 (s.1 + o.2.2))
def stK (s : KS × List Int) (o : TO) : KS × List Int := (nextK s.1 o, s.2 ++ [errK s.1.2.1 o])
def runK (ops : List TO) : KS × List Int := ops.foldl stK ((0, [], []), [])
def kplay (ops : List TO) : List Int × List TI2 × Int × Int × Unit :=
  if 400 < ops.length then ([], [], 0, 2, ()) else ((runK ops).2, (runK ops).1.2.2, (runK ops).1.2.1.length, 0, ())
def opAt (l : List TO) (k : Int) : TO := l.getD k.toNat (0, 0, 0)
def kOk (s : KS) (k : Int) : Prop := (0 ≤ s.1 ∧ s.1 ≤ 2000 * k) ∧ (∀ e ∈ s.2.1, s.1 < e.2 ∧ e.2 ≤ s.1 + 511) ∧ (s.2.1.map Prod.fst).Nodup ∧ ((s.2.1.length + s.2.2.length : Nat) : Int) ≤ k
@[reducible] def cEqual : Ctr := ⟨[.sl I64, .sl I64], [.bool], fun _ => True, fun x => (decide (x.1 = x.2.1), ()), false⟩
@[reducible] def cEqualF : Ctr := ⟨[.sl tyFired, .sl tyFired], [.bool], fun _ => True, fun x => (decide (x.1 = x.2.1), ()), false⟩
@[reducible] def cCompact : Ctr := ⟨[.sl I64], [.sl I64], fun x => x.1.Pairwise (· < ·), fun x => (x.1, ()), false⟩
@[reducible] def own1 : St := canon [.one (.row 1)] [(1, .row I64 [])] 2
@[reducible] def pSort : Prc := Prc.by 1 own1 [.own 0 I64] (fun g => g.1.length ≤ 400) [] (fun g => ((sortI g.1, g.2), ()))
@[reducible] def own2 : St := canon [.one (.row 1), .one (.con (.func (.func 47) #[] #[]))] [(1, .row tyFired [])] 2
@[reducible] def pSortF : Prc := Prc.by 2 own2 [.own 0 tyFired, .keep 1] (fun g => g.1.length ≤ 400 ∧ g.1.all okF = true ∧ g.1.Nodup) [] (fun g => ((sortF g.1, g.2), ()))
@[reducible] def cPlay : Ctr := ⟨[.sl tyTimerOp], [.sl I64, .sl tyFired, I64, I64], fun _ => True, fun x => kplay x.1, false⟩
@[reducible] def cLaw : Ctr := ⟨[.sl tyTimerOp], [.bool], fun _ => True, fun _ => (true, ()), false⟩

/- The wheels in memory: the time, the spokes' lists, who is set for when, who fired. -/
abbrev WM := Int × List (List TI2) × SM × List TI2
def plc (now t : Int) : Nat := if t - now < 8 then (t % 8).toNat else if t / 8 - now / 8 < 8 then 8 + (t / 8 % 8).toNat else 16 + (t / 64 % 8).toNat
def putW (now : Int) (on : List (List TI2)) (t : TI2) : List (List TI2) := on.set (plc now t.1) (on.getD (plc now t.1) [] ++ [t])
def spk (now size k : Int) : Nat := k.toNat * 8 + (now / size % 8).toNat
def casc (now size k : Int) (on : List (List TI2)) : List (List TI2) := if now % size = 0 then (on.getD (spk now size k) []).foldl (putW now) (on.set (spk now size k) []) else on
def tickOn (now : Int) (on : List (List TI2)) : List (List TI2) := casc now 8 1 (casc now 64 2 on)
def fireW (a : SM × List Int) (t : TI2) : SM × List Int := if mhas I64 a.1 t.2 = true ∧ (mval I64 a.1 t.2 : Int) = t.1 then (mdel I64 a.1 t.2, a.2 ++ [t.2]) else a
def burn (now : Int) (on : List (List TI2)) (m : SM) : SM × List Int := ((tickOn now on).getD (spk now 1 0) []).foldl fireW (m, [])
def tickW (q : WM) : WM := (q.1 + 1, (tickOn (q.1 + 1) q.2.1).set (spk (q.1 + 1) 1 0) [], (burn (q.1 + 1) q.2.1 q.2.2.1).1, q.2.2.2 ++ (sortI (burn (q.1 + 1) q.2.1 q.2.2.1).2).map fun i => (q.1 + 1, i))
def ticksW (q : WM) : Nat → WM
  | 0 => q
  | n + 1 => tickW (ticksW q n)
def doW (q : WM) (o : TO) : WM :=
  if errK q.2.2.1 o ≠ 0 then q else if o.1 = 1 then (q.1, putW q.1 q.2.1 (q.1 + o.2.2, o.2.1), mput I64 q.2.2.1 o.2.1 (q.1 + o.2.2), q.2.2.2)
  else if o.1 = 2 then (q.1, q.2.1, mdel I64 q.2.2.1 o.2.1, q.2.2.2) else ticksW q o.2.2.toNat
def okE (now l0 l1 l2 : Int) (i : Nat) (t : TI2) : Prop :=
  (i < 8 → now + l0 ≤ t.1 ∧ t.1 < now + 8 ∧ (t.1 % 8).toNat = i) ∧ (8 ≤ i → i < 16 → l1 ≤ t.1 / 8 - now / 8 ∧ t.1 / 8 - now / 8 < 8 ∧ 8 + (t.1 / 8 % 8).toNat = i) ∧
  (16 ≤ i → l2 ≤ t.1 / 64 - now / 64 ∧ t.1 ≤ now + 510 + l0 ∧ 16 + (t.1 / 64 % 8).toNat = i)
def okW (now l0 l1 l2 : Int) (on : List (List TI2)) : Prop := on.length = 24 ∧ ∀ i < 24, ∀ t ∈ on.getD i [], okE now l0 l1 l2 i t
def isIn (on : List (List TI2)) (t : TI2) : Prop := ∃ i < 24, t ∈ on.getD i []
def tot (on : List (List TI2)) : Nat := (on.map List.length).sum
def okQ (q : WM) (k : Int) : Prop := kOk (q.1, q.2.2.1, q.2.2.2) k ∧ okW q.1 1 1 1 q.2.1 ∧ (∀ e ∈ q.2.2.1, isIn q.2.1 (e.2, e.1)) ∧ (tot q.2.1 : Int) ≤ k


noncomputable def ks0 : List (Nat × Ctr) := []
noncomputable def kf0 : List (Nat × Nat × Ctr) := []
noncomputable def ps0 : List (Nat × Prc) := []
noncomputable def fx_sort (x : (pSort : Prc).G) : Fx := mkFxG Try.prog env ks0 kf0 (ps0) ([]) ([]) []
noncomputable def ps1 : List (Nat × Prc) := (41, pSort) :: ps0
noncomputable def ks1 : List (Nat × Ctr) := ks0
noncomputable def kf1 : List (Nat × Nat × Ctr) := kf0
noncomputable def fx_sortf (x : (pSortF : Prc).G) : Fx := mkFxG Try.prog env ks1 kf1 (ps1) ([]) ([]) []
noncomputable def ps2 : List (Nat × Prc) := (46, pSortF) :: ps1
noncomputable def ks2 : List (Nat × Ctr) := ks1
noncomputable def kf2 : List (Nat × Nat × Ctr) := kf1
noncomputable def fx_equal (x : HL (cEqual : Ctr).as) : Fx := mkFxG Try.prog env ks2 kf2 (ps2) ((fun (x : HL (cEqual : Ctr).as) => ([(21, 4, Ann.by [.keep 0, .keep 1, .keep 12, .one 13 (.d I64)] (fun s g => 0 ≤ g.1 ∧ g.1 ≤ x.1.length ∧ x.1.take g.1.toNat = x.2.1.take g.1.toNat) (fun s g => (x.1.length - g.1).toNat))])) x) ([]) []
noncomputable def ps3 : List (Nat × Prc) := ps2
noncomputable def ks3 : List (Nat × Ctr) := (21, cEqual) :: ks2
noncomputable def kf3 : List (Nat × Nat × Ctr) := kf2
noncomputable def fx_equalf (x : HL (cEqualF : Ctr).as) : Fx := mkFxG Try.prog env ks3 kf3 (ps3) ((fun (x : HL (cEqualF : Ctr).as) => ([(22, 4, Ann.by [.keep 0, .keep 1, .keep 12, .one 13 (.d I64)] (fun s g => 0 ≤ g.1 ∧ g.1 ≤ x.1.length ∧ x.1.take g.1.toNat = x.2.1.take g.1.toNat) (fun s g => (x.1.length - g.1).toNat))])) x) ([]) []
noncomputable def ps4 : List (Nat × Prc) := ps3
noncomputable def ks4 : List (Nat × Ctr) := (22, cEqualF) :: ks3
noncomputable def kf4 : List (Nat × Nat × Ctr) := kf3
noncomputable def fx_compact (x : HL (cCompact : Ctr).as) : Fx := mkFxG Try.prog env ks4 kf4 (ps4) ((fun (x : HL (cCompact : Ctr).as) => ([(90, 4, Ann.by [.keep 0, .one 3 (.d I64)] (fun s g => 1 ≤ g.1 ∧ g.1 ≤ x.1.length) (fun s g => (x.1.length - g.1).toNat)),
  (90, 9, Ann.by [.keep 0, .one 3 (.d I64), .keep 4, .one 5 (.d I64)] (fun s g => False) (fun s g => 0))])) x) ([]) []
noncomputable def ps5 : List (Nat × Prc) := ps4
noncomputable def ks5 : List (Nat × Ctr) := (90, cCompact) :: ks4
noncomputable def kf5 : List (Nat × Nat × Ctr) := kf4
noncomputable def fx_kplay (x : HL (cPlay : Ctr).as) : Fx := mkFxG Try.prog env ks5 kf5 (ps5) ((fun (x : HL (cPlay : Ctr).as) => ([(20, 8, Ann.by [.one 6 (.d I64), .ownm 7 .i64 I64, .one 8 (.row I64), .one 9 (.row tyFired), .keep 24, .keep 25, .one 26 (.d I64)] (fun s g => 0 ≤ g.2.2.2.2.1 ∧ g.2.2.2.2.1 ≤ x.1.length ∧ runK (x.1.take g.2.2.2.2.1.toNat) = ((g.1, g.2.1, g.2.2.2.1), g.2.2.1) ∧ kOk (g.1, g.2.1, g.2.2.2.1) g.2.2.2.2.1 ∧ (g.2.2.1.length : Int) ≤ g.2.2.2.2.1) (fun s g => (x.1.length - g.2.2.2.2.1).toNat)),
  (20, 15, Ann.by [.keep 6, .keep 7, .keep 8, .keep 9, .keep 12, .one 15 (.row tyFired), .keep 24, .keep 25, .keep 26, .itm 42 .i64 I64] (fun s g => ∃ a, (a ++ g.2.1).Perm (s.its I64 42) ∧ g.1 = (a.filter fun e => decide (e.2 ≤ s.dat I64 6)).map fun e => (e.2, e.1)) (fun s g => g.2.1.length)),
  (20, 21, Ann.by [.keep 6, .ownm 7 .i64 I64, .keep 8, .keep 9, .keep 12, .keep 15, .keep 24, .keep 25, .keep 26, .keep 59, .keep 60, .one 61 (.d I64)] (fun s g => 0 ≤ g.2.1 ∧ g.2.1 ≤ (s.dat (.sl tyFired) 59).length ∧ g.1 = ((s.dat (.sl tyFired) 59).take g.2.1.toNat).foldl (fun a f => mdel I64 a f.2) (s.mp I64 7)) (fun s g => ((s.dat (.sl tyFired) 59).length - g.2.1).toNat))])) x) ([]) []
noncomputable def ps6 : List (Nat × Prc) := ps5
noncomputable def ks6 : List (Nat × Ctr) := (20, cPlay) :: ks5
noncomputable def kf6 : List (Nat × Nat × Ctr) := kf5
noncomputable def fx_play (x : HL (cPlay : Ctr).as) : Fx := mkFxG Try.prog env ks6 kf6 (ps6) ((fun (x : HL (cPlay : Ctr).as) => ([(19, 6, Ann.by [.box 6 [.d I64, .orp 24 tytimer, .map .i64 I64, .row tyFired], .one 7 (.row I64), .keep 16, .keep 17, .one 18 (.d I64)] (fun s g => 0 ≤ g.2.2.1 ∧ g.2.2.1 ≤ x.1.length ∧ runK (x.1.take g.2.2.1.toNat) = ((g.1.1, g.1.2.2.1, g.1.2.2.2), g.2.1) ∧ okQ g.1 g.2.2.1 ∧ (g.2.1.length : Int) ≤ g.2.2.1) (fun s g => (x.1.length - g.2.2.1).toNat)),
  (45, 19, Ann.by [.bk, .box 0 [.d I64, .orp 24 tytimer, .map .i64 I64, .row tyFired], .keep 76, .one 77 (.d I64)] (fun s g => 0 ≤ g.2.1 ∧ g.2.1 ≤ s.dat I64 76 ∧ g.1 = ticksW (s.bxd I64 0 0, s.bxo tytimer 0 1, s.bxm I64 0 2, s.bxd (.sl tyFired) 0 3) g.2.1.toNat) (fun s g => (s.dat I64 76 - g.2.1).toNat)),
  (65, 2, Ann.by [.bk, .box 0 [.keep, .orp 24 tytimer, .keep, .keep], .one 2 (.d I64), .one 3 (.d I64)] (fun s g => (g.2.1 = 2 ∧ g.2.2.1 = 64 ∧ g.1.2.1 = s.bxo tytimer 0 1) ∨ (g.2.1 = 1 ∧ g.2.2.1 = 8 ∧ g.1.2.1 = casc (s.bxd I64 0 0) 64 2 (s.bxo tytimer 0 1)) ∨ (g.2.1 = 0 ∧ g.2.2.1 = 1 ∧ g.1.2.1 = tickOn (s.bxd I64 0 0) (s.bxo tytimer 0 1))) (fun s g => g.2.1.toNat)),
  (65, 6, Ann.by [.bk, .box 0 [.keep, .orp 24 tytimer, .keep, .keep], .keep 2, .keep 3, .keep 42, .keep 43, .one 44 (.d I64)] (fun s g => 0 ≤ g.2.1 ∧ g.2.1 ≤ (s.dat (.sl tytimer) 42).length ∧ g.1.2.1 = ((s.dat (.sl tytimer) 42).take g.2.1.toNat).foldl (putW (s.bxd I64 0 0)) (s.bxo tytimer 0 1)) (fun s g => ((s.dat (.sl tytimer) 42).length - g.2.1).toNat)),
  (65, 12, Ann.by [.bk, .box 0 [.keep, .keep, .map .i64 I64, .keep], .one 6 (.row I64), .keep 58, .keep 59, .one 60 (.d I64)] (fun s g => 0 ≤ g.2.2.1 ∧ g.2.2.1 ≤ (s.dat (.sl tytimer) 58).length ∧ (g.1.2.2.1, g.2.1) = ((s.dat (.sl tytimer) 58).take g.2.2.1.toNat).foldl fireW (s.bxm I64 0 2, [])) (fun s g => ((s.dat (.sl tytimer) 58).length - g.2.2.1).toNat)),
  (65, 21, Ann.by [.bk, .box 0 [.keep, .keep, .keep, .row tyFired], .keep 96, .keep 97, .one 98 (.d I64)] (fun s g => 0 ≤ g.2.1 ∧ g.2.1 ≤ (s.dat (.sl I64) 96).length ∧ g.1.2.2.2 = s.bxd (.sl tyFired) 0 3 ++ ((s.dat (.sl I64) 96).take g.2.1.toNat).map fun i => (s.bxd I64 0 0, i)) (fun s g => ((s.dat (.sl I64) 96).length - g.2.1).toNat)),
  (64, 3, Ann.by [.bk, .keep 0, .keep 3, .one 4 (.d I64), .one 7 (.d I64)] (fun s g => (g.2.1 = 0 ∧ g.1 = 1) ∨ (g.2.1 = 1 ∧ g.1 = 8 ∧ 8 ≤ (s.bxd tytimer 3 0).1 - s.bxd I64 0 0) ∨ (g.2.1 = 2 ∧ g.1 = 64 ∧ 8 ≤ (s.bxd tytimer 3 0).1 - s.bxd I64 0 0 ∧ 8 ≤ (s.bxd tytimer 3 0).1 / 8 - s.bxd I64 0 0 / 8)) (fun s g => (3 - g.2.1).toNat))])) x) ((fun (x : HL (cPlay : Ctr).as) => ([(19, 9, Ann.by [.box 6 [.d I64, .orp 24 tytimer, .map .i64 I64, .row tyFired], .one 7 (.row I64), .keep 16, .keep 17, .keep 18] (fun s g => g.1 = doW (s.bxd I64 6 0, s.bxo tytimer 6 1, s.bxm I64 6 2, s.bxd (.sl tyFired) 6 3) (opAt (s.dat (.sl tyTimerOp) 16) (s.dat I64 18)) ∧ g.2.1 = s.dat (.sl I64) 7 ++ [errK (s.bxm I64 6 2) (opAt (s.dat (.sl tyTimerOp) 16) (s.dat I64 18))]) (fun s g => 0)),
  (45, 2, Ann.by [.bk, .keep 0, .box 3 [.d tyTimerOp], .one 6 (.d .bool)] (fun s g => g.1 = s.bxd tyTimerOp 3 0 ∧ g.2.1 = mhas I64 (s.bxm I64 0 2) (s.bxd tyTimerOp 3 0).2.1) (fun s g => 0)),
  (65, 1, Ann.by [.bk, .box 0 [.d I64, .keep, .keep, .keep]] (fun s g => g.1.1 = s.bxd I64 0 0 + 1) (fun s g => 0))])) x) [(64,9000007),(64,8000040),(64,8000043),(64,29000081),(64,27000037),(64,27000038),(45,9000010),(45,8000054)]
noncomputable def ps7 : List (Nat × Prc) := ps6
noncomputable def ks7 : List (Nat × Ctr) := (19, cPlay) :: ks6
noncomputable def kf7 : List (Nat × Nat × Ctr) := kf6
noncomputable def fx_law (x : HL (cLaw : Ctr).as) : Fx := mkFxG Try.prog env ks7 kf7 (ps7) ([]) ([]) []
noncomputable def ps8 : List (Nat × Prc) := ps7
noncomputable def ks8 : List (Nat × Ctr) := (5, cLaw) :: ks7
noncomputable def kf8 : List (Nat × Nat × Ctr) := kf7
noncomputable def ksAll : List (Nat × Ctr) := ks8
end Go.Proofs.Ytpnmfoojmodnlaa.Wheel
