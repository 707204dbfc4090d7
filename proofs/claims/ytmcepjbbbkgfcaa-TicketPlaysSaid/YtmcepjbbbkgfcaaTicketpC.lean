/-
  TicketPlays: what each function computes (its contract), and what its loops keep.
-/
import Derived.Test.YtmcepjbbbkgfcaaEnv
import Derived.Test.YtmcepjbbbkgfcaaSxZA
namespace Go.Proofs.Ytmcepjbbbkgfcaa.Ticketp
open Go.Sx
set_option maxRecDepth 100000
set_option linter.unusedVariables false

/- Next, Now, Mine, In. -/
abbrev LK := Int × Int × List Int × List Bool
def mi (l : LK) (c : Int) : Int := l.2.2.1.getD c.toNat 0
def inn (l : LK) (c : Int) : Bool := l.2.2.2.getD c.toNat false
def inB (l : LK) : Prop := 0 ≤ l.2.1 ∧ l.2.1 ≤ l.1 ∧ l.1 - l.2.1 ≤ 8 ∧ l.1 ≤ 1099511627776
def okc (l : LK) (c : Int) : Prop := (mi l c = -1 ∧ inn l c = false) ∨ ((l.2.1 ≤ mi l c ∧ mi l c < l.1) ∧ (inn l c = true → mi l c = l.2.1))
def okTo (l : LK) (k : Int) : Prop := ∀ c : Int, 0 ≤ c → c < k → okc l c
def oneTo (l : LK) (k : Int) : Prop := ∀ c d : Int, 0 ≤ c → c < d → d < k → mi l c = mi l d → mi l c = -1
def someTo (l : LK) (t k : Int) : Prop := ∃ c : Int, 0 ≤ c ∧ c < k ∧ mi l c = t
def Good (l : LK) : Prop := inB l ∧ okTo l 8 ∧ oneTo l 8 ∧ ∀ t : Int, l.2.1 ≤ t → t < l.1 → someTo l t 8
open Classical in
noncomputable def right (l : LK) : Bool := decide (Good l)
/-- Which cores below k have ticket t. -/
def hk (l : LK) (t : Int) : Nat → List Int
  | 0 => []
  | k + 1 => hk l t k ++ (if mi l (k : Int) = t then [(k : Int)] else [])
def Q (l : LK) : Nat → List Int
  | 0 => []
  | j + 1 => Q l j ++ hk l (l.2.1 + j) 8
def cnt (l : LK) : Nat → Int
  | 0 => 0
  | k + 1 => cnt l k + (if mi l (k : Int) ≠ -1 then 1 else 0)
def inTo (l : LK) (k : Int) : Prop := ∀ c : Int, 0 ≤ c → c < k → inn l c = true → mi l c = l.2.1 ∧ mi l c ≠ -1
def qok (l : LK) (k : Int) : Prop := (cnt l 8 = (Q l (l.1 - l.2.1).toNat).length ∧ cnt l 8 = l.1 - l.2.1) ∧ ∀ j : Int, 0 ≤ j → j < k → mi l ((Q l (l.1 - l.2.1).toNat).getD j.toNat 0) = l.2.1 + j
open Classical in
noncomputable def fq (l : LK) : List Int × Bool :=
  if inB l ∧ inTo l 8 then (Q l (l.1 - l.2.1).toNat, decide (qok l (Q l (l.1 - l.2.1).toNat).length)) else ([], false)
def bad (e : Int) : LK × Bool × Int × Unit := ((0, 0, [0, 0, 0, 0, 0, 0, 0, 0], [false, false, false, false, false, false, false, false]), false, e, ())
noncomputable def step (l : LK) (k c : Int) : LK × Bool × Int × Unit :=
  if right l = false then bad 1
  else if k < 1 ∨ 3 < k then bad 5
  else if c < 0 ∨ 8 ≤ c then bad 2
  else if k = 1 then (if 0 ≤ mi l c then bad 6 else if l.1 = 1099511627776 then bad 4 else ((l.1 + 1, l.2.1, l.2.2.1.set c.toNat l.1, l.2.2.2), false, 0, ()))
  else if k = 2 then (if mi l c < 0 then bad 3 else ((l.1, l.2.1, l.2.2.1, l.2.2.2.set c.toNat (mi l c == l.2.1)), mi l c == l.2.1, 0, ()))
  else (if inn l c = false then bad 3 else ((l.1, l.2.1 + 1, l.2.2.1.set c.toNat (-1), l.2.2.2.set c.toNat false), false, 0, ()))
@[reducible] noncomputable def cRight : Ctr := ⟨[tyLock], [.bool], fun _ => True, fun x => (right x.1, ()), false⟩
@[reducible] noncomputable def cFq : Ctr := ⟨[tyLock], [.sl I64, .bool], fun _ => True, fun x => ((fq x.1).1, (fq x.1).2, ()), false⟩
@[reducible] noncomputable def cStep : Ctr := ⟨[tyLock, tyLockOp], [tyLock, .bool, I64], fun _ => True, fun x => step x.1 x.2.1.1 x.2.1.2, false⟩
@[reducible] def cLaw : Ctr := ⟨[tyLock, tyLockOp], [.bool], fun _ => True, fun _ => (true, ()), false⟩


def new : LK := (0, 0, [-1, -1, -1, -1, -1, -1, -1, -1], [false, false, false, false, false, false, false, false])
open Classical in
noncomputable def one (s : LK × List Int) (o : Int × Int) : LK × List Int :=
  if (step s.1 o.1 o.2).2.2.1 = 0 then ((step s.1 o.1 o.2).1, if (step s.1 o.1 o.2).2.1 = true ∧ inn s.1 o.2 = false then s.2 ++ [o.2] else s.2) else s
noncomputable def pl (ops : List (Int × Int)) : LK × List Int := ops.foldl one (new, [])
@[reducible] def cNew : Ctr := ⟨[], [tyLock], fun _ => True, fun _ => (new, ()), false⟩
@[reducible] noncomputable def cPlay : Ctr := ⟨[.sl tyLockOp], [.sl I64, tyLock], fun x => x.1.length * 16 ≤ 140737488355328, fun x => ((pl x.1).2, (pl x.1).1, ()), false⟩
@[reducible] def cEqual : Ctr := ⟨[.sl I64, .sl I64], [.bool], fun _ => True, fun x => (decide (x.1 = x.2.1), ()), false⟩
@[reducible] def cLawP : Ctr := ⟨[.sl tyLockOp], [.bool], fun x => x.1.length * 16 ≤ 140737488355328, fun _ => (true, ()), false⟩


noncomputable def ks0 : List (Nat × Ctr) := []
noncomputable def fx_right (x : HL (cRight : Ctr).as) : Fx := mkFx Try.prog env ks0 ((fun (x : HL (cRight : Ctr).as) => ([(86, 5, Ann.by [.keep 1, .one 3 (.row Bo), .keep 38, .one 39 (.d I64)] (fun s g => 0 ≤ g.2.1 ∧ g.2.1 ≤ 8 ∧ (g.1.length : Int) = x.1.1 - x.1.2.1 ∧ okTo x.1 g.2.1 ∧ oneTo x.1 g.2.1 ∧ ∀ j : Int, 0 ≤ j → j < x.1.1 - x.1.2.1 → (g.1.getD j.toNat false = true ↔ someTo x.1 (x.1.2.1 + j) g.2.1)) (fun s g => (8 - g.2.1).toNat)),
  (86, 15, Ann.by [.keep 89, .keep 90, .one 91 (.d I64)] (fun s g => 0 ≤ g.1 ∧ g.1 ≤ x.1.1 - x.1.2.1 ∧ ∀ t : Int, x.1.2.1 ≤ t → t < x.1.2.1 + g.1 → someTo x.1 t 8) (fun s g => (x.1.1 - x.1.2.1 - g.1).toNat))])) x) ([]) []
noncomputable def ks1 : List (Nat × Ctr) := (86, cRight) :: ks0
noncomputable def fx_fq (x : HL (cFq : Ctr).as) : Fx := mkFx Try.prog env ks1 ((fun (x : HL (cFq : Ctr).as) => ([(87, 5, Ann.by [.keep 1, .one 4 (.row I64), .one 5 (.d I64)] (fun s g => x.1.2.1 ≤ g.2.1 ∧ g.2.1 ≤ x.1.1 ∧ g.1 = Q x.1 (g.2.1 - x.1.2.1).toNat ∧ (g.1.length : Int) ≤ 8 * (g.2.1 - x.1.2.1)) (fun s g => (x.1.1 - g.2.1).toNat)),
  (87, 8, Ann.by [.keep 1, .one 4 (.row I64), .keep 5, .keep 46, .one 47 (.d I64)] (fun s g => 0 ≤ g.2.1 ∧ g.2.1 ≤ 8 ∧ g.1 = Q x.1 (s.dat I64 5 - x.1.2.1).toNat ++ hk x.1 (s.dat I64 5) g.2.1.toNat ∧ (g.1.length : Int) ≤ 8 * (s.dat I64 5 - x.1.2.1) + g.2.1) (fun s g => (8 - g.2.1).toNat)),
  (87, 15, Ann.by [.keep 1, .keep 4, .one 8 (.d I64), .keep 60, .one 61 (.d I64)] (fun s g => 0 ≤ g.2.1 ∧ g.2.1 ≤ 8 ∧ g.1 = cnt x.1 g.2.1.toNat ∧ 0 ≤ g.1 ∧ g.1 ≤ g.2.1 ∧ inTo x.1 g.2.1) (fun s g => (8 - g.2.1).toNat)),
  (87, 24, Ann.by [.keep 1, .keep 4, .one 11 (.d Bo), .keep 97, .keep 98, .one 99 (.d I64)] (fun s g => 0 ≤ g.2.1 ∧ g.2.1 ≤ (Q x.1 (x.1.1 - x.1.2.1).toNat).length ∧ (g.1 = true ↔ qok x.1 g.2.1)) (fun s g => ((Q x.1 (x.1.1 - x.1.2.1).toNat).length - g.2.1).toNat))])) x) ([]) []
noncomputable def ks2 : List (Nat × Ctr) := (87, cFq) :: ks1
noncomputable def fx_step (x : HL (cStep : Ctr).as) : Fx := mkFx Try.prog env ks2 ([]) ([]) []
noncomputable def ks3 : List (Nat × Ctr) := (68, cStep) :: ks2
noncomputable def fx_fstep (x : HL (cStep : Ctr).as) : Fx := mkFx Try.prog env ks3 ((fun (x : HL (cStep : Ctr).as) => ([(69, 4, Ann.by [.keep 2, .keep 3, .keep 4, .keep 8, .one 9 (.d I64), .keep 19, .keep 20, .one 21 (.d I64)] (fun s g => 0 ≤ g.2.1 ∧ g.2.1 ≤ (fq x.1).1.length ∧ -1 ≤ g.1 ∧ g.1 < g.2.1 ∧ (0 ≤ g.1 → (fq x.1).1.getD g.1.toNat 0 = x.2.1.2) ∧ (∀ j : Int, g.1 < j → 0 ≤ j → j < g.2.1 → (fq x.1).1.getD j.toNat 0 ≠ x.2.1.2)) (fun s g => ((fq x.1).1.length - g.2.1).toNat))])) x) ([]) []
noncomputable def ks4 : List (Nat × Ctr) := (69, cStep) :: ks3
noncomputable def fx_equal (x : HL (cEqual : Ctr).as) : Fx := mkFx Try.prog env ks4 ((fun (x : HL (cEqual : Ctr).as) => ([(18, 4, Ann.by [.keep 0, .keep 1, .keep 12, .one 13 (.d I64)] (fun s g => 0 ≤ g.1 ∧ g.1 ≤ x.1.length ∧ x.1.take g.1.toNat = x.2.1.take g.1.toNat) (fun s g => (x.1.length - g.1).toNat))])) x) ([]) []
noncomputable def ks5 : List (Nat × Ctr) := (18, cEqual) :: ks4
noncomputable def fx_new (x : HL (cNew : Ctr).as) : Fx := mkFx Try.prog env ks5 ((fun (x : HL (cNew : Ctr).as) => ([(44, 3, Ann.by [.keep 0, .box 1 [.d tyLock], .one 3 (.d I64)] (fun s g => 0 ≤ g.2.1 ∧ g.2.1 ≤ 8 ∧ g.1 = (0, 0, List.replicate g.2.1.toNat (-1) ++ List.replicate (8 - g.2.1).toNat 0, [false, false, false, false, false, false, false, false])) (fun s g => (8 - g.2.1).toNat))])) x) ([]) []
noncomputable def ks6 : List (Nat × Ctr) := (44, cNew) :: ks5
noncomputable def fx_play (x : HL (cPlay : Ctr).as) : Fx := mkFx Try.prog env ks6 ((fun (x : HL (cPlay : Ctr).as) => ([(42, 4, Ann.by [.keep 3, .box 4 [.d tyLock], .one 5 (.row I64), .keep 12, .keep 13, .one 14 (.d I64)] (fun s g => 0 ≤ g.2.2.1 ∧ g.2.2.1 ≤ x.1.length ∧ pl (x.1.take g.2.2.1.toNat) = (g.1, g.2.1) ∧ (g.2.1.length : Int) ≤ g.2.2.1) (fun s g => (x.1.length - g.2.2.1).toNat))])) x) ([]) []
noncomputable def ks7 : List (Nat × Ctr) := (42, cPlay) :: ks6
noncomputable def fx_fplay (x : HL (cPlay : Ctr).as) : Fx := mkFx Try.prog env ks7 ((fun (x : HL (cPlay : Ctr).as) => ([(43, 4, Ann.by [.keep 3, .box 4 [.d tyLock], .one 5 (.row I64), .keep 13, .keep 14, .one 15 (.d I64)] (fun s g => 0 ≤ g.2.2.1 ∧ g.2.2.1 ≤ x.1.length ∧ pl (x.1.take g.2.2.1.toNat) = (g.1, g.2.1) ∧ (g.2.1.length : Int) ≤ g.2.2.1) (fun s g => (x.1.length - g.2.2.1).toNat))])) x) ([]) []
noncomputable def ks8 : List (Nat × Ctr) := (43, cPlay) :: ks7
noncomputable def fx_plays (x : HL (cLawP : Ctr).as) : Fx := mkFx Try.prog env ks8 ([]) ([]) []
noncomputable def ks9 : List (Nat × Ctr) := (11, cLawP) :: ks8
noncomputable def ksAll : List (Nat × Ctr) := ks9
end Go.Proofs.Ytmcepjbbbkgfcaa.Ticketp
