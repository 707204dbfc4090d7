/-
  UartPlays: what each function computes (its contract), and what its loops keep.
-/
import Derived.Test.YtollphjlheabdaaEnv
import Derived.Test.YtollphjlheabdaaSxZA
namespace Go.Proofs.Ytollphjlheabdaa.Uartp
open Go.Sx
set_option maxRecDepth 100000
set_option linter.unusedVariables false

abbrev UT := List Int × List Int × Int × Bool
def right (u : UT) : Bool := decide (u.1.length ≤ 16) && decide (u.2.1.length ≤ 16) && decide (0 ≤ u.2.2.1) && decide (u.2.2.1 ≤ 1099511627776) && (u.2.2.2 == decide (0 < u.1.length))
def fin (i o : List Int) (l b : Int) : UT × Int × Int × Unit := ((i, o, l, decide (0 < i.length)), b, 0, ())
def bad (e : Int) : UT × Int × Int × Unit := (([], [], 0, false), 0, e, ())
def step (u : UT) (k c : Int) : UT × Int × Int × Unit :=
  if right u then
    (if k = 1 then (if u.1.length < 16 then fin (u.1 ++ [c]) u.2.1 u.2.2.1 0 else if u.2.2.1 = 1099511627776 then bad 4 else fin u.1 u.2.1 (u.2.2.1 + 1) 0)
     else if k = 2 then (if u.1 = [] then bad 3 else fin (u.1.drop 1) u.2.1 u.2.2.1 (u.1.getD 0 0))
     else if k = 3 then (if u.2.1.length = 16 then bad 7 else fin u.1 (u.2.1 ++ [c]) u.2.2.1 0)
     else if k = 4 then (if u.2.1 = [] then bad 3 else fin u.1 (u.2.1.drop 1) u.2.2.1 (u.2.1.getD 0 0))
     else bad 5)
  else bad 1
def same (a b : UT) : Bool := decide (a.1 = b.1) && decide (a.2.1 = b.2.1) && decide (a.2.2.1 = b.2.2.1) && (a.2.2.2 == b.2.2.2)
@[reducible] def cClone : Ctr := ⟨[.sl U8], [.sl U8], fun x => x.1.length ≤ 140737488355328, fun x => (x.1, ()), true⟩
@[reducible] def cRight : Ctr := ⟨[tyUart], [.bool], fun _ => True, fun x => (right x.1, ()), false⟩
@[reducible] def cStep : Ctr := ⟨[tyUart, tyUartOp], [tyUart, U8, I64], fun _ => True, fun x => step x.1 x.2.1.1 x.2.1.2, false⟩
@[reducible] def cSame : Ctr := ⟨[tyUart, tyUart], [.bool], fun _ => True, fun x => (same x.1 x.2.1, ()), false⟩
@[reducible] def cLaw : Ctr := ⟨[tyUart, tyUartOp], [.bool], fun _ => True, fun _ => (true, ()), false⟩


/- What was read, what was sent, the device. -/
def pone (s : UT × List Int × List Int) (o : Int × Int) : UT × List Int × List Int :=
  if (step s.1 o.1 o.2).2.2.1 = 0 then ((step s.1 o.1 o.2).1, (if o.1 = 2 then s.2.1 ++ [(step s.1 o.1 o.2).2.1] else s.2.1), (if o.1 = 4 then s.2.2 ++ [(step s.1 o.1 o.2).2.1] else s.2.2)) else s
def ppl (ops : List (Int × Int)) : UT × List Int × List Int := ops.foldl pone (([], [], 0, false), [], [])
@[reducible] def cPlay : Ctr := ⟨[.sl tyUartOp], [.sl U8, .sl U8, tyUart], fun x => x.1.length * 16 ≤ 140737488355328, fun x => ((ppl x.1).2.1, (ppl x.1).2.2, (ppl x.1).1, ()), false⟩
@[reducible] def cLawP : Ctr := ⟨[.sl tyUartOp], [.bool], fun x => x.1.length * 16 ≤ 140737488355328, fun _ => (true, ()), false⟩


noncomputable def ks0 : List (Nat × Ctr) := []
noncomputable def fx_clone (x : HL (cClone : Ctr).as) : Fx := mkFx Try.prog env ks0 ([]) ([]) []
noncomputable def ks1 : List (Nat × Ctr) := (70, cClone) :: ks0
noncomputable def fx_right (x : HL (cRight : Ctr).as) : Fx := mkFx Try.prog env ks1 ([]) ([]) []
noncomputable def ks2 : List (Nat × Ctr) := (29, cRight) :: ks1
noncomputable def fx_pright (x : HL (cRight : Ctr).as) : Fx := mkFx Try.prog env ks2 ([]) ([]) []
noncomputable def ks3 : List (Nat × Ctr) := (30, cRight) :: ks2
noncomputable def fx_step (x : HL (cStep : Ctr).as) : Fx := mkFx Try.prog env ks3 ([]) ([]) [(27,2000017),(27,2000025)]
noncomputable def ks4 : List (Nat × Ctr) := (27, cStep) :: ks3
noncomputable def fx_pstep (x : HL (cStep : Ctr).as) : Fx := mkFx Try.prog env ks4 ([]) ((fun (x : HL (cStep : Ctr).as) => ([(28, 25, Ann.by [.one 7 (.d Str), .one 8 (.d Str), .one 9 (.d I64), .one 10 (.d U8), .one 11 (.d I64), .keep 4] (fun s g => step x.1 x.2.1.1 x.2.1.2 = (if g.2.2.2.2.1 = 0 then fin g.1 g.2.1 g.2.2.1 g.2.2.2.1 else bad g.2.2.2.2.1)) (fun s g => 0))])) x) []
noncomputable def ks5 : List (Nat × Ctr) := (28, cStep) :: ks4
noncomputable def fx_same (x : HL (cSame : Ctr).as) : Fx := mkFx Try.prog env ks5 ([]) ([]) []
noncomputable def ks6 : List (Nat × Ctr) := (31, cSame) :: ks5
noncomputable def fx_play (x : HL (cPlay : Ctr).as) : Fx := mkFx Try.prog env ks6 ((fun (x : HL (cPlay : Ctr).as) => ([(64, 4, Ann.by [.keep 4, .box 5 [.d tyUart], .one 6 (.row U8), .one 7 (.row U8), .keep 13, .keep 14, .one 15 (.d I64)] (fun s g => 0 ≤ g.2.2.2.1 ∧ g.2.2.2.1 ≤ x.1.length ∧ ppl (x.1.take g.2.2.2.1.toNat) = (g.1, g.2.1, g.2.2.1) ∧ (g.2.1.length + g.2.2.1.length : Int) ≤ g.2.2.2.1) (fun s g => (x.1.length - g.2.2.2.1).toNat))])) x) ([]) []
noncomputable def ks7 : List (Nat × Ctr) := (64, cPlay) :: ks6
noncomputable def fx_pplay (x : HL (cPlay : Ctr).as) : Fx := mkFx Try.prog env ks7 ((fun (x : HL (cPlay : Ctr).as) => ([(65, 4, Ann.by [.keep 4, .box 5 [.d tyUart], .box 6 [.row U8, .row U8], .keep 12, .keep 13, .one 14 (.d I64)] (fun s g => 0 ≤ g.2.2.1 ∧ g.2.2.1 ≤ x.1.length ∧ ppl (x.1.take g.2.2.1.toNat) = (g.1, g.2.1.1, g.2.1.2) ∧ (g.2.1.1.length + g.2.1.2.length : Int) ≤ g.2.2.1) (fun s g => (x.1.length - g.2.2.1).toNat))])) x) ((fun (x : HL (cPlay : Ctr).as) => ([(65, 9, Ann.by [.keep 4, .box 5 [.d tyUart], .keep 6, .box 8 [.lit 1, .keep], .keep 10, .keep 12, .keep 13, .keep 14] (fun s g => g.1 = s.bxd tyUart 9 0 ∧ (s.bxd tyUartOp 8 0).1 = 1) (fun s g => 0)),
  (65, 9, Ann.by [.keep 4, .box 5 [.d tyUart], .keep 6, .box 8 [.lit 2, .keep], .keep 10, .keep 12, .keep 13, .keep 14] (fun s g => g.1 = s.bxd tyUart 9 0 ∧ (s.bxd tyUartOp 8 0).1 = 2) (fun s g => 0)),
  (65, 9, Ann.by [.keep 4, .box 5 [.d tyUart], .keep 6, .box 8 [.lit 3, .keep], .keep 10, .keep 12, .keep 13, .keep 14] (fun s g => g.1 = s.bxd tyUart 9 0 ∧ (s.bxd tyUartOp 8 0).1 = 3) (fun s g => 0)),
  (65, 9, Ann.by [.keep 4, .box 5 [.d tyUart], .keep 6, .box 8 [.lit 4, .keep], .keep 10, .keep 12, .keep 13, .keep 14] (fun s g => g.1 = s.bxd tyUart 9 0 ∧ (s.bxd tyUartOp 8 0).1 = 4) (fun s g => 0))])) x) [(65,5000040),(65,5000045),(65,5000047),(65,5000049)]
noncomputable def ks8 : List (Nat × Ctr) := (65, cPlay) :: ks7
noncomputable def fx_plays (x : HL (cLawP : Ctr).as) : Fx := mkFx Try.prog env ks8 ([]) ([]) []
noncomputable def ks9 : List (Nat × Ctr) := (13, cLawP) :: ks8
noncomputable def ksAll : List (Nat × Ctr) := ks9
end Go.Proofs.Ytollphjlheabdaa.Uartp
