/-
 LineSteps: what each function computes (its contract), and what its loops keep.
-/
import Derived.Test.YtdhldloajddfiaaGreatDoorEnv
import Derived.Test.YtdhldloajddfiaaGreatDoorSxP4
namespace Go.Proofs.YtdhldloajddfiaaGreatDoor.Line
open Go.Sx
set_option maxRecDepth 100000
set_option linter.unusedVariables false

abbrev PN := Int × Int × Bool × Bool × Bool × Bool × Bool
abbrev SE := Int × Int × Int
def okP (p : PN) : Bool :=
 decide (0 ≤ p.1) && decide (p.1 < 8) && decide (32 ≤ p.2.1) && decide (p.2.1 < 256) &&
 !(p.2.2.1 && p.2.2.2.2.2.1) && !(!p.2.2.1 && p.2.2.2.2.2.2) && !(p.2.2.2.2.2.1 && !p.2.2.2.1) && !(p.2.2.1 && p.2.2.2.2.1 && !p.2.2.2.1 && !p.2.2.2.2.2.2)
def right (l : List PN) : Bool := decide ((l.length : Int) ≤ 24) && l.all okP
def note (p : PN) (k : Int) : PN :=
 match p with
 | (c, v, lv, m, u, kp, s) => (c, v, lv, (if k = 3 then true else if k = 4 then false else m), (if k = 1 then true else if k = 2 then false else u), kp, (if k = 5 then false else s))
def fire (p : PN) (rose : Bool) : PN × Bool :=
 match p with
 | (c, v, true, m, u, kp, s) => ((c, v, true, m, u, kp, s || (u && !m)), u && !m && !s)
 | (c, v, false, m, u, kp, s) => ((c, v, false, m, u, (kp || rose) && m, s), (kp || rose) && !m)
def cstep (p : PN) (k : Int) : PN × Bool := fire (note p k) (decide (k = 1) && !p.2.2.2.2.1)
def zero : PN := (0, 0, false, false, false, false, false)
def at_ (l : List PN) (i : Int) : PN := l.getD i.toNat zero
def out (l : List PN) (k i : Int) : List PN := l.set i.toNat (cstep (at_ l i) k).1
def ask (l : List PN) (k i : Int) : List SE := if (cstep (at_ l i) k).2 = true then [(i, (at_ l i).1, (at_ l i).2.1)] else []
def bad (e : Int) : List PN × List SE × Int × Unit := ([], [], e, ())
def err (l : List PN) (k i : Int) : Int := if right l = false then 1 else if k < 1 ∨ 5 < k then 5 else if i < 0 ∨ (l.length : Int) ≤ i then 3 else 0
def step (l : List PN) (k i : Int) : List PN × List SE × Int × Unit := if err l k i = 0 then (out l k i, ask l k i, 0, ()) else bad (err l k i)
def one (s : List PN × List SE) (o : Int × Int) : List PN × List SE :=
 if o.1 < 1 ∨ 5 < o.1 ∨ o.2 < 0 ∨ (s.1.length : Int) ≤ o.2 then s else (out s.1 o.1 o.2, s.2 ++ ask s.1 o.1 o.2)
def play (l : List PN) (ops : List (Int × Int)) : List PN × List SE := ops.foldl one (l, [])
@[reducible] def cClone : Ctr := ⟨[.sl tyPin], [.sl tyPin], fun x => x.1.length * 24 ≤ 140737488355328, fun x => (x.1, ()), true⟩
@[reducible] def cBad : Ctr := ⟨[tyPin], [.bool], fun _ => True, fun x => (!(okP x.1), ()), false⟩
@[reducible] def cRight : Ctr := ⟨[.sl tyPin], [.bool], fun _ => True, fun x => (right x.1, ()), false⟩
@[reducible] def cCStep : Ctr := ⟨[tyPin, I64], [tyPin, .bool], fun _ => True, fun x => ((cstep x.1 x.2.1).1, (cstep x.1 x.2.1).2, ()), false⟩
@[reducible] def cStep : Ctr := ⟨[.sl tyPin, tyPinOp], [.sl tyPin, .sl tySent, I64], fun _ => True, fun x => step x.1 x.2.1.1 x.2.1.2, false⟩
@[reducible] def cCPlay : Ctr := ⟨[.sl tyPin, .sl tyPinOp], [.sl tyPin, .sl tySent], fun x => x.1.length * 24 ≤ 140737488355328 ∧ x.2.1.length * 16 ≤ 140737488351232, fun x => ((play x.1 x.2.1).1, (play x.1 x.2.1).2, ()), false⟩
@[reducible] def cEqP : Ctr := ⟨[.sl tyPin, .sl tyPin], [.bool], fun _ => True, fun x => (deq (.sl tyPin) x.1 x.2.1, ()), false⟩
@[reducible] def cEqS : Ctr := ⟨[.sl tySent, .sl tySent], [.bool], fun _ => True, fun x => (deq (.sl tySent) x.1 x.2.1, ()), false⟩
@[reducible] def cLaw : Ctr := ⟨[.sl tyPin, tyPinOp], [.bool], fun x => x.1.length * 24 ≤ 140737488355328, fun _ => (true, ()), false⟩


noncomputable def ks0 : List (Nat × Ctr) := []
noncomputable def fx_clone (x : HL (cClone : Ctr).as) : Fx := mkFx Tryz.prog env ks0 ([]) ([]) []
noncomputable def ks1 : List (Nat × Ctr) := (110, cClone) :: ks0
noncomputable def fx_badp (x : HL (cBad : Ctr).as) : Fx := mkFx Tryz.prog env ks1 ([]) ([]) []
noncomputable def ks2 : List (Nat × Ctr) := (115, cBad) :: ks1
noncomputable def fx_right (x : HL (cRight : Ctr).as) : Fx := mkFx Tryz.prog env ks2 ((fun (x : HL (cRight : Ctr).as) => ([(116, 2, Ann.by [.keep 0, .keep 1, .keep 7, .one 8 (.d I64)] (fun s g => 0 ≤ g.1 ∧ g.1 ≤ x.1.length ∧ (x.1.take g.1.toNat).all okP = true) (fun s g => (x.1.length - g.1).toNat))])) x) ([]) []
noncomputable def ks3 : List (Nat × Ctr) := (109, cRight) :: ks2
noncomputable def fx_step (x : HL (cStep : Ctr).as) : Fx := mkFx Tryz.prog env ks3 ([]) ((fun (x : HL (cStep : Ctr).as) => ([(96, 19, Ann.by [.keep 3, .own 7 tyPin, .keep 8, .keep 9] (fun s g => g.1 = x.1.set x.2.1.2.toNat (note (at_ x.1 x.2.1.2) x.2.1.1)) (fun s g => 0))])) x) []
noncomputable def ks4 : List (Nat × Ctr) := (96, cStep) :: ks3
noncomputable def ksAll : List (Nat × Ctr) := ks4
end Go.Proofs.YtdhldloajddfiaaGreatDoor.Line
