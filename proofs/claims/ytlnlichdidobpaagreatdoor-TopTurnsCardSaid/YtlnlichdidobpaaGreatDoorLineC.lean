/-
 LineSteps: what each function computes (its contract), and what its loops keep.
-/
import Derived.Test.YtlnlichdidobpaaGreatDoorEnv
import Derived.Test.YtlnlichdidobpaaGreatDoorSxP4
namespace Go.Proofs.YtlnlichdidobpaaGreatDoor.Line
open Go.Sx
set_option maxRecDepth 100000
set_option linter.unusedVariables false

abbrev PN := Int × Int × Bool × Bool × Bool × Bool × Bool
abbrev SE := Int × Int × Int
def Gf (p : PN) : Bool :=
 decide (0 ≤ p.1) && decide (p.1 < 8) && decide (32 ≤ p.2.1) && decide (p.2.1 < 256) &&
 !(p.2.2.1 && p.2.2.2.2.2.1) && !(!p.2.2.1 && p.2.2.2.2.2.2) && !(p.2.2.2.2.2.1 && !p.2.2.2.1) && !(p.2.2.1 && p.2.2.2.2.1 && !p.2.2.2.1 && !p.2.2.2.2.2.2)
def right (l : List PN) : Bool := decide ((l.length : Int) ≤ 24) && l.all Gf
def note (p : PN) (k : Int) : PN :=
 match p with
 | (c, v, lv, m, u, kp, s) => (c, v, lv, (if k = 3 then true else if k = 4 then false else m), (if k = 1 then true else if k = 2 then false else u), kp, (if k = 5 then false else s))
def ES (p : PN) (rose : Bool) : PN × Bool :=
 match p with
 | (c, v, true, m, u, kp, s) => ((c, v, true, m, u, kp, s || (u && !m)), u && !m && !s)
 | (c, v, false, m, u, kp, s) => ((c, v, false, m, u, (kp || rose) && m, s), (kp || rose) && !m)
def pF (p : PN) (k : Int) : PN × Bool := ES (note p k) (decide (k = 1) && !p.2.2.2.2.1)
def zero : PN := (0, 0, false, false, false, false, false)
def at_ (l : List PN) (i : Int) : PN := l.getD i.toNat zero
def out (l : List PN) (k i : Int) : List PN := l.set i.toNat (pF (at_ l i) k).1
def ask (l : List PN) (k i : Int) : List SE := if (pF (at_ l i) k).2 = true then [(i, (at_ l i).1, (at_ l i).2.1)] else []
def bad (e : Int) : List PN × List SE × Int × Unit := ([], [], e, ())
def err (l : List PN) (k i : Int) : Int := if right l = false then 1 else if k < 1 ∨ 5 < k then 5 else if i < 0 ∨ (l.length : Int) ≤ i then 3 else 0
def step (l : List PN) (k i : Int) : List PN × List SE × Int × Unit := if err l k i = 0 then (out l k i, ask l k i, 0, ()) else bad (err l k i)
def one (s : List PN × List SE) (o : Int × Int) : List PN × List SE :=
 if o.1 < 1 ∨ 5 < o.1 ∨ o.2 < 0 ∨ (s.1.length : Int) ≤ o.2 then s else (out s.1 o.1 o.2, s.2 ++ ask s.1 o.1 o.2)
def T5 (l : List PN) (ops : List (Int × Int)) : List PN × List SE := ops.foldl one (l, [])
@[reducible] def bc : ah := ⟨[.sl iR], [.sl iR], fun x => x.1.length * 24 ≤ 140737488355328, fun x => (x.1, ()), true⟩
@[reducible] def wz : ah := ⟨[iR], [.bool], fun _ => True, fun x => (!(Gf x.1), ()), false⟩
@[reducible] def aJ : ah := ⟨[.sl iR], [.bool], fun _ => True, fun x => (right x.1, ()), false⟩
@[reducible] def bg : ah := ⟨[.sl iR, DX], [.sl iR, .sl p7, dU], fun _ => True, fun x => step x.1 x.2.1.1 x.2.1.2, false⟩
noncomputable def pA : List (Nat × ah) := []
noncomputable def eM (x : HL (bc : ah).as) : Fx := fX Tryz.prog env pA ([]) ([]) []
noncomputable def pn : List (Nat × ah) := (137, bc) :: pA
noncomputable def yL (x : HL (wz : ah).as) : Fx := fX Tryz.prog env pn ([]) ([]) []
noncomputable def p5 : List (Nat × ah) := (146, wz) :: pn
noncomputable def bQ (x : HL (aJ : ah).as) : Fx := fX Tryz.prog env p5 ((fun (x : HL (aJ : ah).as) => ([(147, 2, jz.by [.keep 0, .keep 1, .keep 7, .one 8 (.d dU)] (fun s g => 0 ≤ g.1 ∧ g.1 ≤ x.1.length ∧ (x.1.take g.1.toNat).all Gf = true) (fun s g => (x.1.length - g.1).toNat))])) x) ([]) []
noncomputable def tK : List (Nat × ah) := (136, aJ) :: p5
noncomputable def gj (x : HL (bg : ah).as) : Fx := fX Tryz.prog env tK ([]) ((fun (x : HL (bg : ah).as) => ([(114, 19, jz.by [.keep 3, .own 7 iR, .keep 8, .keep 9] (fun s g => g.1 = x.1.set x.2.1.2.toNat (note (at_ x.1 x.2.1.2) x.2.1.1)) (fun s g => 0))])) x) []
noncomputable def DZ : List (Nat × ah) := (114, bg) :: tK
noncomputable def dY : List (Nat × ah) := DZ
end Go.Proofs.YtlnlichdidobpaaGreatDoor.Line
