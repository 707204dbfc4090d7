/-
 KernelPlays: what each function computes (its contract), and what its loops keep.
-/
import Derived.Test.YtlnlichdidobpaaGreatDoorEnv
import Derived.Test.YtlnlichdidobpaaGreatDoorSxP4
import Derived.Test.YtlnlichdidobpaaGreatDoorApicL
import Derived.Test.YtlnlichdidobpaaGreatDoorUartL
import Derived.Test.YtlnlichdidobpaaGreatDoorLineL
import Derived.Test.YtlnlichdidobpaaGreatDoorNestL
import Derived.Test.YtlnlichdidobpaaGreatDoorTtyL
namespace Go.Proofs.YtlnlichdidobpaaGreatDoor.Kern
open Go.Sx
set_option maxRecDepth 100000
set_option linter.unusedVariables false

abbrev By := List Int
@[reducible] def RR {α : Type} (x : α) : Prop := x = x
@[reducible] def R8 (p : Prop) : Prop := True ∧ True ∧ True ∧ True ∧ True ∧ True ∧ True ∧ True ∧ p
@[reducible] def kg (p : Prop) : Prop := True ∧ True ∧ True ∧ True ∧ True ∧ True ∧ True ∧ True ∧ True ∧ True ∧ True ∧ True ∧ True ∧ True ∧ True ∧ True ∧ True ∧ True ∧ True ∧ True ∧ True ∧ True ∧ True ∧ True ∧ True ∧ True ∧ True ∧ True ∧ True ∧ True ∧ True ∧ True ∧ p
theorem vC {α : Type} (x : α) : RR x = True := eq_self x
theorem uF (p : Prop) : R8 p = p := by unfold R8; simp only [true_and]
theorem yF (p : Prop) : kg p = p := by unfold kg; simp only [true_and]
abbrev TT := List By × By
abbrev D1 := Int × Int × Int × Int
abbrev yP := Int × By
abbrev YW := By × By × TT × Int × Int × Int × Int × Int × List Int
def sF (w : YW) : YW := match w with
 | (d, f, t, lo, tk, a, s, p, sv) => if 0 < d.length ∧ a < 0 ∧ s < 0 then (d, f, t, lo, tk, p, s, p, sv) else (d, f, t, lo, tk, a, s, p, sv)
def lx (w : YW) (o : D1) : YW × yP := match w with
 | (d, f, t, lo, tk, a, s, p, sv) =>
  if o.1 < 1 ∨ 6 < o.1 then (w, 5, [])
  else if o.1 ≠ 1 ∧ o.1 ≠ 3 ∧ o.2.1 ≠ 0 ∧ o.2.1 ≠ 1 then (w, 2, [])
  else if o.1 = 1 then (if d.length = 16 then ((d, f, t, lo + 1, tk, a, s, p, sv), 0, []) else ((d ++ [o.2.2.2], f, t, lo, tk, a, s, p, sv), 0, []))
  else if o.1 = 3 then ((d, f, (if (Tty.bW t o.2.2.1).2.2.1 = 0 then (Tty.bW t o.2.2.1).1 else t), lo, tk, a, s, p, sv), (Tty.bW t o.2.2.1).2.2.1, (Tty.bW t o.2.2.1).2.1)
  else if o.1 = 6 then ((d, f, t, lo, tk, a, s, o.2.1, sv), 0, [])
  else if o.1 ≠ 2 ∧ s = o.2.1 then (w, 6, [])
  else if o.1 = 4 then (if sv.getD o.2.1.toNat 0 = 400 then (w, 4, []) else ((d, f, t, lo, tk, a, s, p, sv.set o.2.1.toNat (sv.getD o.2.1.toNat 0 + 1)), 0, []))
  else if o.1 = 5 then (if sv.getD o.2.1.toNat 0 = 0 then (w, 3, []) else ((d, f, t, lo, tk, a, s, p, sv.set o.2.1.toNat (sv.getD o.2.1.toNat 0 - 1)), 0, []))
  else if s = o.2.1 then (if 0 < d.length then ((d.drop 1, f ++ [d.getD 0 0], t, lo, tk, a, s, p, sv), 0, []) else ((d, f, t, lo, tk, a, -1, p, sv), 0, []))
  else if a = o.2.1 ∧ sv.getD o.2.1.toNat 0 = 0 then ((d, f, t, lo, tk + 1, -1, o.2.1, p, sv), 0, [])
  else if 0 < f.length then ((d, f.drop 1, (if (Tty.ph t (f.getD 0 0)).2 = 0 then (Tty.ph t (f.getD 0 0)).1 else t), lo, tk, a, s, p, sv), 0, [])
  else (w, 7, [])
def N1 (w : YW) (o : D1) : YW × yP := (sF (lx w o).1, (lx w o).2)
def y0 : YW := ([], [], ([], []), 0, 0, -1, -1, 0, [0, 0])
def Ax (s : YW × List yP) (o : D1) : YW × List yP := ((N1 s.1 o).1, s.2 ++ [(N1 s.1 o).2])
def iZ (ops : List D1) : YW × List yP := ops.foldl Ax (y0, [])
def Bt (w : YW) : By × By × TT × Int × Int := match w with
 | (d, f, t, lo, tk, _, _, _, _) => (d, f, t, lo, tk)
def vf (w : YW) (k : Int) : Prop := match w with
 | (d, f, _, lo, tk, a, s, p, sv) => d.length ≤ 16 ∧ (f.length : Int) ≤ k ∧ (0 ≤ lo ∧ lo ≤ k) ∧ (0 ≤ tk ∧ tk ≤ k) ∧ (-1 ≤ a ∧ a ≤ 1) ∧ (-1 ≤ s ∧ s ≤ 1) ∧ (a < 0 ∨ s < 0) ∧ (0 < d.length → 0 ≤ a ∨ 0 ≤ s) ∧ (0 ≤ p ∧ p ≤ 1) ∧
  sv.length = 2 ∧ (∀ i : Int, 0 ≤ i → i ≤ 1 → 0 ≤ sv.getD i.toNat 0 ∧ sv.getD i.toNat 0 ≤ 400 ∧ (s = i → sv.getD i.toNat 0 = 0))
def zL (b : Bool) : List Int := if b = true then [0, 1, 0, 0] else [0, 0, 0, 0]
def iG : Nat → List (Bool × Bool)
 | 0 => []
 | n + 1 => (true, false) :: List.replicate n (false, false)
abbrev CR := (List Int × List Int × Int) × (Bool × List (Bool × Bool)) × Bool
def db (s : Bool) (sv : Int) : Bool × List (Bool × Bool) := if s = true then (false, [(true, true)]) else (decide (sv = 0), iG sv.toNat)
def cb (a s sv i : Int) : CR := ((zL (decide (a = i)), zL (decide (s = i)), 0), db (decide (s = i)) sv, decide (s = i))
def cj (a s : Int) (sv : List Int) : List CR := [cb a s (sv.getD 0 0) 0, cb a s (sv.getD 1 0) 1]
def dG (d : By) (a s p : Int) : Int × Int × Bool × Bool × Bool × Bool × Bool := (p, 64, true, false, decide (0 < d.length), false, decide (0 ≤ a) || decide (0 ≤ s))
abbrev WH := (By × By × Int × Bool) × List (Int × Int × Bool × Bool × Bool × Bool × Bool) × List CR × By × TT × Int
def cZ (w : YW) : WH := match w with
 | (d, f, t, lo, tk, a, s, p, sv) => ((d, [], lo, decide (0 < d.length)), [dG d a s p], cj a s sv, f, t, tk)
def zc : CR := (([0, 0, 0, 0], [0, 0, 0, 0], 0), (false, []), false)
def Vt : CR := (([0, 0, 0, 0], [0, 0, 0, 0], 0), (true, []), false)
def mL (k : Int) : List CR := if k = 0 then [zc, zc] else if k = 1 then [Vt, zc] else [Vt, Vt]
def aV (l : List D1) (k : Int) : D1 := l.getD k.toNat (0, 0, 0, 0)
def kn (l : List (Int × Int × Int)) (k : Int) : Int × Int × Int := l.getD k.toNat (0, 0, 0)
def dL (cs : List CR) (k : Int) : CR := cs.getD k.toNat zc
def iV (cs : List CR) (s : Int × Int × Int) : List CR :=
 if (Apic.aW (cs.getD s.2.1.toNat zc).1 (1, s.2.2)).2.2.1 = 0 then cs.set s.2.1.toNat ((Apic.aW (cs.getD s.2.1.toNat zc).1 (1, s.2.2)).1, (cs.getD s.2.1.toNat zc).2) else cs
def ve (ps : List (Int × Int × Bool × Bool × Bool × Bool × Bool)) (cs : List CR) (k : Int) : List (Int × Int × Bool × Bool × Bool × Bool × Bool) × List CR :=
 if Line.err ps k 0 = 0 then (Line.out ps k 0, (Line.ask ps k 0).foldl iV cs) else (ps, cs)
noncomputable def jM (c : CR) (k : Int) : CR := if (Nest.step c.2.1 k).2.1 = 0 then (c.1, (Nest.step c.2.1 k).1, c.2.2) else c
@[reducible] def iI : ah := ⟨[.sl iR, DX], [.sl iR, .sl p7, dU], fun _ => True, fun x => Line.step x.1 x.2.1.1 x.2.1.2, true⟩
@[reducible] def gW : ah := ⟨[.sl lp], [.sl sj, Nb], fun x => x.1.length ≤ 1048576, fun x => ((iZ x.1).2, Bt (iZ x.1).1, ()), false⟩
noncomputable def pA : List (Nat × ah) := Go.Proofs.YtlnlichdidobpaaGreatDoor.Apic.dY ++ Go.Proofs.YtlnlichdidobpaaGreatDoor.Uart.dY ++ Go.Proofs.YtlnlichdidobpaaGreatDoor.Line.dY ++ Go.Proofs.YtlnlichdidobpaaGreatDoor.Nest.dY ++ Go.Proofs.YtlnlichdidobpaaGreatDoor.Tty.dY
noncomputable def uw (x : HL (iI : ah).as) : Fx := fX Tryz.prog env pA ([]) ((fun (x : HL (iI : ah).as) => ([(114, 19, jz.by [.keep 3, .own 7 iR, .keep 8, .keep 9] (fun s g => g.1 = x.1.set x.2.1.2.toNat (Line.note (Line.at_ x.1 x.2.1.2) x.2.1.1)) (fun s g => 0))])) x) []
noncomputable def pn : List (Nat × ah) := (114, iI) :: pA
noncomputable def wk (x : HL (gW : ah).as) : Fx := fX Tryz.prog env pn ((fun (x : HL (gW : ah).as) => ([(16, 4, jz.by [.keep 3, .box 4 [.d kI, .row iR, .d (.arr 2 bR), .row U8, .d sM, .d dU], .one 5 (.row sj), .keep 9, .keep 10, .one 11 (.d dU)] (fun s g => 0 ≤ g.2.2.1 ∧ g.2.2.1 ≤ x.1.length ∧ (g.1, g.2.1) = (cZ (iZ (x.1.take g.2.2.1.toNat)).1, (iZ (x.1.take g.2.2.1.toNat)).2)) (fun s g => (x.1.length - g.2.2.1).toNat)),
 (28, 3, jz.by [.bk, .box 1 [.keep, .keep, .keep, .keep, .keep, .d (.arr 2 bR), .keep, .keep, .keep, .keep], .one 7 (.d dU)] (fun s g => 0 ≤ g.2.1 ∧ g.2.1 ≤ 2 ∧ g.1.2.2.2.2.2.1 = mL g.2.1) (fun s g => (2 - g.2.1).toNat)),
 (83, 4, jz.by [.bk, .box 0 [.keep, .keep, .keep, .keep, .keep, .d (.arr 2 bR), .keep, .keep, .keep, .keep], .keep 30, .keep 31, .one 32 (.d dU)] (fun s g => 0 ≤ g.2.1 ∧ g.2.1 ≤ (s.uv (.sl p7) 30).length ∧ g.1.2.2.2.2.2.1 = ((s.uv (.sl p7) 30).take g.2.1.toNat).foldl iV (s.s6 (.arr 2 bR) 0 5)) (fun s g => ((s.uv (.sl p7) 30).length - g.2.1).toNat))])) x) ((fun (x : HL (gW : ah).as) => ([(61, 5, jz.by [.bk, .box 0 [.d kI, .row iR, .d (.arr 2 bR), .keep, .keep, .keep, .keep], .keep 7, .keep 8] (fun s g => (g.1.1, g.1.2.1, g.1.2.2.1) = (if s.uv dU 8 = 0 then (s.s6 kI 6 0, ve (s.s6 (.sl iR) 0 4) (s.s6 (.arr 2 bR) 0 5) (if (s.s6 kI 6 0).2.2.2 = true then 1 else 2)) else (s.s6 kI 0 0, s.s6 (.sl iR) 0 4, s.s6 (.arr 2 bR) 0 5))) (fun s g => 0)),
 (62, 8, jz.by [.bk, .keep 1, .keep 5, .box 0 [.keep, .keep, .keep, .keep, .keep, .d (.arr 2 bR), .keep, .keep, .keep, .keep]] (fun s g => g.1.2.2.2.2.2.1 = (s.s6 (.arr 2 bR) 0 5).set (s.uv dU 1).toNat (((s.s6 (.arr 2 bR) 0 5).getD (s.uv dU 1).toNat zc).1, ((s.s6 (.arr 2 bR) 0 5).getD (s.uv dU 1).toNat zc).2.1, false)) (fun s g => 0)),
 (62, 9, jz.by [.bk, .keep 1, .keep 5, .box 0 [.keep, .keep, .keep, .keep, .keep, .d (.arr 2 bR), .keep, .keep, .keep, .keep]] (fun s g => g.1.2.2.2.2.2.1 = (s.s6 (.arr 2 bR) 0 5).set (s.uv dU 1).toNat ((Apic.aW ((s.s6 (.arr 2 bR) 0 5).getD (s.uv dU 1).toNat zc).1 (3, 0)).1, ((s.s6 (.arr 2 bR) 0 5).getD (s.uv dU 1).toNat zc).2)) (fun s g => 0)),
 (62, 10, jz.by [.bk, .keep 1, .keep 5, .box 0 [.keep, .keep, .keep, .keep, .keep, .d (.arr 2 bR), .keep, .keep, .keep, .keep]] (fun s g => g.1.2.2.2.2.2.1 = (s.s6 (.arr 2 bR) 0 5).set (s.uv dU 1).toNat (jM ((s.s6 (.arr 2 bR) 0 5).getD (s.uv dU 1).toNat zc) 4)) (fun s g => 0)),
 (62, 14, jz.by [.bk, .keep 1, .keep 5, .box 0 [.keep, .keep, .keep, .keep, .keep, .d (.arr 2 bR), .keep, .keep, .keep, .keep]] (fun s g => g.1.2.2.2.2.2.1 = (s.s6 (.arr 2 bR) 0 5).set (s.uv dU 1).toNat (jM ((s.s6 (.arr 2 bR) 0 5).getD (s.uv dU 1).toNat zc) 3)) (fun s g => 0)),
 (62, 15, jz.by [.bk, .keep 1, .keep 5, .box 0 [.keep, .keep, .keep, .keep, .keep, .d (.arr 2 bR), .keep, .keep, .keep, .keep]] (fun s g => g.1.2.2.2.2.2.1 = (s.s6 (.arr 2 bR) 0 5).set (s.uv dU 1).toNat ((Apic.aW ((s.s6 (.arr 2 bR) 0 5).getD (s.uv dU 1).toNat zc).1 (2, 0)).1, ((s.s6 (.arr 2 bR) 0 5).getD (s.uv dU 1).toNat zc).2)) (fun s g => 0)),
 (62, 16, jz.by [.bk, .keep 1, .keep 5, .box 0 [.keep, .keep, .keep, .keep, .keep, .d (.arr 2 bR), .keep, .keep, .keep, .keep]] (fun s g => g.1.2.2.2.2.2.1 = (s.s6 (.arr 2 bR) 0 5).set (s.uv dU 1).toNat (((s.s6 (.arr 2 bR) 0 5).getD (s.uv dU 1).toNat zc).1, ((s.s6 (.arr 2 bR) 0 5).getD (s.uv dU 1).toNat zc).2.1, true)) (fun s g => 0)),
 (29, 7, jz.by [.bk, .keep 0, .keep 3, .keep 4, .keep 5, .one 43 (.d dU)] (fun s g => g.1 = (s.s6 lp 3 0).1) (fun s g => 0)),
 (61, 4, jz.by [.bk, .keep 7, .keep 8, .box 0 [.d kI, .keep, .keep, .keep, .keep, .keep, .keep]] (fun s g => g.1.1 = s.s6 kI 6 0) (fun s g => 0)),
 (83, 3, jz.by [.bk, .one 5 (.d (.sl p7)), .box 0 [.keep, .keep, .keep, .keep, .row iR, .keep, .keep, .keep, .keep, .keep]] (fun s g => g.1 = s.uv (.sl p7) 5 ∧ g.2.1.2.2.2.2.1 = s.uv (.sl iR) 4) (fun s g => 0))])) x) []
noncomputable def p5 : List (Nat × ah) := (16, gW) :: pn
noncomputable def dY : List (Nat × ah) := p5
end Go.Proofs.YtlnlichdidobpaaGreatDoor.Kern
