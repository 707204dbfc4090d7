/-
 KernelPlays: what each function computes (its contract), and what its loops keep.
-/
import Derived.Test.YtdhldloajddfiaaGreatDoorEnv
import Derived.Test.YtdhldloajddfiaaGreatDoorSxP4
import Derived.Test.YtdhldloajddfiaaGreatDoorApicL
import Derived.Test.YtdhldloajddfiaaGreatDoorUartL
import Derived.Test.YtdhldloajddfiaaGreatDoorLineL
import Derived.Test.YtdhldloajddfiaaGreatDoorNestL
import Derived.Test.YtdhldloajddfiaaGreatDoorTtyL
namespace Go.Proofs.YtdhldloajddfiaaGreatDoor.Kern
open Go.Sx
set_option maxRecDepth 100000
set_option linter.unusedVariables false

abbrev By := List Int
@[reducible] def RR {α : Type} (x : α) : Prop := x = x
@[reducible] def R8 (p : Prop) : Prop := True ∧ True ∧ True ∧ True ∧ True ∧ True ∧ True ∧ True ∧ p
@[reducible] def R32 (p : Prop) : Prop := True ∧ True ∧ True ∧ True ∧ True ∧ True ∧ True ∧ True ∧ True ∧ True ∧ True ∧ True ∧ True ∧ True ∧ True ∧ True ∧ True ∧ True ∧ True ∧ True ∧ True ∧ True ∧ True ∧ True ∧ True ∧ True ∧ True ∧ True ∧ True ∧ True ∧ True ∧ True ∧ p
theorem RR_eq {α : Type} (x : α) : RR x = True := eq_self x
theorem R8_eq (p : Prop) : R8 p = p := by unfold R8; simp only [true_and]
theorem R32_eq (p : Prop) : R32 p = p := by unfold R32; simp only [true_and]
abbrev TT := List By × By
abbrev KOp := Int × Int × Int × Int
abbrev KAns := Int × By
abbrev YW := By × By × TT × Int × Int × Int × Int × Int × List Int
def yask (w : YW) : YW := match w with
 | (d, f, t, lo, tk, a, s, p, sv) => if 0 < d.length ∧ a < 0 ∧ s < 0 then (d, f, t, lo, tk, p, s, p, sv) else (d, f, t, lo, tk, a, s, p, sv)
def ybody (w : YW) (o : KOp) : YW × KAns := match w with
 | (d, f, t, lo, tk, a, s, p, sv) =>
  if o.1 < 1 ∨ 6 < o.1 then (w, 5, [])
  else if o.1 ≠ 1 ∧ o.1 ≠ 3 ∧ o.2.1 ≠ 0 ∧ o.2.1 ≠ 1 then (w, 2, [])
  else if o.1 = 1 then (if d.length = 16 then ((d, f, t, lo + 1, tk, a, s, p, sv), 0, []) else ((d ++ [o.2.2.2], f, t, lo, tk, a, s, p, sv), 0, []))
  else if o.1 = 3 then ((d, f, (if (Tty.readT t o.2.2.1).2.2.1 = 0 then (Tty.readT t o.2.2.1).1 else t), lo, tk, a, s, p, sv), (Tty.readT t o.2.2.1).2.2.1, (Tty.readT t o.2.2.1).2.1)
  else if o.1 = 6 then ((d, f, t, lo, tk, a, s, o.2.1, sv), 0, [])
  else if o.1 ≠ 2 ∧ s = o.2.1 then (w, 6, [])
  else if o.1 = 4 then (if sv.getD o.2.1.toNat 0 = 400 then (w, 4, []) else ((d, f, t, lo, tk, a, s, p, sv.set o.2.1.toNat (sv.getD o.2.1.toNat 0 + 1)), 0, []))
  else if o.1 = 5 then (if sv.getD o.2.1.toNat 0 = 0 then (w, 3, []) else ((d, f, t, lo, tk, a, s, p, sv.set o.2.1.toNat (sv.getD o.2.1.toNat 0 - 1)), 0, []))
  else if s = o.2.1 then (if 0 < d.length then ((d.drop 1, f ++ [d.getD 0 0], t, lo, tk, a, s, p, sv), 0, []) else ((d, f, t, lo, tk, a, -1, p, sv), 0, []))
  else if a = o.2.1 ∧ sv.getD o.2.1.toNat 0 = 0 then ((d, f, t, lo, tk + 1, -1, o.2.1, p, sv), 0, [])
  else if 0 < f.length then ((d, f.drop 1, (if (Tty.keyT t (f.getD 0 0)).2 = 0 then (Tty.keyT t (f.getD 0 0)).1 else t), lo, tk, a, s, p, sv), 0, [])
  else (w, 7, [])
def ydo (w : YW) (o : KOp) : YW × KAns := (yask (ybody w o).1, (ybody w o).2)
def y0 : YW := ([], [], ([], []), 0, 0, -1, -1, 0, [0, 0])
def yone (s : YW × List KAns) (o : KOp) : YW × List KAns := ((ydo s.1 o).1, s.2 ++ [(ydo s.1 o).2])
def ypl (ops : List KOp) : YW × List KAns := ops.foldl yone (y0, [])
def yend (w : YW) : By × By × TT × Int × Int := match w with
 | (d, f, t, lo, tk, _, _, _, _) => (d, f, t, lo, tk)
def goodY (w : YW) (k : Int) : Prop := match w with
 | (d, f, _, lo, tk, a, s, p, sv) => d.length ≤ 16 ∧ (f.length : Int) ≤ k ∧ (0 ≤ lo ∧ lo ≤ k) ∧ (0 ≤ tk ∧ tk ≤ k) ∧ (-1 ≤ a ∧ a ≤ 1) ∧ (-1 ≤ s ∧ s ≤ 1) ∧ (a < 0 ∨ s < 0) ∧ (0 < d.length → 0 ≤ a ∨ 0 ≤ s) ∧ (0 ≤ p ∧ p ≤ 1) ∧
  sv.length = 2 ∧ (∀ i : Int, 0 ≤ i → i ≤ 1 → 0 ≤ sv.getD i.toNat 0 ∧ sv.getD i.toNat 0 ≤ 400 ∧ (s = i → sv.getD i.toNat 0 = 0))
def s64 (b : Bool) : List Int := if b = true then [0, 1, 0, 0] else [0, 0, 0, 0]
def frames : Nat → List (Bool × Bool)
 | 0 => []
 | n + 1 => (true, false) :: List.replicate n (false, false)
abbrev CR := (List Int × List Int × Int) × (Bool × List (Bool × Bool)) × Bool
def nestOf (s : Bool) (sv : Int) : Bool × List (Bool × Bool) := if s = true then (false, [(true, true)]) else (decide (sv = 0), frames sv.toNat)
def coreOf (a s sv i : Int) : CR := ((s64 (decide (a = i)), s64 (decide (s = i)), 0), nestOf (decide (s = i)) sv, decide (s = i))
def coresOf (a s : Int) (sv : List Int) : List CR := [coreOf a s (sv.getD 0 0) 0, coreOf a s (sv.getD 1 0) 1]
def pinOf (d : By) (a s p : Int) : Int × Int × Bool × Bool × Bool × Bool × Bool := (p, 64, true, false, decide (0 < d.length), false, decide (0 ≤ a) || decide (0 ≤ s))
abbrev WH := (By × By × Int × Bool) × List (Int × Int × Bool × Bool × Bool × Bool × Bool) × List CR × By × TT × Int
def wholeOf (w : YW) : WH := match w with
 | (d, f, t, lo, tk, a, s, p, sv) => ((d, [], lo, decide (0 < d.length)), [pinOf d a s p], coresOf a s sv, f, t, tk)
def zc : CR := (([0, 0, 0, 0], [0, 0, 0, 0], 0), (false, []), false)
def onc : CR := (([0, 0, 0, 0], [0, 0, 0, 0], 0), (true, []), false)
def bootAt (k : Int) : List CR := if k = 0 then [zc, zc] else if k = 1 then [onc, zc] else [onc, onc]
def opAt (l : List KOp) (k : Int) : KOp := l.getD k.toNat (0, 0, 0, 0)
def seAt (l : List (Int × Int × Int)) (k : Int) : Int × Int × Int := l.getD k.toNat (0, 0, 0)
def crAt (cs : List CR) (k : Int) : CR := cs.getD k.toNat zc
def ask1 (cs : List CR) (s : Int × Int × Int) : List CR :=
 if (Apic.stepL (cs.getD s.2.1.toNat zc).1 (1, s.2.2)).2.2.1 = 0 then cs.set s.2.1.toNat ((Apic.stepL (cs.getD s.2.1.toNat zc).1 (1, s.2.2)).1, (cs.getD s.2.1.toNat zc).2) else cs
def pinF (ps : List (Int × Int × Bool × Bool × Bool × Bool × Bool)) (cs : List CR) (k : Int) : List (Int × Int × Bool × Bool × Bool × Bool × Bool) × List CR :=
 if Line.err ps k 0 = 0 then (Line.out ps k 0, (Line.ask ps k 0).foldl ask1 cs) else (ps, cs)
noncomputable def nestF (c : CR) (k : Int) : CR := if (Nest.step c.2.1 k).2.1 = 0 then (c.1, (Nest.step c.2.1 k).1, c.2.2) else c
@[reducible] def cStepO : Ctr := ⟨[.sl tyPin, tyPinOp], [.sl tyPin, .sl tySent, I64], fun _ => True, fun x => Line.step x.1 x.2.1.1 x.2.1.2, true⟩
@[reducible] def cYPlay : Ctr := ⟨[.sl tyKernOp], [.sl tyKernAns, tyWhole], fun x => x.1.length ≤ 1048576, fun x => ((ypl x.1).2, yend (ypl x.1).1, ()), false⟩
@[reducible] def cSameK : Ctr := ⟨[.sl tyKernAns, .sl tyKernAns], [.bool], fun _ => True, fun x => (decide (x.1 = x.2.1), ()), false⟩
@[reducible] def cSameW : Ctr := ⟨[tyWhole, tyWhole], [.bool], fun _ => True, fun x => (decide (x.1 = x.2.1), ()), false⟩
@[reducible] def cKern : Ctr := ⟨[.sl tyKernOp], [.bool], fun x => x.1.length ≤ 1048576, fun _ => (true, ()), false⟩


noncomputable def ks0 : List (Nat × Ctr) := Go.Proofs.YtdhldloajddfiaaGreatDoor.Apic.ksAll ++ Go.Proofs.YtdhldloajddfiaaGreatDoor.Uart.ksAll ++ Go.Proofs.YtdhldloajddfiaaGreatDoor.Line.ksAll ++ Go.Proofs.YtdhldloajddfiaaGreatDoor.Nest.ksAll ++ Go.Proofs.YtdhldloajddfiaaGreatDoor.Tty.ksAll
noncomputable def fx_lstep (x : HL (cStepO : Ctr).as) : Fx := mkFx Tryz.prog env ks0 ([]) ((fun (x : HL (cStepO : Ctr).as) => ([(96, 19, Ann.by [.keep 3, .own 7 tyPin, .keep 8, .keep 9] (fun s g => g.1 = x.1.set x.2.1.2.toNat (Line.note (Line.at_ x.1 x.2.1.2) x.2.1.1)) (fun s g => 0))])) x) []
noncomputable def ks1 : List (Nat × Ctr) := (96, cStepO) :: ks0
noncomputable def fx_kplay (x : HL (cYPlay : Ctr).as) : Fx := mkFx Tryz.prog env ks1 ((fun (x : HL (cYPlay : Ctr).as) => ([(31, 4, Ann.by [.keep 3, .box 4 [.d tyUart, .row tyPin, .d (.arr 2 tycore), .row U8, .d tyTty, .d I64], .one 5 (.row tyKernAns), .keep 9, .keep 10, .one 11 (.d I64)] (fun s g => 0 ≤ g.2.2.1 ∧ g.2.2.1 ≤ x.1.length ∧ (g.1, g.2.1) = (wholeOf (ypl (x.1.take g.2.2.1.toNat)).1, (ypl (x.1.take g.2.2.1.toNat)).2)) (fun s g => (x.1.length - g.2.2.1).toNat)),
 (48, 3, Ann.by [.bk, .box 1 [.keep, .keep, .keep, .keep, .keep, .d (.arr 2 tycore), .keep, .keep, .keep, .keep], .one 7 (.d I64)] (fun s g => 0 ≤ g.2.1 ∧ g.2.1 ≤ 2 ∧ g.1.2.2.2.2.2.1 = bootAt g.2.1) (fun s g => (2 - g.2.1).toNat)),
 (77, 4, Ann.by [.bk, .box 0 [.keep, .keep, .keep, .keep, .keep, .d (.arr 2 tycore), .keep, .keep, .keep, .keep], .keep 30, .keep 31, .one 32 (.d I64)] (fun s g => 0 ≤ g.2.1 ∧ g.2.1 ≤ (s.dat (.sl tySent) 30).length ∧ g.1.2.2.2.2.2.1 = ((s.dat (.sl tySent) 30).take g.2.1.toNat).foldl ask1 (s.bxd (.arr 2 tycore) 0 5)) (fun s g => ((s.dat (.sl tySent) 30).length - g.2.1).toNat))])) x) ((fun (x : HL (cYPlay : Ctr).as) => ([(66, 5, Ann.by [.bk, .box 0 [.d tyUart, .row tyPin, .d (.arr 2 tycore), .keep, .keep, .keep, .keep], .keep 7, .keep 8] (fun s g => (g.1.1, g.1.2.1, g.1.2.2.1) = (if s.dat I64 8 = 0 then (s.bxd tyUart 6 0, pinF (s.bxd (.sl tyPin) 0 4) (s.bxd (.arr 2 tycore) 0 5) (if (s.bxd tyUart 6 0).2.2.2 = true then 1 else 2)) else (s.bxd tyUart 0 0, s.bxd (.sl tyPin) 0 4, s.bxd (.arr 2 tycore) 0 5))) (fun s g => 0)),
 (67, 8, Ann.by [.bk, .keep 1, .keep 5, .box 0 [.keep, .keep, .keep, .keep, .keep, .d (.arr 2 tycore), .keep, .keep, .keep, .keep]] (fun s g => g.1.2.2.2.2.2.1 = (s.bxd (.arr 2 tycore) 0 5).set (s.dat I64 1).toNat (((s.bxd (.arr 2 tycore) 0 5).getD (s.dat I64 1).toNat zc).1, ((s.bxd (.arr 2 tycore) 0 5).getD (s.dat I64 1).toNat zc).2.1, false)) (fun s g => 0)),
 (67, 9, Ann.by [.bk, .keep 1, .keep 5, .box 0 [.keep, .keep, .keep, .keep, .keep, .d (.arr 2 tycore), .keep, .keep, .keep, .keep]] (fun s g => g.1.2.2.2.2.2.1 = (s.bxd (.arr 2 tycore) 0 5).set (s.dat I64 1).toNat ((Apic.stepL ((s.bxd (.arr 2 tycore) 0 5).getD (s.dat I64 1).toNat zc).1 (3, 0)).1, ((s.bxd (.arr 2 tycore) 0 5).getD (s.dat I64 1).toNat zc).2)) (fun s g => 0)),
 (67, 10, Ann.by [.bk, .keep 1, .keep 5, .box 0 [.keep, .keep, .keep, .keep, .keep, .d (.arr 2 tycore), .keep, .keep, .keep, .keep]] (fun s g => g.1.2.2.2.2.2.1 = (s.bxd (.arr 2 tycore) 0 5).set (s.dat I64 1).toNat (nestF ((s.bxd (.arr 2 tycore) 0 5).getD (s.dat I64 1).toNat zc) 4)) (fun s g => 0)),
 (67, 14, Ann.by [.bk, .keep 1, .keep 5, .box 0 [.keep, .keep, .keep, .keep, .keep, .d (.arr 2 tycore), .keep, .keep, .keep, .keep]] (fun s g => g.1.2.2.2.2.2.1 = (s.bxd (.arr 2 tycore) 0 5).set (s.dat I64 1).toNat (nestF ((s.bxd (.arr 2 tycore) 0 5).getD (s.dat I64 1).toNat zc) 3)) (fun s g => 0)),
 (67, 15, Ann.by [.bk, .keep 1, .keep 5, .box 0 [.keep, .keep, .keep, .keep, .keep, .d (.arr 2 tycore), .keep, .keep, .keep, .keep]] (fun s g => g.1.2.2.2.2.2.1 = (s.bxd (.arr 2 tycore) 0 5).set (s.dat I64 1).toNat ((Apic.stepL ((s.bxd (.arr 2 tycore) 0 5).getD (s.dat I64 1).toNat zc).1 (2, 0)).1, ((s.bxd (.arr 2 tycore) 0 5).getD (s.dat I64 1).toNat zc).2)) (fun s g => 0)),
 (67, 16, Ann.by [.bk, .keep 1, .keep 5, .box 0 [.keep, .keep, .keep, .keep, .keep, .d (.arr 2 tycore), .keep, .keep, .keep, .keep]] (fun s g => g.1.2.2.2.2.2.1 = (s.bxd (.arr 2 tycore) 0 5).set (s.dat I64 1).toNat (((s.bxd (.arr 2 tycore) 0 5).getD (s.dat I64 1).toNat zc).1, ((s.bxd (.arr 2 tycore) 0 5).getD (s.dat I64 1).toNat zc).2.1, true)) (fun s g => 0)),
 (49, 7, Ann.by [.bk, .keep 0, .keep 3, .keep 4, .keep 5, .one 43 (.d I64)] (fun s g => g.1 = (s.bxd tyKernOp 3 0).1) (fun s g => 0)),
 (66, 4, Ann.by [.bk, .keep 7, .keep 8, .box 0 [.d tyUart, .keep, .keep, .keep, .keep, .keep, .keep]] (fun s g => g.1.1 = s.bxd tyUart 6 0) (fun s g => 0)),
 (77, 3, Ann.by [.bk, .one 5 (.d (.sl tySent)), .box 0 [.keep, .keep, .keep, .keep, .row tyPin, .keep, .keep, .keep, .keep, .keep]] (fun s g => g.1 = s.dat (.sl tySent) 5 ∧ g.2.1.2.2.2.2.1 = s.dat (.sl tyPin) 4) (fun s g => 0))])) x) []
noncomputable def ks2 : List (Nat × Ctr) := (31, cYPlay) :: ks1
noncomputable def ksAll : List (Nat × Ctr) := ks2
end Go.Proofs.YtdhldloajddfiaaGreatDoor.Kern
