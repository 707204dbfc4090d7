/-
 The conditions that the executor comes to, written out (by a tool of ours), and that they are the conditions (by the kernel).
-/
import Derived.Test.YtppgbcmeagbalaaDoorKernC
namespace Go.Proofs.YtppgbcmeagbalaaDoor.Kern
open Go.Sx
set_option maxRecDepth 100000

def E_lstep (x : List (Int × Int × Bool × Bool × Bool × Bool × Bool) × (Int × Int) × Unit) : Prop :=
 Holds True ∧
 ((!Line.right x.1) = true →
 ([] : List (Int × Int × Bool × Bool × Bool × Bool × Bool)) = (Line.step x.1 x.2.1.1 x.2.1.2).1 ∧
 ([] : List (Int × Int × Int)) = (Line.step x.1 x.2.1.1 x.2.1.2).2.1 ∧
 (1 : Int) = (Line.step x.1 x.2.1.1 x.2.1.2).2.2.1) ∧
 ((!Line.right x.1) = false →
 ((!decide (x.2.1.1 < 1)) = true → (!decide (x.2.1.1 < 1)) = true) ∧
 ((!decide (x.2.1.1 < 1)) = true → (!decide (x.2.1.1 < 1)) = true) ∧
 (decide (x.2.1.1 < 1) = false → (!decide (x.2.1.1 < 1)) = true) ∧
 ((decide (x.2.1.1 < 1) || decide (5 < x.2.1.1)) = true →
 ([] : List (Int × Int × Bool × Bool × Bool × Bool × Bool)) = (Line.step x.1 x.2.1.1 x.2.1.2).1 ∧
 ([] : List (Int × Int × Int)) = (Line.step x.1 x.2.1.1 x.2.1.2).2.1 ∧
 (5 : Int) = (Line.step x.1 x.2.1.1 x.2.1.2).2.2.1) ∧
 ((decide (x.2.1.1 < 1) || decide (5 < x.2.1.1)) = false →
 ((!decide (x.2.1.2 < 0)) = true → (!decide (x.2.1.2 < 0)) = true) ∧
 ((!decide (x.2.1.2 < 0)) = true → (!decide (x.2.1.2 < 0)) = true) ∧
 ((!decide (x.2.1.2 < 0)) = true →
 (!decide (x.2.1.2 < 0)) = true ∧ (!decide (x.2.1.2 < 0)) = true) ∧
 (decide (x.2.1.2 < 0) = false → (!decide (x.2.1.2 < 0)) = true) ∧
 ((decide (x.2.1.2 < 0) || decide ((↑x.1.length : Int) ≤ x.2.1.2)) = true →
 ([] : List (Int × Int × Bool × Bool × Bool × Bool × Bool)) = (Line.step x.1 x.2.1.1 x.2.1.2).1 ∧
 ([] : List (Int × Int × Int)) = (Line.step x.1 x.2.1.1 x.2.1.2).2.1 ∧
 (3 : Int) = (Line.step x.1 x.2.1.1 x.2.1.2).2.2.1) ∧
 ((decide (x.2.1.2 < 0) || decide ((↑x.1.length : Int) ≤ x.2.1.2)) = false →
 Holds (x.1.length * (24 : Nat) ≤ (140737488355328 : Nat)) ∧
 (0 ≤ x.2.1.2 ∧ x.2.1.2 < (↑x.1.length : Int)) ∧
 ((x.2.1.1 == 1) = true → (x.2.1.1 == 1) = true) ∧
 ((x.2.1.1 == 1) = true → (x.2.1.1 == 1) = true) ∧
 ((x.2.1.1 == 1) = true → (x.2.1.1 == 1) = true) ∧
 ((x.2.1.1 == 1) = true → (x.2.1.1 == 1) = true) ∧
 ((x.2.1.1 == 1) = true → (x.2.1.1 == 1) = true) ∧
 (((x.2.1.1 == 1) = true →
 (x.1.set x.2.1.2.toNat
 ((x.1.getD x.2.1.2.toNat
 ((0 : Int), (0 : Int), false, false, false, false, false)).1,
 (x.1.getD x.2.1.2.toNat
 ((0 : Int), (0 : Int), false, false, false, false, false)).2.1,
 (x.1.getD x.2.1.2.toNat
 ((0 : Int), (0 : Int), false, false, false, false, false)).2.2.1,
 (x.1.getD x.2.1.2.toNat
 ((0 : Int), (0 : Int), false, false, false, false, false)).2.2.2.1,
 x.2.1.1 == 1,
 (x.1.getD x.2.1.2.toNat
 ((0 : Int), (0 : Int), false, false, false, false,
 false)).2.2.2.2.2.1,
 (x.1.getD x.2.1.2.toNat
 ((0 : Int), (0 : Int), false, false, false, false,
 false)).2.2.2.2.2.2) =
 x.1.set x.2.1.2.toNat (Line.note (Line.at_ x.1 x.2.1.2) x.2.1.1) ∧
 True) ∧
 ((True ∧ True) ∧
 True ∧
 ((True ∧ True ∧ True) ∧ x.2.1.2.toNat = x.2.1.2.toNat) ∧
 (x.2.1.1 == 1 &&
 !(x.1.getD x.2.1.2.toNat
 ((0 : Int), (0 : Int), false, false, false, false,
 false)).2.2.2.2.1) =
 (x.2.1.1 == 1 &&
 !(x.1.getD x.2.1.2.toNat
 ((0 : Int), (0 : Int), false, false, false, false,
 false)).2.2.2.2.1) ∧
 True) ∧
 (x.1.set x.2.1.2.toNat
 ((x.1.getD x.2.1.2.toNat
 ((0 : Int), (0 : Int), false, false, false, false, false)).1,
 (x.1.getD x.2.1.2.toNat
 ((0 : Int), (0 : Int), false, false, false, false, false)).2.1,
 (x.1.getD x.2.1.2.toNat
 ((0 : Int), (0 : Int), false, false, false, false, false)).2.2.1,
 (x.1.getD x.2.1.2.toNat
 ((0 : Int), (0 : Int), false, false, false, false, false)).2.2.2.1,
 x.2.1.1 == 1,
 (x.1.getD x.2.1.2.toNat
 ((0 : Int), (0 : Int), false, false, false, false,
 false)).2.2.2.2.2.1,
 (x.1.getD x.2.1.2.toNat
 ((0 : Int), (0 : Int), false, false, false, false,
 false)).2.2.2.2.2.2) =
 x.1.set x.2.1.2.toNat
 ((x.1.getD x.2.1.2.toNat
 ((0 : Int), (0 : Int), false, false, false, false, false)).1,
 (x.1.getD x.2.1.2.toNat
 ((0 : Int), (0 : Int), false, false, false, false, false)).2.1,
 (x.1.getD x.2.1.2.toNat
 ((0 : Int), (0 : Int), false, false, false, false, false)).2.2.1,
 (x.1.getD x.2.1.2.toNat
 ((0 : Int), (0 : Int), false, false, false, false, false)).2.2.2.1,
 x.2.1.1 == 1,
 (x.1.getD x.2.1.2.toNat
 ((0 : Int), (0 : Int), false, false, false, false,
 false)).2.2.2.2.2.1,
 (x.1.getD x.2.1.2.toNat
 ((0 : Int), (0 : Int), false, false, false, false,
 false)).2.2.2.2.2.2) ∧
 (x.2.1.1 = x.2.1.1 ∧ x.2.1.2 = x.2.1.2 ∧ True) ∧ True) ∧
 True) ∧
 ((x.2.1.1 == 1) = false →
 ((x.2.1.1 == 2) = true →
 (x.1.set x.2.1.2.toNat
 ((x.1.getD x.2.1.2.toNat
 ((0 : Int), (0 : Int), false, false, false, false, false)).1,
 (x.1.getD x.2.1.2.toNat
 ((0 : Int), (0 : Int), false, false, false, false, false)).2.1,
 (x.1.getD x.2.1.2.toNat
 ((0 : Int), (0 : Int), false, false, false, false, false)).2.2.1,
 (x.1.getD x.2.1.2.toNat
 ((0 : Int), (0 : Int), false, false, false, false, false)).2.2.2.1,
 x.2.1.1 == 1,
 (x.1.getD x.2.1.2.toNat
 ((0 : Int), (0 : Int), false, false, false, false,
 false)).2.2.2.2.2.1,
 (x.1.getD x.2.1.2.toNat
 ((0 : Int), (0 : Int), false, false, false, false,
 false)).2.2.2.2.2.2) =
 x.1.set x.2.1.2.toNat (Line.note (Line.at_ x.1 x.2.1.2) x.2.1.1) ∧
 True) ∧
 ((True ∧ True) ∧
 True ∧
 ((True ∧ True ∧ True) ∧ x.2.1.2.toNat = x.2.1.2.toNat) ∧
 (x.2.1.1 == 1 &&
 !(x.1.getD x.2.1.2.toNat
 ((0 : Int), (0 : Int), false, false, false, false,
 false)).2.2.2.2.1) =
 (x.2.1.1 == 1 &&
 !(x.1.getD x.2.1.2.toNat
 ((0 : Int), (0 : Int), false, false, false, false,
 false)).2.2.2.2.1) ∧
 True) ∧
 (x.1.set x.2.1.2.toNat
 ((x.1.getD x.2.1.2.toNat
 ((0 : Int), (0 : Int), false, false, false, false, false)).1,
 (x.1.getD x.2.1.2.toNat
 ((0 : Int), (0 : Int), false, false, false, false, false)).2.1,
 (x.1.getD x.2.1.2.toNat
 ((0 : Int), (0 : Int), false, false, false, false, false)).2.2.1,
 (x.1.getD x.2.1.2.toNat
 ((0 : Int), (0 : Int), false, false, false, false,
 false)).2.2.2.1,
 x.2.1.1 == 1,
 (x.1.getD x.2.1.2.toNat
 ((0 : Int), (0 : Int), false, false, false, false,
 false)).2.2.2.2.2.1,
 (x.1.getD x.2.1.2.toNat
 ((0 : Int), (0 : Int), false, false, false, false,
 false)).2.2.2.2.2.2) =
 x.1.set x.2.1.2.toNat
 ((x.1.getD x.2.1.2.toNat
 ((0 : Int), (0 : Int), false, false, false, false, false)).1,
 (x.1.getD x.2.1.2.toNat
 ((0 : Int), (0 : Int), false, false, false, false, false)).2.1,
 (x.1.getD x.2.1.2.toNat
 ((0 : Int), (0 : Int), false, false, false, false, false)).2.2.1,
 (x.1.getD x.2.1.2.toNat
 ((0 : Int), (0 : Int), false, false, false, false,
 false)).2.2.2.1,
 x.2.1.1 == 1,
 (x.1.getD x.2.1.2.toNat
 ((0 : Int), (0 : Int), false, false, false, false,
 false)).2.2.2.2.2.1,
 (x.1.getD x.2.1.2.toNat
 ((0 : Int), (0 : Int), false, false, false, false,
 false)).2.2.2.2.2.2) ∧
 (x.2.1.1 = x.2.1.1 ∧ x.2.1.2 = x.2.1.2 ∧ True) ∧ True) ∧
 True) ∧
 ((x.2.1.1 == 2) = false →
 ((x.2.1.1 == 3) = true →
 (x.1.set x.2.1.2.toNat
 ((x.1.getD x.2.1.2.toNat
 ((0 : Int), (0 : Int), false, false, false, false, false)).1,
 (x.1.getD x.2.1.2.toNat
 ((0 : Int), (0 : Int), false, false, false, false, false)).2.1,
 (x.1.getD x.2.1.2.toNat
 ((0 : Int), (0 : Int), false, false, false, false, false)).2.2.1,
 x.2.1.1 == 3,
 (x.1.getD x.2.1.2.toNat
 ((0 : Int), (0 : Int), false, false, false, false,
 false)).2.2.2.2.1,
 (x.1.getD x.2.1.2.toNat
 ((0 : Int), (0 : Int), false, false, false, false,
 false)).2.2.2.2.2.1,
 (x.1.getD x.2.1.2.toNat
 ((0 : Int), (0 : Int), false, false, false, false,
 false)).2.2.2.2.2.2) =
 x.1.set x.2.1.2.toNat (Line.note (Line.at_ x.1 x.2.1.2) x.2.1.1) ∧
 True) ∧
 ((True ∧ True) ∧
 True ∧
 ((True ∧ True ∧ True) ∧ x.2.1.2.toNat = x.2.1.2.toNat) ∧
 (x.2.1.1 == 1 &&
 !(x.1.getD x.2.1.2.toNat
 ((0 : Int), (0 : Int), false, false, false, false,
 false)).2.2.2.2.1) =
 (x.2.1.1 == 1 &&
 !(x.1.getD x.2.1.2.toNat
 ((0 : Int), (0 : Int), false, false, false, false,
 false)).2.2.2.2.1) ∧
 True) ∧
 (x.1.set x.2.1.2.toNat
 ((x.1.getD x.2.1.2.toNat
 ((0 : Int), (0 : Int), false, false, false, false, false)).1,
 (x.1.getD x.2.1.2.toNat
 ((0 : Int), (0 : Int), false, false, false, false, false)).2.1,
 (x.1.getD x.2.1.2.toNat
 ((0 : Int), (0 : Int), false, false, false, false, false)).2.2.1,
 x.2.1.1 == 3,
 (x.1.getD x.2.1.2.toNat
 ((0 : Int), (0 : Int), false, false, false, false,
 false)).2.2.2.2.1,
 (x.1.getD x.2.1.2.toNat
 ((0 : Int), (0 : Int), false, false, false, false,
 false)).2.2.2.2.2.1,
 (x.1.getD x.2.1.2.toNat
 ((0 : Int), (0 : Int), false, false, false, false,
 false)).2.2.2.2.2.2) =
 x.1.set x.2.1.2.toNat
 ((x.1.getD x.2.1.2.toNat
 ((0 : Int), (0 : Int), false, false, false, false, false)).1,
 (x.1.getD x.2.1.2.toNat
 ((0 : Int), (0 : Int), false, false, false, false, false)).2.1,
 (x.1.getD x.2.1.2.toNat
 ((0 : Int), (0 : Int), false, false, false, false, false)).2.2.1,
 x.2.1.1 == 3,
 (x.1.getD x.2.1.2.toNat
 ((0 : Int), (0 : Int), false, false, false, false,
 false)).2.2.2.2.1,
 (x.1.getD x.2.1.2.toNat
 ((0 : Int), (0 : Int), false, false, false, false,
 false)).2.2.2.2.2.1,
 (x.1.getD x.2.1.2.toNat
 ((0 : Int), (0 : Int), false, false, false, false,
 false)).2.2.2.2.2.2) ∧
 (x.2.1.1 = x.2.1.1 ∧ x.2.1.2 = x.2.1.2 ∧ True) ∧ True) ∧
 True) ∧
 ((x.2.1.1 == 3) = false →
 ((x.2.1.1 == 4) = true →
 (x.1.set x.2.1.2.toNat
 ((x.1.getD x.2.1.2.toNat
 ((0 : Int), (0 : Int), false, false, false, false, false)).1,
 (x.1.getD x.2.1.2.toNat
 ((0 : Int), (0 : Int), false, false, false, false, false)).2.1,
 (x.1.getD x.2.1.2.toNat
 ((0 : Int), (0 : Int), false, false, false, false, false)).2.2.1,
 x.2.1.1 == 3,
 (x.1.getD x.2.1.2.toNat
 ((0 : Int), (0 : Int), false, false, false, false,
 false)).2.2.2.2.1,
 (x.1.getD x.2.1.2.toNat
 ((0 : Int), (0 : Int), false, false, false, false,
 false)).2.2.2.2.2.1,
 (x.1.getD x.2.1.2.toNat
 ((0 : Int), (0 : Int), false, false, false, false,
 false)).2.2.2.2.2.2) =
 x.1.set x.2.1.2.toNat
 (Line.note (Line.at_ x.1 x.2.1.2) x.2.1.1) ∧
 True) ∧
 ((True ∧ True) ∧
 True ∧
 ((True ∧ True ∧ True) ∧ x.2.1.2.toNat = x.2.1.2.toNat) ∧
 (x.2.1.1 == 1 &&
 !(x.1.getD x.2.1.2.toNat
 ((0 : Int), (0 : Int), false, false, false, false,
 false)).2.2.2.2.1) =
 (x.2.1.1 == 1 &&
 !(x.1.getD x.2.1.2.toNat
 ((0 : Int), (0 : Int), false, false, false, false,
 false)).2.2.2.2.1) ∧
 True) ∧
 (x.1.set x.2.1.2.toNat
 ((x.1.getD x.2.1.2.toNat
 ((0 : Int), (0 : Int), false, false, false, false, false)).1,
 (x.1.getD x.2.1.2.toNat
 ((0 : Int), (0 : Int), false, false, false, false, false)).2.1,
 (x.1.getD x.2.1.2.toNat
 ((0 : Int), (0 : Int), false, false, false, false,
 false)).2.2.1,
 x.2.1.1 == 3,
 (x.1.getD x.2.1.2.toNat
 ((0 : Int), (0 : Int), false, false, false, false,
 false)).2.2.2.2.1,
 (x.1.getD x.2.1.2.toNat
 ((0 : Int), (0 : Int), false, false, false, false,
 false)).2.2.2.2.2.1,
 (x.1.getD x.2.1.2.toNat
 ((0 : Int), (0 : Int), false, false, false, false,
 false)).2.2.2.2.2.2) =
 x.1.set x.2.1.2.toNat
 ((x.1.getD x.2.1.2.toNat
 ((0 : Int), (0 : Int), false, false, false, false, false)).1,
 (x.1.getD x.2.1.2.toNat
 ((0 : Int), (0 : Int), false, false, false, false, false)).2.1,
 (x.1.getD x.2.1.2.toNat
 ((0 : Int), (0 : Int), false, false, false, false,
 false)).2.2.1,
 x.2.1.1 == 3,
 (x.1.getD x.2.1.2.toNat
 ((0 : Int), (0 : Int), false, false, false, false,
 false)).2.2.2.2.1,
 (x.1.getD x.2.1.2.toNat
 ((0 : Int), (0 : Int), false, false, false, false,
 false)).2.2.2.2.2.1,
 (x.1.getD x.2.1.2.toNat
 ((0 : Int), (0 : Int), false, false, false, false,
 false)).2.2.2.2.2.2) ∧
 (x.2.1.1 = x.2.1.1 ∧ x.2.1.2 = x.2.1.2 ∧ True) ∧ True) ∧
 True) ∧
 ((x.2.1.1 == 4) = false →
 ((x.2.1.1 == 5) = true →
 (x.1.set x.2.1.2.toNat
 ((x.1.getD x.2.1.2.toNat
 ((0 : Int), (0 : Int), false, false, false, false, false)).1,
 (x.1.getD x.2.1.2.toNat
 ((0 : Int), (0 : Int), false, false, false, false, false)).2.1,
 (x.1.getD x.2.1.2.toNat
 ((0 : Int), (0 : Int), false, false, false, false,
 false)).2.2.1,
 (x.1.getD x.2.1.2.toNat
 ((0 : Int), (0 : Int), false, false, false, false,
 false)).2.2.2.1,
 (x.1.getD x.2.1.2.toNat
 ((0 : Int), (0 : Int), false, false, false, false,
 false)).2.2.2.2.1,
 (x.1.getD x.2.1.2.toNat
 ((0 : Int), (0 : Int), false, false, false, false,
 false)).2.2.2.2.2.1,
 false) =
 x.1.set x.2.1.2.toNat
 (Line.note (Line.at_ x.1 x.2.1.2) x.2.1.1) ∧
 True) ∧
 ((True ∧ True) ∧
 True ∧
 ((True ∧ True ∧ True) ∧ x.2.1.2.toNat = x.2.1.2.toNat) ∧
 (x.2.1.1 == 1 &&
 !(x.1.getD x.2.1.2.toNat
 ((0 : Int), (0 : Int), false, false, false, false,
 false)).2.2.2.2.1) =
 (x.2.1.1 == 1 &&
 !(x.1.getD x.2.1.2.toNat
 ((0 : Int), (0 : Int), false, false, false, false,
 false)).2.2.2.2.1) ∧
 True) ∧
 (x.1.set x.2.1.2.toNat
 ((x.1.getD x.2.1.2.toNat
 ((0 : Int), (0 : Int), false, false, false, false, false)).1,
 (x.1.getD x.2.1.2.toNat
 ((0 : Int), (0 : Int), false, false, false, false,
 false)).2.1,
 (x.1.getD x.2.1.2.toNat
 ((0 : Int), (0 : Int), false, false, false, false,
 false)).2.2.1,
 (x.1.getD x.2.1.2.toNat
 ((0 : Int), (0 : Int), false, false, false, false,
 false)).2.2.2.1,
 (x.1.getD x.2.1.2.toNat
 ((0 : Int), (0 : Int), false, false, false, false,
 false)).2.2.2.2.1,
 (x.1.getD x.2.1.2.toNat
 ((0 : Int), (0 : Int), false, false, false, false,
 false)).2.2.2.2.2.1,
 false) =
 x.1.set x.2.1.2.toNat
 ((x.1.getD x.2.1.2.toNat
 ((0 : Int), (0 : Int), false, false, false, false, false)).1,
 (x.1.getD x.2.1.2.toNat
 ((0 : Int), (0 : Int), false, false, false, false,
 false)).2.1,
 (x.1.getD x.2.1.2.toNat
 ((0 : Int), (0 : Int), false, false, false, false,
 false)).2.2.1,
 (x.1.getD x.2.1.2.toNat
 ((0 : Int), (0 : Int), false, false, false, false,
 false)).2.2.2.1,
 (x.1.getD x.2.1.2.toNat
 ((0 : Int), (0 : Int), false, false, false, false,
 false)).2.2.2.2.1,
 (x.1.getD x.2.1.2.toNat
 ((0 : Int), (0 : Int), false, false, false, false,
 false)).2.2.2.2.2.1,
 false) ∧
 (x.2.1.1 = x.2.1.1 ∧ x.2.1.2 = x.2.1.2 ∧ True) ∧
 True) ∧
 True) ∧
 ((x.2.1.1 == 5) = false →
 (x.1 =
 x.1.set x.2.1.2.toNat
 (Line.note (Line.at_ x.1 x.2.1.2) x.2.1.1) ∧
 True) ∧
 ((True ∧ True) ∧
 True ∧
 ((True ∧ True ∧ True) ∧ x.2.1.2.toNat = x.2.1.2.toNat) ∧
 (x.2.1.1 == 1 &&
 !(x.1.getD x.2.1.2.toNat
 ((0 : Int), (0 : Int), false, false, false, false,
 false)).2.2.2.2.1) =
 (x.2.1.1 == 1 &&
 !(x.1.getD x.2.1.2.toNat
 ((0 : Int), (0 : Int), false, false, false, false,
 false)).2.2.2.2.1) ∧
 True) ∧
 (x.1 = x.1 ∧
 (x.2.1.1 = x.2.1.1 ∧ x.2.1.2 = x.2.1.2 ∧ True) ∧
 True) ∧
 True)))))) ∧
 ∀ (g : List (Int × Int × Bool × Bool × Bool × Bool × Bool) × Unit),
 g.1 = x.1.set x.2.1.2.toNat (Line.note (Line.at_ x.1 x.2.1.2) x.2.1.1) →
 (g.1.length ≤ (9223372036854775807 : Nat) ∧
 ∀ (x : Int × Int × Bool × Bool × Bool × Bool × Bool),
 x ∈ g.1 →
 (-9223372036854775808 ≤ x.1 ∧ x.1 ≤ 9223372036854775807) ∧
 (-9223372036854775808 ≤ x.2.1 ∧ x.2.1 ≤ 9223372036854775807) ∧
 True ∧ True ∧ True ∧ True ∧ True) ∧
 True →
 ((g.1.getD x.2.1.2.toNat
 ((0 : Int), (0 : Int), false, false, false, false, false)).2.2.1 =
 true →
 ((g.1.getD x.2.1.2.toNat
 ((0 : Int), (0 : Int), false, false, false, false,
 false)).2.2.2.2.1 =
 true →
 (g.1.getD x.2.1.2.toNat
 ((0 : Int), (0 : Int), false, false, false, false,
 false)).2.2.2.2.1 =
 true) ∧
 ((g.1.getD x.2.1.2.toNat
 ((0 : Int), (0 : Int), false, false, false, false,
 false)).2.2.2.2.1 =
 true →
 (g.1.getD x.2.1.2.toNat
 ((0 : Int), (0 : Int), false, false, false, false,
 false)).2.2.2.2.1 =
 true) ∧
 ((g.1.getD x.2.1.2.toNat
 ((0 : Int), (0 : Int), false, false, false, false,
 false)).2.2.2.2.1 =
 true →
 (g.1.getD x.2.1.2.toNat
 ((0 : Int), (0 : Int), false, false, false, false,
 false)).2.2.2.2.1 =
 true) ∧
 ((g.1.getD x.2.1.2.toNat
 ((0 : Int), (0 : Int), false, false, false, false,
 false)).2.2.2.2.1 =
 true →
 (g.1.getD x.2.1.2.toNat
 ((0 : Int), (0 : Int), false, false, false, false,
 false)).2.2.2.2.1 =
 true) ∧
 ((g.1.getD x.2.1.2.toNat
 ((0 : Int), (0 : Int), false, false, false, false,
 false)).2.2.2.2.1 =
 true →
 (g.1.getD x.2.1.2.toNat
 ((0 : Int), (0 : Int), false, false, false, false,
 false)).2.2.2.2.1 =
 true) ∧
 (((g.1.getD x.2.1.2.toNat
 ((0 : Int), (0 : Int), false, false, false, false,
 false)).2.2.2.2.1 &&
 !(g.1.getD x.2.1.2.toNat
 ((0 : Int), (0 : Int), false, false, false, false,
 false)).2.2.2.1) =
 true →
 ((g.1.getD x.2.1.2.toNat
 ((0 : Int), (0 : Int), false, false, false, false,
 false)).2.2.2.2.1 &&
 !(g.1.getD x.2.1.2.toNat
 ((0 : Int), (0 : Int), false, false, false, false,
 false)).2.2.2.1) =
 true) ∧
 (((g.1.getD x.2.1.2.toNat
 ((0 : Int), (0 : Int), false, false, false, false,
 false)).2.2.2.2.1 &&
 !(g.1.getD x.2.1.2.toNat
 ((0 : Int), (0 : Int), false, false, false, false,
 false)).2.2.2.1) =
 true →
 ((g.1.getD x.2.1.2.toNat
 ((0 : Int), (0 : Int), false, false, false, false,
 false)).2.2.2.2.1 &&
 !(g.1.getD x.2.1.2.toNat
 ((0 : Int), (0 : Int), false, false, false, false,
 false)).2.2.2.1) =
 true) ∧
 (((g.1.getD x.2.1.2.toNat
 ((0 : Int), (0 : Int), false, false, false, false,
 false)).2.2.2.2.1 &&
 !(g.1.getD x.2.1.2.toNat
 ((0 : Int), (0 : Int), false, false, false, false,
 false)).2.2.2.1) =
 true →
 ((g.1.getD x.2.1.2.toNat
 ((0 : Int), (0 : Int), false, false, false, false,
 false)).2.2.2.2.1 &&
 !(g.1.getD x.2.1.2.toNat
 ((0 : Int), (0 : Int), false, false, false, false,
 false)).2.2.2.1) =
 true) ∧
 (((g.1.getD x.2.1.2.toNat
 ((0 : Int), (0 : Int), false, false, false, false,
 false)).2.2.2.2.1 &&
 !(g.1.getD x.2.1.2.toNat
 ((0 : Int), (0 : Int), false, false, false, false,
 false)).2.2.2.1) =
 true →
 ((g.1.getD x.2.1.2.toNat
 ((0 : Int), (0 : Int), false, false, false, false,
 false)).2.2.2.2.1 &&
 !(g.1.getD x.2.1.2.toNat
 ((0 : Int), (0 : Int), false, false, false, false,
 false)).2.2.2.1) =
 true) ∧
 (((g.1.getD x.2.1.2.toNat
 ((0 : Int), (0 : Int), false, false, false, false,
 false)).2.2.2.2.1 &&
 !(g.1.getD x.2.1.2.toNat
 ((0 : Int), (0 : Int), false, false, false, false,
 false)).2.2.2.1) =
 true →
 ((g.1.getD x.2.1.2.toNat
 ((0 : Int), (0 : Int), false, false, false, false,
 false)).2.2.2.2.1 &&
 !(g.1.getD x.2.1.2.toNat
 ((0 : Int), (0 : Int), false, false, false, false,
 false)).2.2.2.1) =
 true) ∧
 (((g.1.getD x.2.1.2.toNat
 ((0 : Int), (0 : Int), false, false, false, false,
 false)).2.2.2.2.1 &&
 !(g.1.getD x.2.1.2.toNat
 ((0 : Int), (0 : Int), false, false, false, false,
 false)).2.2.2.1 &&
 !(g.1.getD x.2.1.2.toNat
 ((0 : Int), (0 : Int), false, false, false, false,
 false)).2.2.2.2.2.2) =
 true →
 g.1.set x.2.1.2.toNat
 ((g.1.getD x.2.1.2.toNat
 ((0 : Int), (0 : Int), false, false, false, false,
 false)).1,
 (g.1.getD x.2.1.2.toNat
 ((0 : Int), (0 : Int), false, false, false, false,
 false)).2.1,
 (g.1.getD x.2.1.2.toNat
 ((0 : Int), (0 : Int), false, false, false, false,
 false)).2.2.1,
 (g.1.getD x.2.1.2.toNat
 ((0 : Int), (0 : Int), false, false, false, false,
 false)).2.2.2.1,
 (g.1.getD x.2.1.2.toNat
 ((0 : Int), (0 : Int), false, false, false, false,
 false)).2.2.2.2.1,
 (g.1.getD x.2.1.2.toNat
 ((0 : Int), (0 : Int), false, false, false, false,
 false)).2.2.2.2.2.1,
 true) =
 (Line.step x.1 x.2.1.1 x.2.1.2).1 ∧
 (((0 : Int), (0 : Int), (0 : Int)) ::
 ([] : List (Int × Int × Int))).set
 (0 : Nat)
 (x.2.1.2,
 ((g.1.set x.2.1.2.toNat
 ((g.1.getD x.2.1.2.toNat
 ((0 : Int), (0 : Int), false, false, false,
 false, false)).1,
 (g.1.getD x.2.1.2.toNat
 ((0 : Int), (0 : Int), false, false, false,
 false, false)).2.1,
 (g.1.getD x.2.1.2.toNat
 ((0 : Int), (0 : Int), false, false, false,
 false, false)).2.2.1,
 (g.1.getD x.2.1.2.toNat
 ((0 : Int), (0 : Int), false, false,
 false, false, false)).2.2.2.1,
 (g.1.getD x.2.1.2.toNat
 ((0 : Int), (0 : Int), false, false,
 false, false,
 false)).2.2.2.2.1,
 (g.1.getD x.2.1.2.toNat
 ((0 : Int), (0 : Int), false, false,
 false, false,
 false)).2.2.2.2.2.1,
 true)).getD
 x.2.1.2.toNat
 ((0 : Int), (0 : Int), false, false, false, false,
 false)).1,
 ((g.1.set x.2.1.2.toNat
 ((g.1.getD x.2.1.2.toNat
 ((0 : Int), (0 : Int), false, false, false,
 false, false)).1,
 (g.1.getD x.2.1.2.toNat
 ((0 : Int), (0 : Int), false, false, false,
 false, false)).2.1,
 (g.1.getD x.2.1.2.toNat
 ((0 : Int), (0 : Int), false, false,
 false, false, false)).2.2.1,
 (g.1.getD x.2.1.2.toNat
 ((0 : Int), (0 : Int), false, false,
 false, false, false)).2.2.2.1,
 (g.1.getD x.2.1.2.toNat
 ((0 : Int), (0 : Int), false, false,
 false, false,
 false)).2.2.2.2.1,
 (g.1.getD x.2.1.2.toNat
 ((0 : Int), (0 : Int), false, false,
 false, false,
 false)).2.2.2.2.2.1,
 true)).getD
 x.2.1.2.toNat
 ((0 : Int), (0 : Int), false, false, false, false,
 false)).2.1) =
 (Line.step x.1 x.2.1.1 x.2.1.2).2.1 ∧
 (0 : Int) =
 (Line.step x.1 x.2.1.1 x.2.1.2).2.2.1) ∧
 (((g.1.getD x.2.1.2.toNat
 ((0 : Int), (0 : Int), false, false, false, false,
 false)).2.2.2.2.1 &&
 !(g.1.getD x.2.1.2.toNat
 ((0 : Int), (0 : Int), false, false, false, false,
 false)).2.2.2.1 &&
 !(g.1.getD x.2.1.2.toNat
 ((0 : Int), (0 : Int), false, false, false, false,
 false)).2.2.2.2.2.2) =
 false →
 g.1 = (Line.step x.1 x.2.1.1 x.2.1.2).1 ∧
 ([] : List (Int × Int × Int)) =
 (Line.step x.1 x.2.1.1 x.2.1.2).2.1 ∧
 (0 : Int) =
 (Line.step x.1 x.2.1.1 x.2.1.2).2.2.1)) ∧
 ((g.1.getD x.2.1.2.toNat
 ((0 : Int), (0 : Int), false, false, false, false, false)).2.2.1 =
 false →
 ((x.2.1.1 == 1 &&
 !(x.1.getD x.2.1.2.toNat
 ((0 : Int), (0 : Int), false, false, false, false,
 false)).2.2.2.2.1) =
 true →
 (x.2.1.1 == 1 &&
 !(x.1.getD x.2.1.2.toNat
 ((0 : Int), (0 : Int), false, false, false, false,
 false)).2.2.2.2.1) =
 true) ∧
 ((x.2.1.1 == 1 &&
 !(x.1.getD x.2.1.2.toNat
 ((0 : Int), (0 : Int), false, false, false, false,
 false)).2.2.2.2.1) =
 true →
 (x.2.1.1 == 1 &&
 !(x.1.getD x.2.1.2.toNat
 ((0 : Int), (0 : Int), false, false, false, false,
 false)).2.2.2.2.1) =
 true) ∧
 ((x.2.1.1 == 1 &&
 !(x.1.getD x.2.1.2.toNat
 ((0 : Int), (0 : Int), false, false, false, false,
 false)).2.2.2.2.1) =
 true →
 (x.2.1.1 == 1 &&
 !(x.1.getD x.2.1.2.toNat
 ((0 : Int), (0 : Int), false, false, false, false,
 false)).2.2.2.2.1) =
 true) ∧
 ((x.2.1.1 == 1 &&
 !(x.1.getD x.2.1.2.toNat
 ((0 : Int), (0 : Int), false, false, false, false,
 false)).2.2.2.2.1) =
 true →
 (x.2.1.1 == 1 &&
 !(x.1.getD x.2.1.2.toNat
 ((0 : Int), (0 : Int), false, false, false, false,
 false)).2.2.2.2.1) =
 true) ∧
 ((x.2.1.1 == 1 &&
 !(x.1.getD x.2.1.2.toNat
 ((0 : Int), (0 : Int), false, false, false, false,
 false)).2.2.2.2.1 &&
 (g.1.getD x.2.1.2.toNat
 ((0 : Int), (0 : Int), false, false, false, false,
 false)).2.2.2.1) =
 true →
 g.1.set x.2.1.2.toNat
 ((g.1.getD x.2.1.2.toNat
 ((0 : Int), (0 : Int), false, false, false, false, false)).1,
 (g.1.getD x.2.1.2.toNat
 ((0 : Int), (0 : Int), false, false, false, false, false)).2.1,
 (g.1.getD x.2.1.2.toNat
 ((0 : Int), (0 : Int), false, false, false, false,
 false)).2.2.1,
 (g.1.getD x.2.1.2.toNat
 ((0 : Int), (0 : Int), false, false, false, false,
 false)).2.2.2.1,
 (g.1.getD x.2.1.2.toNat
 ((0 : Int), (0 : Int), false, false, false, false,
 false)).2.2.2.2.1,
 true,
 (g.1.getD x.2.1.2.toNat
 ((0 : Int), (0 : Int), false, false, false, false,
 false)).2.2.2.2.2.2) =
 (Line.step x.1 x.2.1.1 x.2.1.2).1 ∧
 ([] : List (Int × Int × Int)) =
 (Line.step x.1 x.2.1.1 x.2.1.2).2.1 ∧
 (0 : Int) = (Line.step x.1 x.2.1.1 x.2.1.2).2.2.1) ∧
 ((x.2.1.1 == 1 &&
 !(x.1.getD x.2.1.2.toNat
 ((0 : Int), (0 : Int), false, false, false, false,
 false)).2.2.2.2.1 &&
 (g.1.getD x.2.1.2.toNat
 ((0 : Int), (0 : Int), false, false, false, false,
 false)).2.2.2.1) =
 false →
 ((x.2.1.1 == 1 &&
 !(x.1.getD x.2.1.2.toNat
 ((0 : Int), (0 : Int), false, false, false, false,
 false)).2.2.2.2.1) =
 true →
 g.1.set x.2.1.2.toNat
 ((g.1.getD x.2.1.2.toNat
 ((0 : Int), (0 : Int), false, false, false, false, false)).1,
 (g.1.getD x.2.1.2.toNat
 ((0 : Int), (0 : Int), false, false, false, false,
 false)).2.1,
 (g.1.getD x.2.1.2.toNat
 ((0 : Int), (0 : Int), false, false, false, false,
 false)).2.2.1,
 (g.1.getD x.2.1.2.toNat
 ((0 : Int), (0 : Int), false, false, false, false,
 false)).2.2.2.1,
 (g.1.getD x.2.1.2.toNat
 ((0 : Int), (0 : Int), false, false, false, false,
 false)).2.2.2.2.1,
 false,
 (g.1.getD x.2.1.2.toNat
 ((0 : Int), (0 : Int), false, false, false, false,
 false)).2.2.2.2.2.2) =
 (Line.step x.1 x.2.1.1 x.2.1.2).1 ∧
 (((0 : Int), (0 : Int), (0 : Int)) :: ([] : List (Int × Int × Int))).set
 (0 : Nat)
 (x.2.1.2,
 ((g.1.set x.2.1.2.toNat
 ((g.1.getD x.2.1.2.toNat
 ((0 : Int), (0 : Int), false, false, false, false,
 false)).1,
 (g.1.getD x.2.1.2.toNat
 ((0 : Int), (0 : Int), false, false, false, false,
 false)).2.1,
 (g.1.getD x.2.1.2.toNat
 ((0 : Int), (0 : Int), false, false, false, false,
 false)).2.2.1,
 (g.1.getD x.2.1.2.toNat
 ((0 : Int), (0 : Int), false, false, false, false,
 false)).2.2.2.1,
 (g.1.getD x.2.1.2.toNat
 ((0 : Int), (0 : Int), false, false, false,
 false, false)).2.2.2.2.1,
 false,
 (g.1.getD x.2.1.2.toNat
 ((0 : Int), (0 : Int), false, false, false,
 false,
 false)).2.2.2.2.2.2)).getD
 x.2.1.2.toNat
 ((0 : Int), (0 : Int), false, false, false, false, false)).1,
 ((g.1.set x.2.1.2.toNat
 ((g.1.getD x.2.1.2.toNat
 ((0 : Int), (0 : Int), false, false, false, false,
 false)).1,
 (g.1.getD x.2.1.2.toNat
 ((0 : Int), (0 : Int), false, false, false, false,
 false)).2.1,
 (g.1.getD x.2.1.2.toNat
 ((0 : Int), (0 : Int), false, false, false, false,
 false)).2.2.1,
 (g.1.getD x.2.1.2.toNat
 ((0 : Int), (0 : Int), false, false, false,
 false, false)).2.2.2.1,
 (g.1.getD x.2.1.2.toNat
 ((0 : Int), (0 : Int), false, false, false,
 false, false)).2.2.2.2.1,
 false,
 (g.1.getD x.2.1.2.toNat
 ((0 : Int), (0 : Int), false, false, false,
 false,
 false)).2.2.2.2.2.2)).getD
 x.2.1.2.toNat
 ((0 : Int), (0 : Int), false, false, false, false,
 false)).2.1) =
 (Line.step x.1 x.2.1.1 x.2.1.2).2.1 ∧
 (0 : Int) = (Line.step x.1 x.2.1.1 x.2.1.2).2.2.1) ∧
 ((x.2.1.1 == 1 &&
 !(x.1.getD x.2.1.2.toNat
 ((0 : Int), (0 : Int), false, false, false, false,
 false)).2.2.2.2.1) =
 false →
 ((g.1.getD x.2.1.2.toNat
 ((0 : Int), (0 : Int), false, false, false, false,
 false)).2.2.2.2.2.1 =
 true →
 (g.1.getD x.2.1.2.toNat
 ((0 : Int), (0 : Int), false, false, false, false,
 false)).2.2.2.2.2.1 =
 true) ∧
 ((g.1.getD x.2.1.2.toNat
 ((0 : Int), (0 : Int), false, false, false, false,
 false)).2.2.2.2.2.1 =
 true →
 (g.1.getD x.2.1.2.toNat
 ((0 : Int), (0 : Int), false, false, false, false,
 false)).2.2.2.2.2.1 =
 true) ∧
 ((g.1.getD x.2.1.2.toNat
 ((0 : Int), (0 : Int), false, false, false, false,
 false)).2.2.2.2.2.1 =
 true →
 (g.1.getD x.2.1.2.toNat
 ((0 : Int), (0 : Int), false, false, false, false,
 false)).2.2.2.2.2.1 =
 true) ∧
 ((g.1.getD x.2.1.2.toNat
 ((0 : Int), (0 : Int), false, false, false, false,
 false)).2.2.2.2.2.1 =
 true →
 (g.1.getD x.2.1.2.toNat
 ((0 : Int), (0 : Int), false, false, false, false,
 false)).2.2.2.2.2.1 =
 true) ∧
 ((g.1.getD x.2.1.2.toNat
 ((0 : Int), (0 : Int), false, false, false, false,
 false)).2.2.2.2.2.1 =
 true →
 (g.1.getD x.2.1.2.toNat
 ((0 : Int), (0 : Int), false, false, false, false,
 false)).2.2.2.2.2.1 =
 true) ∧
 (((g.1.getD x.2.1.2.toNat
 ((0 : Int), (0 : Int), false, false, false,
 false, false)).2.2.2.2.2.1 &&
 !(g.1.getD x.2.1.2.toNat
 ((0 : Int), (0 : Int), false, false, false, false,
 false)).2.2.2.1) =
 true →
 g.1.set x.2.1.2.toNat
 ((g.1.getD x.2.1.2.toNat
 ((0 : Int), (0 : Int), false, false, false, false,
 false)).1,
 (g.1.getD x.2.1.2.toNat
 ((0 : Int), (0 : Int), false, false, false, false,
 false)).2.1,
 (g.1.getD x.2.1.2.toNat
 ((0 : Int), (0 : Int), false, false, false, false,
 false)).2.2.1,
 (g.1.getD x.2.1.2.toNat
 ((0 : Int), (0 : Int), false, false, false,
 false, false)).2.2.2.1,
 (g.1.getD x.2.1.2.toNat
 ((0 : Int), (0 : Int), false, false, false,
 false, false)).2.2.2.2.1,
 false,
 (g.1.getD x.2.1.2.toNat
 ((0 : Int), (0 : Int), false, false, false,
 false, false)).2.2.2.2.2.2) =
 (Line.step x.1 x.2.1.1 x.2.1.2).1 ∧
 (((0 : Int), (0 : Int), (0 : Int)) ::
 ([] : List (Int × Int × Int))).set
 (0 : Nat)
 (x.2.1.2,
 ((g.1.set x.2.1.2.toNat
 ((g.1.getD x.2.1.2.toNat
 ((0 : Int), (0 : Int), false, false,
 false, false, false)).1,
 (g.1.getD x.2.1.2.toNat
 ((0 : Int), (0 : Int), false, false,
 false, false, false)).2.1,
 (g.1.getD x.2.1.2.toNat
 ((0 : Int), (0 : Int), false, false,
 false, false, false)).2.2.1,
 (g.1.getD x.2.1.2.toNat
 ((0 : Int), (0 : Int), false, false,
 false, false,
 false)).2.2.2.1,
 (g.1.getD x.2.1.2.toNat
 ((0 : Int), (0 : Int), false,
 false, false, false,
 false)).2.2.2.2.1,
 false,
 (g.1.getD x.2.1.2.toNat
 ((0 : Int), (0 : Int), false,
 false, false, false,
 false)).2.2.2.2.2.2)).getD
 x.2.1.2.toNat
 ((0 : Int), (0 : Int), false, false, false, false,
 false)).1,
 ((g.1.set x.2.1.2.toNat
 ((g.1.getD x.2.1.2.toNat
 ((0 : Int), (0 : Int), false, false,
 false, false, false)).1,
 (g.1.getD x.2.1.2.toNat
 ((0 : Int), (0 : Int), false, false,
 false, false, false)).2.1,
 (g.1.getD x.2.1.2.toNat
 ((0 : Int), (0 : Int), false, false,
 false, false, false)).2.2.1,
 (g.1.getD x.2.1.2.toNat
 ((0 : Int), (0 : Int), false,
 false, false, false,
 false)).2.2.2.1,
 (g.1.getD x.2.1.2.toNat
 ((0 : Int), (0 : Int), false,
 false, false, false,
 false)).2.2.2.2.1,
 false,
 (g.1.getD x.2.1.2.toNat
 ((0 : Int), (0 : Int), false,
 false, false, false,
 false)).2.2.2.2.2.2)).getD
 x.2.1.2.toNat
 ((0 : Int), (0 : Int), false, false, false, false,
 false)).2.1) =
 (Line.step x.1 x.2.1.1 x.2.1.2).2.1 ∧
 (0 : Int) =
 (Line.step x.1 x.2.1.1 x.2.1.2).2.2.1) ∧
 (((g.1.getD x.2.1.2.toNat
 ((0 : Int), (0 : Int), false, false, false,
 false, false)).2.2.2.2.2.1 &&
 !(g.1.getD x.2.1.2.toNat
 ((0 : Int), (0 : Int), false, false, false, false,
 false)).2.2.2.1) =
 false →
 g.1 = (Line.step x.1 x.2.1.1 x.2.1.2).1 ∧
 ([] : List (Int × Int × Int)) =
 (Line.step x.1 x.2.1.1 x.2.1.2).2.1 ∧
 (0 : Int) =
 (Line.step x.1 x.2.1.1
 x.2.1.2).2.2.1)))))))

theorem E_lstep_eq (x : HL (cStepO : Ctr).as) : vc (fx_lstep x) 2 40 Tryd.f40 (cStepO) x = E_lstep x := by kernel_rfl

def E_ydo (x : (List Int × List Int × (List (List Int) × List Int) × Int × Int × Int × Int × Int × List Int) × (Int × Int × Int × Int) × Unit) : Prop :=
 ((!x.2.1.1 == 2) = true → (!x.2.1.1 == 2) = true) ∧
 ((!x.2.1.1 == 2) = true → (!x.2.1.1 == 2) = true) ∧
 ((x.2.1.1 == 2) = false → (!x.2.1.1 == 2) = true) ∧
 ((!(x.2.1.1 == 2 || x.2.1.1 == 4)) = true → (!(x.2.1.1 == 2 || x.2.1.1 == 4)) = true) ∧
 ((!(x.2.1.1 == 2 || x.2.1.1 == 4)) = true →
 (!(x.2.1.1 == 2 || x.2.1.1 == 4)) = true) ∧
 ((x.2.1.1 == 2 || x.2.1.1 == 4) = false →
 (!(x.2.1.1 == 2 || x.2.1.1 == 4)) = true) ∧
 ((!(x.2.1.1 == 2 || x.2.1.1 == 4 || x.2.1.1 == 5)) = true →
 (!(x.2.1.1 == 2 || x.2.1.1 == 4 || x.2.1.1 == 5)) = true) ∧
 ((!(x.2.1.1 == 2 || x.2.1.1 == 4 || x.2.1.1 == 5)) = true →
 (!(x.2.1.1 == 2 || x.2.1.1 == 4 || x.2.1.1 == 5)) = true) ∧
 ((x.2.1.1 == 2 || x.2.1.1 == 4 || x.2.1.1 == 5) = false →
 (!(x.2.1.1 == 2 || x.2.1.1 == 4 || x.2.1.1 == 5)) = true) ∧
 ((!decide (x.2.1.1 < 1)) = true → (!decide (x.2.1.1 < 1)) = true) ∧
 ((!decide (x.2.1.1 < 1)) = true → (!decide (x.2.1.1 < 1)) = true) ∧
 (decide (x.2.1.1 < 1) = false → (!decide (x.2.1.1 < 1)) = true) ∧
 ((decide (x.2.1.1 < 1) || decide (6 < x.2.1.1)) = true →
 (decide (0 < (↑x.1.1.length : Int)) = true → decide (0 < (↑x.1.1.length : Int)) = true) ∧
 (decide (0 < (↑x.1.1.length : Int)) = true → decide (0 < (↑x.1.1.length : Int)) = true) ∧
 (decide (0 < (↑x.1.1.length : Int)) = true → decide (0 < (↑x.1.1.length : Int)) = true) ∧
 ((decide (0 < (↑x.1.1.length : Int)) && decide (x.1.2.2.2.2.2.1 < 0)) = true →
 (decide (0 < (↑x.1.1.length : Int)) && decide (x.1.2.2.2.2.2.1 < 0)) = true) ∧
 ((decide (0 < (↑x.1.1.length : Int)) && decide (x.1.2.2.2.2.2.1 < 0)) = true →
 (decide (0 < (↑x.1.1.length : Int)) && decide (x.1.2.2.2.2.2.1 < 0)) =
 true) ∧
 ((decide (0 < (↑x.1.1.length : Int)) && decide (x.1.2.2.2.2.2.1 < 0)) = true →
 (decide (0 < (↑x.1.1.length : Int)) && decide (x.1.2.2.2.2.2.1 < 0)) =
 true) ∧
 ((decide (0 < (↑x.1.1.length : Int)) && decide (x.1.2.2.2.2.2.1 < 0) &&
 decide (x.1.2.2.2.2.2.2.1 < 0)) =
 true →
 (x.1.1, x.1.2.1, (x.1.2.2.1.1, x.1.2.2.1.2), x.1.2.2.2.1,
 x.1.2.2.2.2.1, x.1.2.2.2.2.2.2.2.1, x.1.2.2.2.2.2.2.1,
 x.1.2.2.2.2.2.2.2.1, x.1.2.2.2.2.2.2.2.2) =
 (ydo x.1 x.2.1).1 ∧
 ((5 : Int), ([] : List Int)) = (ydo x.1 x.2.1).2) ∧
 ((decide (0 < (↑x.1.1.length : Int)) && decide (x.1.2.2.2.2.2.1 < 0) &&
 decide (x.1.2.2.2.2.2.2.1 < 0)) =
 false →
 (x.1.1, x.1.2.1, (x.1.2.2.1.1, x.1.2.2.1.2), x.1.2.2.2.1,
 x.1.2.2.2.2.1, x.1.2.2.2.2.2.1, x.1.2.2.2.2.2.2.1,
 x.1.2.2.2.2.2.2.2.1, x.1.2.2.2.2.2.2.2.2) =
 (ydo x.1 x.2.1).1 ∧
 ((5 : Int), ([] : List Int)) = (ydo x.1 x.2.1).2)) ∧
 ((decide (x.2.1.1 < 1) || decide (6 < x.2.1.1)) = false →
 ((x.2.1.1 == 2 || x.2.1.1 == 4 || x.2.1.1 == 5 || x.2.1.1 == 6) =
 true →
 (x.2.1.1 == 2 || x.2.1.1 == 4 || x.2.1.1 == 5 ||
 x.2.1.1 == 6) =
 true) ∧
 ((x.2.1.1 == 2 || x.2.1.1 == 4 || x.2.1.1 == 5 ||
 x.2.1.1 == 6) =
 true →
 (x.2.1.1 == 2 || x.2.1.1 == 4 || x.2.1.1 == 5 ||
 x.2.1.1 == 6) =
 true) ∧
 (((x.2.1.1 == 2 || x.2.1.1 == 4 || x.2.1.1 == 5 ||
 x.2.1.1 == 6) &&
 x.2.1.2.1 != 0) =
 true →
 ((x.2.1.1 == 2 || x.2.1.1 == 4 || x.2.1.1 == 5 ||
 x.2.1.1 == 6) &&
 x.2.1.2.1 != 0) =
 true) ∧
 (((x.2.1.1 == 2 || x.2.1.1 == 4 || x.2.1.1 == 5 ||
 x.2.1.1 == 6) &&
 x.2.1.2.1 != 0) =
 true →
 ((x.2.1.1 == 2 || x.2.1.1 == 4 || x.2.1.1 == 5 ||
 x.2.1.1 == 6) &&
 x.2.1.2.1 != 0) =
 true) ∧
 (((x.2.1.1 == 2 || x.2.1.1 == 4 || x.2.1.1 == 5 ||
 x.2.1.1 == 6) &&
 x.2.1.2.1 != 0 &&
 x.2.1.2.1 != 1) =
 true →
 (decide (0 < (↑x.1.1.length : Int)) = true →
 decide (0 < (↑x.1.1.length : Int)) = true) ∧
 (decide (0 < (↑x.1.1.length : Int)) = true →
 decide (0 < (↑x.1.1.length : Int)) = true) ∧
 (decide (0 < (↑x.1.1.length : Int)) = true →
 decide (0 < (↑x.1.1.length : Int)) = true) ∧
 ((decide (0 < (↑x.1.1.length : Int)) &&
 decide (x.1.2.2.2.2.2.1 < 0)) =
 true →
 (decide (0 < (↑x.1.1.length : Int)) &&
 decide (x.1.2.2.2.2.2.1 < 0)) =
 true) ∧
 ((decide (0 < (↑x.1.1.length : Int)) &&
 decide (x.1.2.2.2.2.2.1 < 0)) =
 true →
 (decide (0 < (↑x.1.1.length : Int)) &&
 decide (x.1.2.2.2.2.2.1 < 0)) =
 true) ∧
 ((decide (0 < (↑x.1.1.length : Int)) &&
 decide (x.1.2.2.2.2.2.1 < 0)) =
 true →
 (decide (0 < (↑x.1.1.length : Int)) &&
 decide (x.1.2.2.2.2.2.1 < 0)) =
 true) ∧
 ((decide (0 < (↑x.1.1.length : Int)) &&
 decide (x.1.2.2.2.2.2.1 < 0) &&
 decide (x.1.2.2.2.2.2.2.1 < 0)) =
 true →
 (x.1.1, x.1.2.1, (x.1.2.2.1.1, x.1.2.2.1.2),
 x.1.2.2.2.1, x.1.2.2.2.2.1, x.1.2.2.2.2.2.2.2.1,
 x.1.2.2.2.2.2.2.1, x.1.2.2.2.2.2.2.2.1,
 x.1.2.2.2.2.2.2.2.2) =
 (ydo x.1 x.2.1).1 ∧
 ((2 : Int), ([] : List Int)) = (ydo x.1 x.2.1).2) ∧
 ((decide (0 < (↑x.1.1.length : Int)) &&
 decide (x.1.2.2.2.2.2.1 < 0) &&
 decide (x.1.2.2.2.2.2.2.1 < 0)) =
 false →
 (x.1.1, x.1.2.1, (x.1.2.2.1.1, x.1.2.2.1.2),
 x.1.2.2.2.1, x.1.2.2.2.2.1, x.1.2.2.2.2.2.1,
 x.1.2.2.2.2.2.2.1, x.1.2.2.2.2.2.2.2.1,
 x.1.2.2.2.2.2.2.2.2) =
 (ydo x.1 x.2.1).1 ∧
 ((2 : Int), ([] : List Int)) = (ydo x.1 x.2.1).2)) ∧
 (((x.2.1.1 == 2 || x.2.1.1 == 4 || x.2.1.1 == 5 ||
 x.2.1.1 == 6) &&
 x.2.1.2.1 != 0 &&
 x.2.1.2.1 != 1) =
 false →
 ((x.2.1.1 == 1) = true → (x.2.1.1 == 1) = true) ∧
 ((x.2.1.1 == 1) = true → (x.2.1.1 == 1) = true) ∧
 ((x.2.1.1 == 1) = true → (x.2.1.1 == 1) = true) ∧
 ((x.2.1.1 == 1) = true → (x.2.1.1 == 1) = true) ∧
 ((x.2.1.1 == 1 && (↑x.1.1.length : Int) == (16 : Int)) = true →
 (-9223372036854775808 ≤ x.1.2.2.2.1 + 1 ∧
 x.1.2.2.2.1 + 1 ≤ (9223372036854775807 : Int)) ∧
 (decide (0 < (↑x.1.1.length : Int)) = true →
 decide (0 < (↑x.1.1.length : Int)) = true) ∧
 (decide (0 < (↑x.1.1.length : Int)) = true →
 decide (0 < (↑x.1.1.length : Int)) = true) ∧
 (decide (0 < (↑x.1.1.length : Int)) = true →
 decide (0 < (↑x.1.1.length : Int)) = true) ∧
 ((decide (0 < (↑x.1.1.length : Int)) &&
 decide (x.1.2.2.2.2.2.1 < 0)) =
 true →
 (decide (0 < (↑x.1.1.length : Int)) &&
 decide (x.1.2.2.2.2.2.1 < 0)) =
 true) ∧
 ((decide (0 < (↑x.1.1.length : Int)) &&
 decide (x.1.2.2.2.2.2.1 < 0)) =
 true →
 (decide (0 < (↑x.1.1.length : Int)) &&
 decide (x.1.2.2.2.2.2.1 < 0)) =
 true) ∧
 ((decide (0 < (↑x.1.1.length : Int)) &&
 decide (x.1.2.2.2.2.2.1 < 0)) =
 true →
 (decide (0 < (↑x.1.1.length : Int)) &&
 decide (x.1.2.2.2.2.2.1 < 0)) =
 true) ∧
 ((decide (0 < (↑x.1.1.length : Int)) &&
 decide (x.1.2.2.2.2.2.1 < 0) &&
 decide (x.1.2.2.2.2.2.2.1 < 0)) =
 true →
 (x.1.1, x.1.2.1, (x.1.2.2.1.1, x.1.2.2.1.2),
 x.1.2.2.2.1 + 1, x.1.2.2.2.2.1,
 x.1.2.2.2.2.2.2.2.1, x.1.2.2.2.2.2.2.1,
 x.1.2.2.2.2.2.2.2.1,
 x.1.2.2.2.2.2.2.2.2) =
 (ydo x.1 x.2.1).1 ∧
 ((0 : Int), ([] : List Int)) = (ydo x.1 x.2.1).2) ∧
 ((decide (0 < (↑x.1.1.length : Int)) &&
 decide (x.1.2.2.2.2.2.1 < 0) &&
 decide (x.1.2.2.2.2.2.2.1 < 0)) =
 false →
 (x.1.1, x.1.2.1, (x.1.2.2.1.1, x.1.2.2.1.2),
 x.1.2.2.2.1 + 1, x.1.2.2.2.2.1,
 x.1.2.2.2.2.2.1, x.1.2.2.2.2.2.2.1,
 x.1.2.2.2.2.2.2.2.1,
 x.1.2.2.2.2.2.2.2.2) =
 (ydo x.1 x.2.1).1 ∧
 ((0 : Int), ([] : List Int)) = (ydo x.1 x.2.1).2)) ∧
 ((x.2.1.1 == 1 && (↑x.1.1.length : Int) == (16 : Int)) = false →
 ((x.2.1.1 == 1) = true →
 (([] : List Int).length + x.1.1.length ≤ (9223372036854775807 : Nat) ∧
 (([] : List Int).length + x.1.1.length +
 (([] : List Int).length + x.1.1.length) / (4 : Nat) +
 (192 : Nat)) *
 (1 : Nat) ≤
 (281474976710656 : Nat)) ∧
 ((([] : List Int) ++ x.1.1).length +
 (((0 : Int) :: ([] : List Int)).set (0 : Nat) x.2.1.2.2.2).length ≤
 (9223372036854775807 : Nat) ∧
 ((([] : List Int) ++ x.1.1).length +
 (((0 : Int) :: ([] : List Int)).set (0 : Nat) x.2.1.2.2.2).length +
 ((([] : List Int) ++ x.1.1).length +
 (((0 : Int) :: ([] : List Int)).set (0 : Nat)
 x.2.1.2.2.2).length) /
 (4 : Nat) +
 (192 : Nat)) *
 (1 : Nat) ≤
 (281474976710656 : Nat)) ∧
 (decide
 ((0 : Int) <
 (↑(([] : List Int) ++ x.1.1 ++
 ((0 : Int) :: ([] : List Int)).set (0 : Nat)
 x.2.1.2.2.2).length :
 Int)) =
 true →
 decide
 ((0 : Int) <
 (↑(([] : List Int) ++ x.1.1 ++
 ((0 : Int) :: ([] : List Int)).set (0 : Nat)
 x.2.1.2.2.2).length :
 Int)) =
 true) ∧
 (decide
 ((0 : Int) <
 (↑(([] : List Int) ++ x.1.1 ++
 ((0 : Int) :: ([] : List Int)).set (0 : Nat)
 x.2.1.2.2.2).length :
 Int)) =
 true →
 decide
 ((0 : Int) <
 (↑(([] : List Int) ++ x.1.1 ++
 ((0 : Int) :: ([] : List Int)).set (0 : Nat)
 x.2.1.2.2.2).length :
 Int)) =
 true) ∧
 (decide
 ((0 : Int) <
 (↑(([] : List Int) ++ x.1.1 ++
 ((0 : Int) :: ([] : List Int)).set (0 : Nat)
 x.2.1.2.2.2).length :
 Int)) =
 true →
 decide
 ((0 : Int) <
 (↑(([] : List Int) ++ x.1.1 ++
 ((0 : Int) :: ([] : List Int)).set (0 : Nat)
 x.2.1.2.2.2).length :
 Int)) =
 true) ∧
 ((decide
 ((0 : Int) <
 (↑(([] : List Int) ++ x.1.1 ++
 ((0 : Int) :: ([] : List Int)).set (0 : Nat)
 x.2.1.2.2.2).length :
 Int)) &&
 decide (x.1.2.2.2.2.2.1 < 0)) =
 true →
 (decide
 ((0 : Int) <
 (↑(([] : List Int) ++ x.1.1 ++
 ((0 : Int) :: ([] : List Int)).set (0 : Nat)
 x.2.1.2.2.2).length :
 Int)) &&
 decide (x.1.2.2.2.2.2.1 < 0)) =
 true) ∧
 ((decide
 ((0 : Int) <
 (↑(([] : List Int) ++ x.1.1 ++
 ((0 : Int) :: ([] : List Int)).set (0 : Nat)
 x.2.1.2.2.2).length :
 Int)) &&
 decide (x.1.2.2.2.2.2.1 < 0)) =
 true →
 (decide
 ((0 : Int) <
 (↑(([] : List Int) ++ x.1.1 ++
 ((0 : Int) :: ([] : List Int)).set (0 : Nat)
 x.2.1.2.2.2).length :
 Int)) &&
 decide (x.1.2.2.2.2.2.1 < 0)) =
 true) ∧
 ((decide
 ((0 : Int) <
 (↑(([] : List Int) ++ x.1.1 ++
 ((0 : Int) :: ([] : List Int)).set (0 : Nat)
 x.2.1.2.2.2).length :
 Int)) &&
 decide (x.1.2.2.2.2.2.1 < 0)) =
 true →
 (decide
 ((0 : Int) <
 (↑(([] : List Int) ++ x.1.1 ++
 ((0 : Int) :: ([] : List Int)).set (0 : Nat)
 x.2.1.2.2.2).length :
 Int)) &&
 decide (x.1.2.2.2.2.2.1 < 0)) =
 true) ∧
 ((decide
 ((0 : Int) <
 (↑(([] : List Int) ++ x.1.1 ++
 ((0 : Int) :: ([] : List Int)).set (0 : Nat)
 x.2.1.2.2.2).length :
 Int)) &&
 decide (x.1.2.2.2.2.2.1 < 0) &&
 decide (x.1.2.2.2.2.2.2.1 < 0)) =
 true →
 (([] : List Int) ++ x.1.1 ++
 ((0 : Int) :: ([] : List Int)).set (0 : Nat)
 x.2.1.2.2.2,
 x.1.2.1, (x.1.2.2.1.1, x.1.2.2.1.2),
 x.1.2.2.2.1, x.1.2.2.2.2.1,
 x.1.2.2.2.2.2.2.2.1,
 x.1.2.2.2.2.2.2.1,
 x.1.2.2.2.2.2.2.2.1,
 x.1.2.2.2.2.2.2.2.2) =
 (ydo x.1 x.2.1).1 ∧
 ((0 : Int), ([] : List Int)) = (ydo x.1 x.2.1).2) ∧
 ((decide
 ((0 : Int) <
 (↑(([] : List Int) ++ x.1.1 ++
 ((0 : Int) :: ([] : List Int)).set (0 : Nat)
 x.2.1.2.2.2).length :
 Int)) &&
 decide (x.1.2.2.2.2.2.1 < 0) &&
 decide (x.1.2.2.2.2.2.2.1 < 0)) =
 false →
 (([] : List Int) ++ x.1.1 ++
 ((0 : Int) :: ([] : List Int)).set (0 : Nat)
 x.2.1.2.2.2,
 x.1.2.1, (x.1.2.2.1.1, x.1.2.2.1.2),
 x.1.2.2.2.1, x.1.2.2.2.2.1,
 x.1.2.2.2.2.2.1, x.1.2.2.2.2.2.2.1,
 x.1.2.2.2.2.2.2.2.1,
 x.1.2.2.2.2.2.2.2.2) =
 (ydo x.1 x.2.1).1 ∧
 ((0 : Int), ([] : List Int)) = (ydo x.1 x.2.1).2)) ∧
 ((x.2.1.1 == 1) = false →
 ((x.2.1.1 == 3) = true →
 Holds True ∧
 (((Tty.readT (x.1.2.2.1.1, x.1.2.2.1.2)
 x.2.1.2.2.1).2.2.1 ==
 (0 : Int)) =
 true →
 (decide (0 < (↑x.1.1.length : Int)) = true →
 decide (0 < (↑x.1.1.length : Int)) = true) ∧
 (decide (0 < (↑x.1.1.length : Int)) = true →
 decide (0 < (↑x.1.1.length : Int)) = true) ∧
 (decide (0 < (↑x.1.1.length : Int)) = true →
 decide (0 < (↑x.1.1.length : Int)) = true) ∧
 ((decide (0 < (↑x.1.1.length : Int)) &&
 decide (x.1.2.2.2.2.2.1 < 0)) =
 true →
 (decide (0 < (↑x.1.1.length : Int)) &&
 decide (x.1.2.2.2.2.2.1 < 0)) =
 true) ∧
 ((decide (0 < (↑x.1.1.length : Int)) &&
 decide (x.1.2.2.2.2.2.1 < 0)) =
 true →
 (decide (0 < (↑x.1.1.length : Int)) &&
 decide (x.1.2.2.2.2.2.1 < 0)) =
 true) ∧
 ((decide (0 < (↑x.1.1.length : Int)) &&
 decide (x.1.2.2.2.2.2.1 < 0)) =
 true →
 (decide (0 < (↑x.1.1.length : Int)) &&
 decide (x.1.2.2.2.2.2.1 < 0)) =
 true) ∧
 ((decide (0 < (↑x.1.1.length : Int)) &&
 decide (x.1.2.2.2.2.2.1 < 0) &&
 decide (x.1.2.2.2.2.2.2.1 < 0)) =
 true →
 (x.1.1, x.1.2.1,
 ((Tty.readT (x.1.2.2.1.1, x.1.2.2.1.2)
 x.2.1.2.2.1).1.1,
 (Tty.readT (x.1.2.2.1.1, x.1.2.2.1.2)
 x.2.1.2.2.1).1.2),
 x.1.2.2.2.1, x.1.2.2.2.2.1,
 x.1.2.2.2.2.2.2.2.1,
 x.1.2.2.2.2.2.2.1,
 x.1.2.2.2.2.2.2.2.1,
 x.1.2.2.2.2.2.2.2.2) =
 (ydo x.1 x.2.1).1 ∧
 ((Tty.readT (x.1.2.2.1.1, x.1.2.2.1.2)
 x.2.1.2.2.1).2.2.1,
 (Tty.readT (x.1.2.2.1.1, x.1.2.2.1.2)
 x.2.1.2.2.1).2.1) =
 (ydo x.1 x.2.1).2) ∧
 ((decide (0 < (↑x.1.1.length : Int)) &&
 decide (x.1.2.2.2.2.2.1 < 0) &&
 decide (x.1.2.2.2.2.2.2.1 < 0)) =
 false →
 (x.1.1, x.1.2.1,
 ((Tty.readT (x.1.2.2.1.1, x.1.2.2.1.2)
 x.2.1.2.2.1).1.1,
 (Tty.readT (x.1.2.2.1.1, x.1.2.2.1.2)
 x.2.1.2.2.1).1.2),
 x.1.2.2.2.1, x.1.2.2.2.2.1,
 x.1.2.2.2.2.2.1,
 x.1.2.2.2.2.2.2.1,
 x.1.2.2.2.2.2.2.2.1,
 x.1.2.2.2.2.2.2.2.2) =
 (ydo x.1 x.2.1).1 ∧
 ((Tty.readT (x.1.2.2.1.1, x.1.2.2.1.2)
 x.2.1.2.2.1).2.2.1,
 (Tty.readT (x.1.2.2.1.1, x.1.2.2.1.2)
 x.2.1.2.2.1).2.1) =
 (ydo x.1 x.2.1).2)) ∧
 (((Tty.readT (x.1.2.2.1.1, x.1.2.2.1.2)
 x.2.1.2.2.1).2.2.1 ==
 (0 : Int)) =
 false →
 (decide (0 < (↑x.1.1.length : Int)) = true →
 decide (0 < (↑x.1.1.length : Int)) = true) ∧
 (decide (0 < (↑x.1.1.length : Int)) = true →
 decide (0 < (↑x.1.1.length : Int)) = true) ∧
 (decide (0 < (↑x.1.1.length : Int)) = true →
 decide (0 < (↑x.1.1.length : Int)) = true) ∧
 ((decide (0 < (↑x.1.1.length : Int)) &&
 decide (x.1.2.2.2.2.2.1 < 0)) =
 true →
 (decide (0 < (↑x.1.1.length : Int)) &&
 decide (x.1.2.2.2.2.2.1 < 0)) =
 true) ∧
 ((decide (0 < (↑x.1.1.length : Int)) &&
 decide (x.1.2.2.2.2.2.1 < 0)) =
 true →
 (decide (0 < (↑x.1.1.length : Int)) &&
 decide (x.1.2.2.2.2.2.1 < 0)) =
 true) ∧
 ((decide (0 < (↑x.1.1.length : Int)) &&
 decide (x.1.2.2.2.2.2.1 < 0)) =
 true →
 (decide (0 < (↑x.1.1.length : Int)) &&
 decide (x.1.2.2.2.2.2.1 < 0)) =
 true) ∧
 ((decide (0 < (↑x.1.1.length : Int)) &&
 decide (x.1.2.2.2.2.2.1 < 0) &&
 decide (x.1.2.2.2.2.2.2.1 < 0)) =
 true →
 (x.1.1, x.1.2.1,
 (x.1.2.2.1.1, x.1.2.2.1.2),
 x.1.2.2.2.1, x.1.2.2.2.2.1,
 x.1.2.2.2.2.2.2.2.1,
 x.1.2.2.2.2.2.2.1,
 x.1.2.2.2.2.2.2.2.1,
 x.1.2.2.2.2.2.2.2.2) =
 (ydo x.1 x.2.1).1 ∧
 ((Tty.readT (x.1.2.2.1.1, x.1.2.2.1.2)
 x.2.1.2.2.1).2.2.1,
 (Tty.readT (x.1.2.2.1.1, x.1.2.2.1.2)
 x.2.1.2.2.1).2.1) =
 (ydo x.1 x.2.1).2) ∧
 ((decide (0 < (↑x.1.1.length : Int)) &&
 decide (x.1.2.2.2.2.2.1 < 0) &&
 decide (x.1.2.2.2.2.2.2.1 < 0)) =
 false →
 (x.1.1, x.1.2.1,
 (x.1.2.2.1.1, x.1.2.2.1.2),
 x.1.2.2.2.1, x.1.2.2.2.2.1,
 x.1.2.2.2.2.2.1,
 x.1.2.2.2.2.2.2.1,
 x.1.2.2.2.2.2.2.2.1,
 x.1.2.2.2.2.2.2.2.2) =
 (ydo x.1 x.2.1).1 ∧
 ((Tty.readT (x.1.2.2.1.1, x.1.2.2.1.2)
 x.2.1.2.2.1).2.2.1,
 (Tty.readT (x.1.2.2.1.1, x.1.2.2.1.2)
 x.2.1.2.2.1).2.1) =
 (ydo x.1 x.2.1).2))) ∧
 ((x.2.1.1 == 3) = false →
 ((x.2.1.1 == 6) = true →
 (decide (0 < (↑x.1.1.length : Int)) = true →
 decide (0 < (↑x.1.1.length : Int)) = true) ∧
 (decide (0 < (↑x.1.1.length : Int)) = true →
 decide (0 < (↑x.1.1.length : Int)) = true) ∧
 (decide (0 < (↑x.1.1.length : Int)) = true →
 decide (0 < (↑x.1.1.length : Int)) = true) ∧
 ((decide (0 < (↑x.1.1.length : Int)) &&
 decide (x.1.2.2.2.2.2.1 < 0)) =
 true →
 (decide (0 < (↑x.1.1.length : Int)) &&
 decide (x.1.2.2.2.2.2.1 < 0)) =
 true) ∧
 ((decide (0 < (↑x.1.1.length : Int)) &&
 decide (x.1.2.2.2.2.2.1 < 0)) =
 true →
 (decide (0 < (↑x.1.1.length : Int)) &&
 decide (x.1.2.2.2.2.2.1 < 0)) =
 true) ∧
 ((decide (0 < (↑x.1.1.length : Int)) &&
 decide (x.1.2.2.2.2.2.1 < 0)) =
 true →
 (decide (0 < (↑x.1.1.length : Int)) &&
 decide (x.1.2.2.2.2.2.1 < 0)) =
 true) ∧
 ((decide (0 < (↑x.1.1.length : Int)) &&
 decide (x.1.2.2.2.2.2.1 < 0) &&
 decide (x.1.2.2.2.2.2.2.1 < 0)) =
 true →
 (x.1.1, x.1.2.1,
 (x.1.2.2.1.1, x.1.2.2.1.2),
 x.1.2.2.2.1, x.1.2.2.2.2.1,
 x.2.1.2.1, x.1.2.2.2.2.2.2.1,
 x.2.1.2.1, x.1.2.2.2.2.2.2.2.2) =
 (ydo x.1 x.2.1).1 ∧
 ((0 : Int), ([] : List Int)) = (ydo x.1 x.2.1).2) ∧
 ((decide (0 < (↑x.1.1.length : Int)) &&
 decide (x.1.2.2.2.2.2.1 < 0) &&
 decide (x.1.2.2.2.2.2.2.1 < 0)) =
 false →
 (x.1.1, x.1.2.1,
 (x.1.2.2.1.1, x.1.2.2.1.2),
 x.1.2.2.2.1, x.1.2.2.2.2.1,
 x.1.2.2.2.2.2.1,
 x.1.2.2.2.2.2.2.1, x.2.1.2.1,
 x.1.2.2.2.2.2.2.2.2) =
 (ydo x.1 x.2.1).1 ∧
 ((0 : Int), ([] : List Int)) = (ydo x.1 x.2.1).2)) ∧
 ((x.2.1.1 == 6) = false →
 ((x.2.1.1 != 2) = true → (x.2.1.1 != 2) = true) ∧
 ((x.2.1.1 != 2) = true →
 (x.2.1.1 != 2) = true ∧ (x.2.1.1 != 2) = true) ∧
 ((x.2.1.1 != 2) = true → (x.2.1.1 != 2) = true) ∧
 ((x.2.1.1 != 2 &&
 x.1.2.2.2.2.2.2.1 == x.2.1.2.1) =
 true →
 (decide (0 < (↑x.1.1.length : Int)) = true →
 decide (0 < (↑x.1.1.length : Int)) = true) ∧
 (decide (0 < (↑x.1.1.length : Int)) = true →
 decide (0 < (↑x.1.1.length : Int)) = true) ∧
 (decide (0 < (↑x.1.1.length : Int)) = true →
 decide (0 < (↑x.1.1.length : Int)) = true) ∧
 ((decide (0 < (↑x.1.1.length : Int)) &&
 decide (x.1.2.2.2.2.2.1 < 0)) =
 true →
 (decide (0 < (↑x.1.1.length : Int)) &&
 decide (x.1.2.2.2.2.2.1 < 0)) =
 true) ∧
 ((decide (0 < (↑x.1.1.length : Int)) &&
 decide (x.1.2.2.2.2.2.1 < 0)) =
 true →
 (decide (0 < (↑x.1.1.length : Int)) &&
 decide (x.1.2.2.2.2.2.1 < 0)) =
 true) ∧
 ((decide (0 < (↑x.1.1.length : Int)) &&
 decide (x.1.2.2.2.2.2.1 < 0)) =
 true →
 (decide (0 < (↑x.1.1.length : Int)) &&
 decide (x.1.2.2.2.2.2.1 < 0)) =
 true) ∧
 ((decide (0 < (↑x.1.1.length : Int)) &&
 decide (x.1.2.2.2.2.2.1 < 0) &&
 decide
 (x.1.2.2.2.2.2.2.1 < 0)) =
 true →
 (x.1.1, x.1.2.1,
 (x.1.2.2.1.1, x.1.2.2.1.2),
 x.1.2.2.2.1, x.1.2.2.2.2.1,
 x.1.2.2.2.2.2.2.2.1,
 x.1.2.2.2.2.2.2.1,
 x.1.2.2.2.2.2.2.2.1,
 x.1.2.2.2.2.2.2.2.2) =
 (ydo x.1 x.2.1).1 ∧
 ((6 : Int), ([] : List Int)) =
 (ydo x.1 x.2.1).2) ∧
 ((decide (0 < (↑x.1.1.length : Int)) &&
 decide (x.1.2.2.2.2.2.1 < 0) &&
 decide
 (x.1.2.2.2.2.2.2.1 < 0)) =
 false →
 (x.1.1, x.1.2.1,
 (x.1.2.2.1.1, x.1.2.2.1.2),
 x.1.2.2.2.1, x.1.2.2.2.2.1,
 x.1.2.2.2.2.2.1,
 x.1.2.2.2.2.2.2.1,
 x.1.2.2.2.2.2.2.2.1,
 x.1.2.2.2.2.2.2.2.2) =
 (ydo x.1 x.2.1).1 ∧
 ((6 : Int), ([] : List Int)) =
 (ydo x.1 x.2.1).2)) ∧
 ((x.2.1.1 != 2 &&
 x.1.2.2.2.2.2.2.1 == x.2.1.2.1) =
 false →
 ((x.2.1.1 == 4) = true →
 ((x.2.1.1 == 4) = true ∧
 (x.2.1.1 == 4) = true) ∧
 0 ≤ x.2.1.2.1 ∧
 x.2.1.2.1 < (↑(2 : Nat) : Int)) ∧
 ((x.2.1.1 == 4) = true →
 (x.2.1.1 == 4) = true) ∧
 ((x.2.1.1 == 4) = true →
 (x.2.1.1 == 4) = true) ∧
 ((x.2.1.1 == 4) = true →
 (x.2.1.1 == 4) = true) ∧
 ((x.2.1.1 == 4 &&
 x.1.2.2.2.2.2.2.2.2.getD
 x.2.1.2.1.toNat (0 : Int) ==
 (400 : Int)) =
 true →
 (decide (0 < (↑x.1.1.length : Int)) = true →
 decide (0 < (↑x.1.1.length : Int)) = true) ∧
 (decide (0 < (↑x.1.1.length : Int)) = true →
 decide (0 < (↑x.1.1.length : Int)) = true) ∧
 (decide (0 < (↑x.1.1.length : Int)) = true →
 decide (0 < (↑x.1.1.length : Int)) = true) ∧
 ((decide (0 < (↑x.1.1.length : Int)) &&
 decide
 (x.1.2.2.2.2.2.1 < 0)) =
 true →
 (decide (0 < (↑x.1.1.length : Int)) &&
 decide
 (x.1.2.2.2.2.2.1 < 0)) =
 true) ∧
 ((decide (0 < (↑x.1.1.length : Int)) &&
 decide
 (x.1.2.2.2.2.2.1 < 0)) =
 true →
 (decide (0 < (↑x.1.1.length : Int)) &&
 decide
 (x.1.2.2.2.2.2.1 < 0)) =
 true) ∧
 ((decide (0 < (↑x.1.1.length : Int)) &&
 decide
 (x.1.2.2.2.2.2.1 <
 (0 : Int))) =
 true →
 (decide (0 < (↑x.1.1.length : Int)) &&
 decide
 (x.1.2.2.2.2.2.1 <
 (0 : Int))) =
 true) ∧
 ((decide (0 < (↑x.1.1.length : Int)) &&
 decide
 (x.1.2.2.2.2.2.1 <
 (0 : Int)) &&
 decide
 (x.1.2.2.2.2.2.2.1 <
 (0 : Int))) =
 true →
 (x.1.1, x.1.2.1,
 (x.1.2.2.1.1,
 x.1.2.2.1.2),
 x.1.2.2.2.1,
 x.1.2.2.2.2.1,
 x.1.2.2.2.2.2.2.2.1,
 x.1.2.2.2.2.2.2.1,
 x.1.2.2.2.2.2.2.2.1,
 x.1.2.2.2.2.2.2.2.2) =
 (ydo x.1 x.2.1).1 ∧
 ((4 : Int), ([] : List Int)) =
 (ydo x.1 x.2.1).2) ∧
 ((decide
 ((0 : Int) <
 (↑x.1.1.length : Int)) &&
 decide
 (x.1.2.2.2.2.2.1 <
 (0 : Int)) &&
 decide
 (x.1.2.2.2.2.2.2.1 <
 (0 : Int))) =
 false →
 (x.1.1, x.1.2.1,
 (x.1.2.2.1.1,
 x.1.2.2.1.2),
 x.1.2.2.2.1,
 x.1.2.2.2.2.1,
 x.1.2.2.2.2.2.1,
 x.1.2.2.2.2.2.2.1,
 x.1.2.2.2.2.2.2.2.1,
 x.1.2.2.2.2.2.2.2.2) =
 (ydo x.1 x.2.1).1 ∧
 ((4 : Int), ([] : List Int)) =
 (ydo x.1 x.2.1).2)) ∧
 ((x.2.1.1 == 4 &&
 x.1.2.2.2.2.2.2.2.2.getD
 x.2.1.2.1.toNat (0 : Int) ==
 (400 : Int)) =
 false →
 ((x.2.1.1 == 5) = true →
 ((x.2.1.1 == 5) = true ∧
 (x.2.1.1 == 5) = true) ∧
 0 ≤ x.2.1.2.1 ∧
 x.2.1.2.1 < (↑(2 : Nat) : Int)) ∧
 ((x.2.1.1 == 5) = true →
 (x.2.1.1 == 5) = true) ∧
 ((x.2.1.1 == 5) = true →
 (x.2.1.1 == 5) = true) ∧
 ((x.2.1.1 == 5) = true →
 (x.2.1.1 == 5) = true) ∧
 ((x.2.1.1 == 5 &&
 x.1.2.2.2.2.2.2.2.2.getD
 x.2.1.2.1.toNat (0 : Int) ==
 (0 : Int)) =
 true →
 (decide (0 < (↑x.1.1.length : Int)) =
 true →
 decide (0 < (↑x.1.1.length : Int)) =
 true) ∧
 (decide (0 < (↑x.1.1.length : Int)) =
 true →
 decide
 (0 < (↑x.1.1.length : Int)) =
 true) ∧
 (decide
 ((0 : Int) <
 (↑x.1.1.length : Int)) =
 true →
 decide
 ((0 : Int) <
 (↑x.1.1.length : Int)) =
 true) ∧
 ((decide
 ((0 : Int) <
 (↑x.1.1.length : Int)) &&
 decide
 (x.1.2.2.2.2.2.1 <
 (0 : Int))) =
 true →
 (decide
 ((0 : Int) <
 (↑x.1.1.length : Int)) &&
 decide
 (x.1.2.2.2.2.2.1 <
 (0 : Int))) =
 true) ∧
 ((decide
 ((0 : Int) <
 (↑x.1.1.length : Int)) &&
 decide
 (x.1.2.2.2.2.2.1 <
 (0 : Int))) =
 true →
 (decide
 ((0 : Int) <
 (↑x.1.1.length : Int)) &&
 decide
 (x.1.2.2.2.2.2.1 <
 (0 : Int))) =
 true) ∧
 ((decide
 ((0 : Int) <
 (↑x.1.1.length : Int)) &&
 decide
 (x.1.2.2.2.2.2.1 <
 (0 : Int))) =
 true →
 (decide
 ((0 : Int) <
 (↑x.1.1.length : Int)) &&
 decide
 (x.1.2.2.2.2.2.1 <
 (0 : Int))) =
 true) ∧
 ((decide
 ((0 : Int) <
 (↑x.1.1.length :
 Int)) &&
 decide
 (x.1.2.2.2.2.2.1 <
 (0 : Int)) &&
 decide
 (x.1.2.2.2.2.2.2.1 <
 (0 : Int))) =
 true →
 (x.1.1, x.1.2.1,
 (x.1.2.2.1.1,
 x.1.2.2.1.2),
 x.1.2.2.2.1,
 x.1.2.2.2.2.1,
 x.1.2.2.2.2.2.2.2.1,
 x.1.2.2.2.2.2.2.1,
 x.1.2.2.2.2.2.2.2.1,
 x.1.2.2.2.2.2.2.2.2) =
 (ydo x.1 x.2.1).1 ∧
 ((3 : Int), ([] : List Int)) =
 (ydo x.1 x.2.1).2) ∧
 ((decide
 ((0 : Int) <
 (↑x.1.1.length :
 Int)) &&
 decide
 (x.1.2.2.2.2.2.1 <
 (0 : Int)) &&
 decide
 (x.1.2.2.2.2.2.2.1 <
 (0 : Int))) =
 false →
 (x.1.1, x.1.2.1,
 (x.1.2.2.1.1,
 x.1.2.2.1.2),
 x.1.2.2.2.1,
 x.1.2.2.2.2.1,
 x.1.2.2.2.2.2.1,
 x.1.2.2.2.2.2.2.1,
 x.1.2.2.2.2.2.2.2.1,
 x.1.2.2.2.2.2.2.2.2) =
 (ydo x.1 x.2.1).1 ∧
 ((3 : Int), ([] : List Int)) =
 (ydo x.1 x.2.1).2)) ∧
 ((x.2.1.1 == 5 &&
 x.1.2.2.2.2.2.2.2.2.getD
 x.2.1.2.1.toNat (0 : Int) ==
 (0 : Int)) =
 false →
 ((x.2.1.1 == 4) = true →
 (0 ≤ x.2.1.2.1 ∧
 x.2.1.2.1 < (↑(2 : Nat) : Int)) ∧
 ((-9223372036854775808 : Int) ≤
 x.1.2.2.2.2.2.2.2.2.getD
 x.2.1.2.1.toNat (0 : Int) +
 (1 : Int) ∧
 x.1.2.2.2.2.2.2.2.2.getD
 x.2.1.2.1.toNat (0 : Int) +
 (1 : Int) ≤
 (9223372036854775807 : Int)) ∧
 (0 ≤ x.2.1.2.1 ∧
 x.2.1.2.1 <
 (↑(2 : Nat) : Int)) ∧
 (decide
 ((0 : Int) <
 (↑x.1.1.length : Int)) =
 true →
 decide
 ((0 : Int) <
 (↑x.1.1.length : Int)) =
 true) ∧
 (decide
 ((0 : Int) <
 (↑x.1.1.length : Int)) =
 true →
 decide
 ((0 : Int) <
 (↑x.1.1.length : Int)) =
 true) ∧
 (decide
 ((0 : Int) <
 (↑x.1.1.length : Int)) =
 true →
 decide
 ((0 : Int) <
 (↑x.1.1.length : Int)) =
 true) ∧
 ((decide
 ((0 : Int) <
 (↑x.1.1.length :
 Int)) &&
 decide
 (x.1.2.2.2.2.2.1 <
 (0 : Int))) =
 true →
 (decide
 ((0 : Int) <
 (↑x.1.1.length :
 Int)) &&
 decide
 (x.1.2.2.2.2.2.1 <
 (0 : Int))) =
 true) ∧
 ((decide
 ((0 : Int) <
 (↑x.1.1.length :
 Int)) &&
 decide
 (x.1.2.2.2.2.2.1 <
 (0 : Int))) =
 true →
 (decide
 ((0 : Int) <
 (↑x.1.1.length :
 Int)) &&
 decide
 (x.1.2.2.2.2.2.1 <
 (0 : Int))) =
 true) ∧
 ((decide
 ((0 : Int) <
 (↑x.1.1.length :
 Int)) &&
 decide
 (x.1.2.2.2.2.2.1 <
 (0 : Int))) =
 true →
 (decide
 ((0 : Int) <
 (↑x.1.1.length :
 Int)) &&
 decide
 (x.1.2.2.2.2.2.1 <
 (0 : Int))) =
 true) ∧
 ((decide
 ((0 : Int) <
 (↑x.1.1.length :
 Int)) &&
 decide
 (x.1.2.2.2.2.2.1 <
 (0 : Int)) &&
 decide
 (x.1.2.2.2.2.2.2.1 <
 (0 : Int))) =
 true →
 (x.1.1, x.1.2.1,
 (x.1.2.2.1.1,
 x.1.2.2.1.2),
 x.1.2.2.2.1,
 x.1.2.2.2.2.1,
 x.1.2.2.2.2.2.2.2.1,
 x.1.2.2.2.2.2.2.1,
 x.1.2.2.2.2.2.2.2.1,
 x.1.2.2.2.2.2.2.2.2.set
 x.2.1.2.1.toNat
 (x.1.2.2.2.2.2.2.2.2.getD
 x.2.1.2.1.toNat
 (0 : Int) +
 (1 : Int))) =
 (ydo x.1
 x.2.1).1 ∧
 ((0 : Int),
 ([] : List Int)) =
 (ydo x.1
 x.2.1).2) ∧
 ((decide
 ((0 : Int) <
 (↑x.1.1.length :
 Int)) &&
 decide
 (x.1.2.2.2.2.2.1 <
 (0 : Int)) &&
 decide
 (x.1.2.2.2.2.2.2.1 <
 (0 : Int))) =
 false →
 (x.1.1, x.1.2.1,
 (x.1.2.2.1.1,
 x.1.2.2.1.2),
 x.1.2.2.2.1,
 x.1.2.2.2.2.1,
 x.1.2.2.2.2.2.1,
 x.1.2.2.2.2.2.2.1,
 x.1.2.2.2.2.2.2.2.1,
 x.1.2.2.2.2.2.2.2.2.set
 x.2.1.2.1.toNat
 (x.1.2.2.2.2.2.2.2.2.getD
 x.2.1.2.1.toNat
 (0 : Int) +
 (1 : Int))) =
 (ydo x.1
 x.2.1).1 ∧
 ((0 : Int),
 ([] : List Int)) =
 (ydo x.1
 x.2.1).2)) ∧
 ((x.2.1.1 == 4) = false →
 ((x.2.1.1 == 5) = true →
 (0 ≤ x.2.1.2.1 ∧
 x.2.1.2.1 <
 (↑(2 : Nat) : Int)) ∧
 ((-9223372036854775808 : Int) ≤
 x.1.2.2.2.2.2.2.2.2.getD
 x.2.1.2.1.toNat
 (0 : Int) -
 (1 : Int) ∧
 x.1.2.2.2.2.2.2.2.2.getD
 x.2.1.2.1.toNat
 (0 : Int) -
 (1 : Int) ≤
 (9223372036854775807 : Int)) ∧
 (0 ≤ x.2.1.2.1 ∧
 x.2.1.2.1 <
 (↑(2 : Nat) : Int)) ∧
 (decide
 ((0 : Int) <
 (↑x.1.1.length : Int)) =
 true →
 decide
 ((0 : Int) <
 (↑x.1.1.length : Int)) =
 true) ∧
 (decide
 ((0 : Int) <
 (↑x.1.1.length :
 Int)) =
 true →
 decide
 ((0 : Int) <
 (↑x.1.1.length :
 Int)) =
 true) ∧
 (decide
 ((0 : Int) <
 (↑x.1.1.length :
 Int)) =
 true →
 decide
 ((0 : Int) <
 (↑x.1.1.length :
 Int)) =
 true) ∧
 ((decide
 ((0 : Int) <
 (↑x.1.1.length :
 Int)) &&
 decide
 (x.1.2.2.2.2.2.1 <
 (0 : Int))) =
 true →
 (decide
 ((0 : Int) <
 (↑x.1.1.length :
 Int)) &&
 decide
 (x.1.2.2.2.2.2.1 <
 (0 : Int))) =
 true) ∧
 ((decide
 ((0 : Int) <
 (↑x.1.1.length :
 Int)) &&
 decide
 (x.1.2.2.2.2.2.1 <
 (0 : Int))) =
 true →
 (decide
 ((0 : Int) <
 (↑x.1.1.length :
 Int)) &&
 decide
 (x.1.2.2.2.2.2.1 <
 (0 : Int))) =
 true) ∧
 ((decide
 ((0 : Int) <
 (↑x.1.1.length :
 Int)) &&
 decide
 (x.1.2.2.2.2.2.1 <
 (0 : Int))) =
 true →
 (decide
 ((0 : Int) <
 (↑x.1.1.length :
 Int)) &&
 decide
 (x.1.2.2.2.2.2.1 <
 (0 : Int))) =
 true) ∧
 ((decide
 ((0 : Int) <
 (↑x.1.1.length :
 Int)) &&
 decide
 (x.1.2.2.2.2.2.1 <
 (0 :
 Int)) &&
 decide
 (x.1.2.2.2.2.2.2.1 <
 (0 : Int))) =
 true →
 (x.1.1,
 x.1.2.1,
 (x.1.2.2.1.1,
 x.1.2.2.1.2),
 x.1.2.2.2.1,
 x.1.2.2.2.2.1,
 x.1.2.2.2.2.2.2.2.1,
 x.1.2.2.2.2.2.2.1,
 x.1.2.2.2.2.2.2.2.1,
 x.1.2.2.2.2.2.2.2.2.set
 x.2.1.2.1.toNat
 (x.1.2.2.2.2.2.2.2.2.getD
 x.2.1.2.1.toNat
 (0 :
 Int) -
 (1 :
 Int))) =
 (ydo x.1
 x.2.1).1 ∧
 ((0 : Int),
 ([] :
 List Int)) =
 (ydo x.1
 x.2.1).2) ∧
 ((decide
 ((0 : Int) <
 (↑x.1.1.length :
 Int)) &&
 decide
 (x.1.2.2.2.2.2.1 <
 (0 :
 Int)) &&
 decide
 (x.1.2.2.2.2.2.2.1 <
 (0 : Int))) =
 false →
 (x.1.1,
 x.1.2.1,
 (x.1.2.2.1.1,
 x.1.2.2.1.2),
 x.1.2.2.2.1,
 x.1.2.2.2.2.1,
 x.1.2.2.2.2.2.1,
 x.1.2.2.2.2.2.2.1,
 x.1.2.2.2.2.2.2.2.1,
 x.1.2.2.2.2.2.2.2.2.set
 x.2.1.2.1.toNat
 (x.1.2.2.2.2.2.2.2.2.getD
 x.2.1.2.1.toNat
 (0 :
 Int) -
 (1 :
 Int))) =
 (ydo x.1
 x.2.1).1 ∧
 ((0 : Int),
 ([] :
 List Int)) =
 (ydo x.1
 x.2.1).2)) ∧
 ((x.2.1.1 == 5) = false →
 ((x.1.2.2.2.2.2.2.1 ==
 x.2.1.2.1) =
 true →
 (x.1.2.2.2.2.2.2.1 ==
 x.2.1.2.1) =
 true) ∧
 ((x.1.2.2.2.2.2.2.1 ==
 x.2.1.2.1) =
 true →
 (x.1.2.2.2.2.2.2.1 ==
 x.2.1.2.1) =
 true) ∧
 ((x.1.2.2.2.2.2.2.1 ==
 x.2.1.2.1) =
 true →
 (x.1.2.2.2.2.2.2.1 ==
 x.2.1.2.1) =
 true) ∧
 ((x.1.2.2.2.2.2.2.1 ==
 x.2.1.2.1) =
 true →
 (x.1.2.2.2.2.2.2.1 ==
 x.2.1.2.1) =
 true) ∧
 ((x.1.2.2.2.2.2.2.1 ==
 x.2.1.2.1 &&
 decide
 ((0 : Int) <
 (↑x.1.1.length :
 Int))) =
 true →
 (([] : List Int).length +
 x.1.2.1.length ≤
 (9223372036854775807 :
 Nat) ∧
 (([] : List Int).length +
 x.1.2.1.length +
 (([] :
 List
 Int).length +
 x.1.2.1.length) /
 (4 : Nat) +
 (192 : Nat)) *
 (1 : Nat) ≤
 (281474976710656 : Nat)) ∧
 ((0 : Int) ≤ (0 : Int) ∧
 (0 : Int) <
 (↑x.1.1.length :
 Int)) ∧
 ((([] : List Int) ++
 x.1.2.1).length +
 (((0 : Int) ::
 ([] :
 List
 Int)).set
 (0 : Nat)
 (x.1.1.getD
 (Int.toNat
 (0 : Int))
 (0 :
 Int))).length ≤
 (9223372036854775807 :
 Nat) ∧
 ((([] : List Int) ++
 x.1.2.1).length +
 (((0 : Int) ::
 ([] :
 List
 Int)).set
 (0 : Nat)
 (x.1.1.getD
 (Int.toNat
 (0 :
 Int))
 (0 :
 Int))).length +
 ((([] :
 List
 Int) ++
 x.1.2.1).length +
 (((0 :
 Int) ::
 ([] :
 List
 Int)).set
 (0 :
 Nat)
 (x.1.1.getD
 (Int.toNat
 (0 :
 Int))
 (0 :
 Int))).length) /
 (4 : Nat) +
 (192 : Nat)) *
 (1 : Nat) ≤
 (281474976710656 :
 Nat)) ∧
 (((0 : Int) ≤ (1 : Int) ∧
 (1 : Int) ≤
 (↑x.1.1.length :
 Int)) ∧
 (↑x.1.1.length :
 Int) ≤
 (↑x.1.1.length :
 Int)) ∧
 (decide
 ((0 : Int) <
 (↑(List.drop
 (Int.toNat
 (1 :
 Int))
 (List.take
 (↑x.1.1.length :
 Int).toNat
 x.1.1)).length :
 Int)) =
 true →
 decide
 ((0 : Int) <
 (↑(List.drop
 (Int.toNat
 (1 :
 Int))
 (List.take
 (↑x.1.1.length :
 Int).toNat
 x.1.1)).length :
 Int)) =
 true) ∧
 (decide
 ((0 : Int) <
 (↑(List.drop
 (Int.toNat
 (1 :
 Int))
 (List.take
 (↑x.1.1.length :
 Int).toNat
 x.1.1)).length :
 Int)) =
 true →
 decide
 ((0 : Int) <
 (↑(List.drop
 (Int.toNat
 (1 :
 Int))
 (List.take
 (↑x.1.1.length :
 Int).toNat
 x.1.1)).length :
 Int)) =
 true) ∧
 (decide
 ((0 : Int) <
 (↑(List.drop
 (Int.toNat
 (1 :
 Int))
 (List.take
 (↑x.1.1.length :
 Int).toNat
 x.1.1)).length :
 Int)) =
 true →
 decide
 ((0 : Int) <
 (↑(List.drop
 (Int.toNat
 (1 :
 Int))
 (List.take
 (↑x.1.1.length :
 Int).toNat
 x.1.1)).length :
 Int)) =
 true) ∧
 ((decide
 ((0 :
 Int) <
 (↑(List.drop
 (Int.toNat
 (1 :
 Int))
 (List.take
 (↑x.1.1.length :
 Int).toNat
 x.1.1)).length :
 Int)) &&
 decide
 (x.1.2.2.2.2.2.1 <
 (0 :
 Int))) =
 true →
 (decide
 ((0 :
 Int) <
 (↑(List.drop
 (Int.toNat
 (1 :
 Int))
 (List.take
 (↑x.1.1.length :
 Int).toNat
 x.1.1)).length :
 Int)) &&
 decide
 (x.1.2.2.2.2.2.1 <
 (0 :
 Int))) =
 true) ∧
 ((decide
 ((0 :
 Int) <
 (↑(List.drop
 (Int.toNat
 (1 :
 Int))
 (List.take
 (↑x.1.1.length :
 Int).toNat
 x.1.1)).length :
 Int)) &&
 decide
 (x.1.2.2.2.2.2.1 <
 (0 :
 Int))) =
 true →
 (decide
 ((0 :
 Int) <
 (↑(List.drop
 (Int.toNat
 (1 :
 Int))
 (List.take
 (↑x.1.1.length :
 Int).toNat
 x.1.1)).length :
 Int)) &&
 decide
 (x.1.2.2.2.2.2.1 <
 (0 :
 Int))) =
 true) ∧
 ((decide
 ((0 :
 Int) <
 (↑(List.drop
 (Int.toNat
 (1 :
 Int))
 (List.take
 (↑x.1.1.length :
 Int).toNat
 x.1.1)).length :
 Int)) &&
 decide
 (x.1.2.2.2.2.2.1 <
 (0 :
 Int))) =
 true →
 (decide
 ((0 :
 Int) <
 (↑(List.drop
 (Int.toNat
 (1 :
 Int))
 (List.take
 (↑x.1.1.length :
 Int).toNat
 x.1.1)).length :
 Int)) &&
 decide
 (x.1.2.2.2.2.2.1 <
 (0 :
 Int))) =
 true) ∧
 ((decide
 ((0 :
 Int) <
 (↑(List.drop
 (Int.toNat
 (1 :
 Int))
 (List.take
 (↑x.1.1.length :
 Int).toNat
 x.1.1)).length :
 Int)) &&
 decide
 (x.1.2.2.2.2.2.1 <
 (0 :
 Int)) &&
 decide
 (x.1.2.2.2.2.2.2.1 <
 (0 :
 Int))) =
 true →
 (List.drop
 (Int.toNat
 (1 :
 Int))
 (List.take
 (↑x.1.1.length :
 Int).toNat
 x.1.1),
 ([] :
 List
 Int) ++
 x.1.2.1 ++
 ((0 :
 Int) ::
 ([] :
 List
 Int)).set
 (0 :
 Nat)
 (x.1.1.getD
 (Int.toNat
 (0 :
 Int))
 (0 :
 Int)),
 (x.1.2.2.1.1,
 x.1.2.2.1.2),
 x.1.2.2.2.1,
 x.1.2.2.2.2.1,
 x.1.2.2.2.2.2.2.2.1,
 x.1.2.2.2.2.2.2.1,
 x.1.2.2.2.2.2.2.2.1,
 x.1.2.2.2.2.2.2.2.2) =
 (ydo
 x.1
 x.2.1).1 ∧
 ((0 :
 Int),
 ([] :
 List
 Int)) =
 (ydo
 x.1
 x.2.1).2) ∧
 ((decide
 ((0 :
 Int) <
 (↑(List.drop
 (Int.toNat
 (1 :
 Int))
 (List.take
 (↑x.1.1.length :
 Int).toNat
 x.1.1)).length :
 Int)) &&
 decide
 (x.1.2.2.2.2.2.1 <
 (0 :
 Int)) &&
 decide
 (x.1.2.2.2.2.2.2.1 <
 (0 :
 Int))) =
 false →
 (List.drop
 (Int.toNat
 (1 :
 Int))
 (List.take
 (↑x.1.1.length :
 Int).toNat
 x.1.1),
 ([] :
 List
 Int) ++
 x.1.2.1 ++
 ((0 :
 Int) ::
 ([] :
 List
 Int)).set
 (0 :
 Nat)
 (x.1.1.getD
 (Int.toNat
 (0 :
 Int))
 (0 :
 Int)),
 (x.1.2.2.1.1,
 x.1.2.2.1.2),
 x.1.2.2.2.1,
 x.1.2.2.2.2.1,
 x.1.2.2.2.2.2.1,
 x.1.2.2.2.2.2.2.1,
 x.1.2.2.2.2.2.2.2.1,
 x.1.2.2.2.2.2.2.2.2) =
 (ydo
 x.1
 x.2.1).1 ∧
 ((0 :
 Int),
 ([] :
 List
 Int)) =
 (ydo
 x.1
 x.2.1).2)) ∧
 ((x.1.2.2.2.2.2.2.1 ==
 x.2.1.2.1 &&
 decide
 ((0 : Int) <
 (↑x.1.1.length :
 Int))) =
 false →
 ((x.1.2.2.2.2.2.2.1 ==
 x.2.1.2.1) =
 true →
 (decide
 ((0 : Int) <
 (↑x.1.1.length :
 Int)) =
 true →
 decide
 ((0 : Int) <
 (↑x.1.1.length :
 Int)) =
 true) ∧
 (decide
 ((0 : Int) <
 (↑x.1.1.length :
 Int)) =
 true →
 decide
 ((0 : Int) <
 (↑x.1.1.length :
 Int)) =
 true) ∧
 (decide
 ((0 : Int) <
 (↑x.1.1.length :
 Int)) =
 true →
 decide
 ((0 : Int) <
 (↑x.1.1.length :
 Int)) =
 true) ∧
 ((decide
 ((0 : Int) <
 (↑x.1.1.length :
 Int)) &&
 decide
 (x.1.2.2.2.2.2.1 <
 (0 :
 Int))) =
 true →
 (decide
 ((0 : Int) <
 (↑x.1.1.length :
 Int)) &&
 decide
 (x.1.2.2.2.2.2.1 <
 (0 :
 Int))) =
 true) ∧
 ((decide
 ((0 :
 Int) <
 (↑x.1.1.length :
 Int)) &&
 decide
 (x.1.2.2.2.2.2.1 <
 (0 :
 Int))) =
 true →
 (decide
 ((0 :
 Int) <
 (↑x.1.1.length :
 Int)) &&
 decide
 (x.1.2.2.2.2.2.1 <
 (0 :
 Int))) =
 true) ∧
 ((decide
 ((0 :
 Int) <
 (↑x.1.1.length :
 Int)) &&
 decide
 (x.1.2.2.2.2.2.1 <
 (0 :
 Int))) =
 true →
 (decide
 ((0 :
 Int) <
 (↑x.1.1.length :
 Int)) &&
 decide
 (x.1.2.2.2.2.2.1 <
 (0 :
 Int))) =
 true) ∧
 ((decide
 ((0 :
 Int) <
 (↑x.1.1.length :
 Int)) &&
 decide
 (x.1.2.2.2.2.2.1 <
 (0 :
 Int)) &&
 decide
 ((-1 :
 Int) <
 (0 :
 Int))) =
 true →
 (x.1.1,
 x.1.2.1,
 (x.1.2.2.1.1,
 x.1.2.2.1.2),
 x.1.2.2.2.1,
 x.1.2.2.2.2.1,
 x.1.2.2.2.2.2.2.2.1,
 (-1 :
 Int),
 x.1.2.2.2.2.2.2.2.1,
 x.1.2.2.2.2.2.2.2.2) =
 (ydo
 x.1
 x.2.1).1 ∧
 ((0 :
 Int),
 ([] :
 List
 Int)) =
 (ydo
 x.1
 x.2.1).2) ∧
 ((decide
 ((0 :
 Int) <
 (↑x.1.1.length :
 Int)) &&
 decide
 (x.1.2.2.2.2.2.1 <
 (0 :
 Int)) &&
 decide
 ((-1 :
 Int) <
 (0 :
 Int))) =
 false →
 (x.1.1,
 x.1.2.1,
 (x.1.2.2.1.1,
 x.1.2.2.1.2),
 x.1.2.2.2.1,
 x.1.2.2.2.2.1,
 x.1.2.2.2.2.2.1,
 (-1 :
 Int),
 x.1.2.2.2.2.2.2.2.1,
 x.1.2.2.2.2.2.2.2.2) =
 (ydo
 x.1
 x.2.1).1 ∧
 ((0 :
 Int),
 ([] :
 List
 Int)) =
 (ydo
 x.1
 x.2.1).2)) ∧
 ((x.1.2.2.2.2.2.2.1 ==
 x.2.1.2.1) =
 false →
 ((x.1.2.2.2.2.2.1 ==
 x.2.1.2.1) =
 true →
 ((x.1.2.2.2.2.2.1 ==
 x.2.1.2.1) =
 true ∧
 (x.1.2.2.2.2.2.1 ==
 x.2.1.2.1) =
 true) ∧
 (0 : Int) ≤
 x.2.1.2.1 ∧
 x.2.1.2.1 <
 (↑(2 : Nat) :
 Int)) ∧
 ((x.1.2.2.2.2.2.1 ==
 x.2.1.2.1) =
 true →
 (x.1.2.2.2.2.2.1 ==
 x.2.1.2.1) =
 true) ∧
 ((x.1.2.2.2.2.2.1 ==
 x.2.1.2.1) =
 true →
 (x.1.2.2.2.2.2.1 ==
 x.2.1.2.1) =
 true) ∧
 ((x.1.2.2.2.2.2.1 ==
 x.2.1.2.1) =
 true →
 (x.1.2.2.2.2.2.1 ==
 x.2.1.2.1) =
 true) ∧
 ((x.1.2.2.2.2.2.1 ==
 x.2.1.2.1 &&
 x.1.2.2.2.2.2.2.2.2.getD
 x.2.1.2.1.toNat
 (0 :
 Int) ==
 (0 :
 Int)) =
 true →
 ((-9223372036854775808 :
 Int) ≤
 x.1.2.2.2.2.1 +
 (1 :
 Int) ∧
 x.1.2.2.2.2.1 +
 (1 :
 Int) ≤
 (9223372036854775807 :
 Int)) ∧
 (decide
 ((0 :
 Int) <
 (↑x.1.1.length :
 Int)) =
 true →
 decide
 ((0 :
 Int) <
 (↑x.1.1.length :
 Int)) =
 true) ∧
 (decide
 ((0 :
 Int) <
 (↑x.1.1.length :
 Int)) =
 true →
 decide
 ((0 :
 Int) <
 (↑x.1.1.length :
 Int)) =
 true) ∧
 (decide
 ((0 :
 Int) <
 (↑x.1.1.length :
 Int)) =
 true →
 decide
 ((0 :
 Int) <
 (↑x.1.1.length :
 Int)) =
 true) ∧
 ((decide
 ((0 :
 Int) <
 (↑x.1.1.length :
 Int)) &&
 decide
 ((-1 :
 Int) <
 (0 :
 Int))) =
 true →
 (decide
 ((0 :
 Int) <
 (↑x.1.1.length :
 Int)) &&
 decide
 ((-1 :
 Int) <
 (0 :
 Int))) =
 true) ∧
 ((decide
 ((0 :
 Int) <
 (↑x.1.1.length :
 Int)) &&
 decide
 ((-1 :
 Int) <
 (0 :
 Int))) =
 true →
 (decide
 ((0 :
 Int) <
 (↑x.1.1.length :
 Int)) &&
 decide
 ((-1 :
 Int) <
 (0 :
 Int))) =
 true) ∧
 ((decide
 ((0 :
 Int) <
 (↑x.1.1.length :
 Int)) &&
 decide
 ((-1 :
 Int) <
 (0 :
 Int))) =
 true →
 (decide
 ((0 :
 Int) <
 (↑x.1.1.length :
 Int)) &&
 decide
 ((-1 :
 Int) <
 (0 :
 Int))) =
 true) ∧
 ((decide
 ((0 :
 Int) <
 (↑x.1.1.length :
 Int)) &&
 decide
 ((-1 :
 Int) <
 (0 :
 Int)) &&
 decide
 (x.2.1.2.1 <
 (0 :
 Int))) =
 true →
 (x.1.1,
 x.1.2.1,
 (x.1.2.2.1.1,
 x.1.2.2.1.2),
 x.1.2.2.2.1,
 x.1.2.2.2.2.1 +
 (1 :
 Int),
 x.1.2.2.2.2.2.2.2.1,
 x.2.1.2.1,
 x.1.2.2.2.2.2.2.2.1,
 x.1.2.2.2.2.2.2.2.2) =
 (ydo
 x.1
 x.2.1).1 ∧
 ((0 :
 Int),
 ([] :
 List
 Int)) =
 (ydo
 x.1
 x.2.1).2) ∧
 ((decide
 ((0 :
 Int) <
 (↑x.1.1.length :
 Int)) &&
 decide
 ((-1 :
 Int) <
 (0 :
 Int)) &&
 decide
 (x.2.1.2.1 <
 (0 :
 Int))) =
 false →
 (x.1.1,
 x.1.2.1,
 (x.1.2.2.1.1,
 x.1.2.2.1.2),
 x.1.2.2.2.1,
 x.1.2.2.2.2.1 +
 (1 :
 Int),
 (-1 :
 Int),
 x.2.1.2.1,
 x.1.2.2.2.2.2.2.2.1,
 x.1.2.2.2.2.2.2.2.2) =
 (ydo
 x.1
 x.2.1).1 ∧
 ((0 :
 Int),
 ([] :
 List
 Int)) =
 (ydo
 x.1
 x.2.1).2)) ∧
 ((x.1.2.2.2.2.2.1 ==
 x.2.1.2.1 &&
 x.1.2.2.2.2.2.2.2.2.getD
 x.2.1.2.1.toNat
 (0 :
 Int) ==
 (0 :
 Int)) =
 false →
 (decide
 ((0 :
 Int) <
 (↑x.1.2.1.length :
 Int)) =
 true →
 ((0 : Int) ≤
 (0 :
 Int) ∧
 (0 :
 Int) <
 (↑x.1.2.1.length :
 Int)) ∧
 Holds
 True ∧
 (((Tty.keyR
 (x.1.2.2.1.1,
 x.1.2.2.1.2)
 (x.1.2.1.getD
 (Int.toNat
 (0 :
 Int))
 (0 :
 Int))).2.1 ==
 (0 :
 Int)) =
 true →
 (((0 :
 Int) ≤
 (1 :
 Int) ∧
 (1 :
 Int) ≤
 (↑x.1.2.1.length :
 Int)) ∧
 (↑x.1.2.1.length :
 Int) ≤
 (↑x.1.2.1.length :
 Int)) ∧
 (decide
 ((0 :
 Int) <
 (↑x.1.1.length :
 Int)) =
 true →
 decide
 ((0 :
 Int) <
 (↑x.1.1.length :
 Int)) =
 true) ∧
 (decide
 ((0 :
 Int) <
 (↑x.1.1.length :
 Int)) =
 true →
 decide
 ((0 :
 Int) <
 (↑x.1.1.length :
 Int)) =
 true) ∧
 (decide
 ((0 :
 Int) <
 (↑x.1.1.length :
 Int)) =
 true →
 decide
 ((0 :
 Int) <
 (↑x.1.1.length :
 Int)) =
 true) ∧
 ((decide
 ((0 :
 Int) <
 (↑x.1.1.length :
 Int)) &&
 decide
 (x.1.2.2.2.2.2.1 <
 (0 :
 Int))) =
 true →
 (decide
 ((0 :
 Int) <
 (↑x.1.1.length :
 Int)) &&
 decide
 (x.1.2.2.2.2.2.1 <
 (0 :
 Int))) =
 true) ∧
 ((decide
 ((0 :
 Int) <
 (↑x.1.1.length :
 Int)) &&
 decide
 (x.1.2.2.2.2.2.1 <
 (0 :
 Int))) =
 true →
 (decide
 ((0 :
 Int) <
 (↑x.1.1.length :
 Int)) &&
 decide
 (x.1.2.2.2.2.2.1 <
 (0 :
 Int))) =
 true) ∧
 ((decide
 ((0 :
 Int) <
 (↑x.1.1.length :
 Int)) &&
 decide
 (x.1.2.2.2.2.2.1 <
 (0 :
 Int))) =
 true →
 (decide
 ((0 :
 Int) <
 (↑x.1.1.length :
 Int)) &&
 decide
 (x.1.2.2.2.2.2.1 <
 (0 :
 Int))) =
 true) ∧
 ((decide
 ((0 :
 Int) <
 (↑x.1.1.length :
 Int)) &&
 decide
 (x.1.2.2.2.2.2.1 <
 (0 :
 Int)) &&
 decide
 (x.1.2.2.2.2.2.2.1 <
 (0 :
 Int))) =
 true →
 (x.1.1,
 List.drop
 (Int.toNat
 (1 :
 Int))
 (List.take
 (↑x.1.2.1.length :
 Int).toNat
 x.1.2.1),
 ((Tty.keyR
 (x.1.2.2.1.1,
 x.1.2.2.1.2)
 (x.1.2.1.getD
 (Int.toNat
 (0 :
 Int))
 (0 :
 Int))).1.1,
 (Tty.keyR
 (x.1.2.2.1.1,
 x.1.2.2.1.2)
 (x.1.2.1.getD
 (Int.toNat
 (0 :
 Int))
 (0 :
 Int))).1.2),
 x.1.2.2.2.1,
 x.1.2.2.2.2.1,
 x.1.2.2.2.2.2.2.2.1,
 x.1.2.2.2.2.2.2.1,
 x.1.2.2.2.2.2.2.2.1,
 x.1.2.2.2.2.2.2.2.2) =
 (ydo
 x.1
 x.2.1).1 ∧
 ((0 :
 Int),
 ([] :
 List
 Int)) =
 (ydo
 x.1
 x.2.1).2) ∧
 ((decide
 ((0 :
 Int) <
 (↑x.1.1.length :
 Int)) &&
 decide
 (x.1.2.2.2.2.2.1 <
 (0 :
 Int)) &&
 decide
 (x.1.2.2.2.2.2.2.1 <
 (0 :
 Int))) =
 false →
 (x.1.1,
 List.drop
 (Int.toNat
 (1 :
 Int))
 (List.take
 (↑x.1.2.1.length :
 Int).toNat
 x.1.2.1),
 ((Tty.keyR
 (x.1.2.2.1.1,
 x.1.2.2.1.2)
 (x.1.2.1.getD
 (Int.toNat
 (0 :
 Int))
 (0 :
 Int))).1.1,
 (Tty.keyR
 (x.1.2.2.1.1,
 x.1.2.2.1.2)
 (x.1.2.1.getD
 (Int.toNat
 (0 :
 Int))
 (0 :
 Int))).1.2),
 x.1.2.2.2.1,
 x.1.2.2.2.2.1,
 x.1.2.2.2.2.2.1,
 x.1.2.2.2.2.2.2.1,
 x.1.2.2.2.2.2.2.2.1,
 x.1.2.2.2.2.2.2.2.2) =
 (ydo
 x.1
 x.2.1).1 ∧
 ((0 :
 Int),
 ([] :
 List
 Int)) =
 (ydo
 x.1
 x.2.1).2)) ∧
 (((Tty.keyR
 (x.1.2.2.1.1,
 x.1.2.2.1.2)
 (x.1.2.1.getD
 (Int.toNat
 (0 :
 Int))
 (0 :
 Int))).2.1 ==
 (0 :
 Int)) =
 false →
 (((0 :
 Int) ≤
 (1 :
 Int) ∧
 (1 :
 Int) ≤
 (↑x.1.2.1.length :
 Int)) ∧
 (↑x.1.2.1.length :
 Int) ≤
 (↑x.1.2.1.length :
 Int)) ∧
 (decide
 ((0 :
 Int) <
 (↑x.1.1.length :
 Int)) =
 true →
 decide
 ((0 :
 Int) <
 (↑x.1.1.length :
 Int)) =
 true) ∧
 (decide
 ((0 :
 Int) <
 (↑x.1.1.length :
 Int)) =
 true →
 decide
 ((0 :
 Int) <
 (↑x.1.1.length :
 Int)) =
 true) ∧
 (decide
 ((0 :
 Int) <
 (↑x.1.1.length :
 Int)) =
 true →
 decide
 ((0 :
 Int) <
 (↑x.1.1.length :
 Int)) =
 true) ∧
 ((decide
 ((0 :
 Int) <
 (↑x.1.1.length :
 Int)) &&
 decide
 (x.1.2.2.2.2.2.1 <
 (0 :
 Int))) =
 true →
 (decide
 ((0 :
 Int) <
 (↑x.1.1.length :
 Int)) &&
 decide
 (x.1.2.2.2.2.2.1 <
 (0 :
 Int))) =
 true) ∧
 ((decide
 ((0 :
 Int) <
 (↑x.1.1.length :
 Int)) &&
 decide
 (x.1.2.2.2.2.2.1 <
 (0 :
 Int))) =
 true →
 (decide
 ((0 :
 Int) <
 (↑x.1.1.length :
 Int)) &&
 decide
 (x.1.2.2.2.2.2.1 <
 (0 :
 Int))) =
 true) ∧
 ((decide
 ((0 :
 Int) <
 (↑x.1.1.length :
 Int)) &&
 decide
 (x.1.2.2.2.2.2.1 <
 (0 :
 Int))) =
 true →
 (decide
 ((0 :
 Int) <
 (↑x.1.1.length :
 Int)) &&
 decide
 (x.1.2.2.2.2.2.1 <
 (0 :
 Int))) =
 true) ∧
 ((decide
 ((0 :
 Int) <
 (↑x.1.1.length :
 Int)) &&
 decide
 (x.1.2.2.2.2.2.1 <
 (0 :
 Int)) &&
 decide
 (x.1.2.2.2.2.2.2.1 <
 (0 :
 Int))) =
 true →
 (x.1.1,
 List.drop
 (Int.toNat
 (1 :
 Int))
 (List.take
 (↑x.1.2.1.length :
 Int).toNat
 x.1.2.1),
 (x.1.2.2.1.1,
 x.1.2.2.1.2),
 x.1.2.2.2.1,
 x.1.2.2.2.2.1,
 x.1.2.2.2.2.2.2.2.1,
 x.1.2.2.2.2.2.2.1,
 x.1.2.2.2.2.2.2.2.1,
 x.1.2.2.2.2.2.2.2.2) =
 (ydo
 x.1
 x.2.1).1 ∧
 ((0 :
 Int),
 ([] :
 List
 Int)) =
 (ydo
 x.1
 x.2.1).2) ∧
 ((decide
 ((0 :
 Int) <
 (↑x.1.1.length :
 Int)) &&
 decide
 (x.1.2.2.2.2.2.1 <
 (0 :
 Int)) &&
 decide
 (x.1.2.2.2.2.2.2.1 <
 (0 :
 Int))) =
 false →
 (x.1.1,
 List.drop
 (Int.toNat
 (1 :
 Int))
 (List.take
 (↑x.1.2.1.length :
 Int).toNat
 x.1.2.1),
 (x.1.2.2.1.1,
 x.1.2.2.1.2),
 x.1.2.2.2.1,
 x.1.2.2.2.2.1,
 x.1.2.2.2.2.2.1,
 x.1.2.2.2.2.2.2.1,
 x.1.2.2.2.2.2.2.2.1,
 x.1.2.2.2.2.2.2.2.2) =
 (ydo
 x.1
 x.2.1).1 ∧
 ((0 :
 Int),
 ([] :
 List
 Int)) =
 (ydo
 x.1
 x.2.1).2))) ∧
 (decide
 ((0 :
 Int) <
 (↑x.1.2.1.length :
 Int)) =
 false →
 (decide
 ((0 :
 Int) <
 (↑x.1.1.length :
 Int)) =
 true →
 decide
 ((0 :
 Int) <
 (↑x.1.1.length :
 Int)) =
 true) ∧
 (decide
 ((0 :
 Int) <
 (↑x.1.1.length :
 Int)) =
 true →
 decide
 ((0 :
 Int) <
 (↑x.1.1.length :
 Int)) =
 true) ∧
 (decide
 ((0 :
 Int) <
 (↑x.1.1.length :
 Int)) =
 true →
 decide
 ((0 :
 Int) <
 (↑x.1.1.length :
 Int)) =
 true) ∧
 ((decide
 ((0 :
 Int) <
 (↑x.1.1.length :
 Int)) &&
 decide
 (x.1.2.2.2.2.2.1 <
 (0 :
 Int))) =
 true →
 (decide
 ((0 :
 Int) <
 (↑x.1.1.length :
 Int)) &&
 decide
 (x.1.2.2.2.2.2.1 <
 (0 :
 Int))) =
 true) ∧
 ((decide
 ((0 :
 Int) <
 (↑x.1.1.length :
 Int)) &&
 decide
 (x.1.2.2.2.2.2.1 <
 (0 :
 Int))) =
 true →
 (decide
 ((0 :
 Int) <
 (↑x.1.1.length :
 Int)) &&
 decide
 (x.1.2.2.2.2.2.1 <
 (0 :
 Int))) =
 true) ∧
 ((decide
 ((0 :
 Int) <
 (↑x.1.1.length :
 Int)) &&
 decide
 (x.1.2.2.2.2.2.1 <
 (0 :
 Int))) =
 true →
 (decide
 ((0 :
 Int) <
 (↑x.1.1.length :
 Int)) &&
 decide
 (x.1.2.2.2.2.2.1 <
 (0 :
 Int))) =
 true) ∧
 ((decide
 ((0 :
 Int) <
 (↑x.1.1.length :
 Int)) &&
 decide
 (x.1.2.2.2.2.2.1 <
 (0 :
 Int)) &&
 decide
 (x.1.2.2.2.2.2.2.1 <
 (0 :
 Int))) =
 true →
 (x.1.1,
 x.1.2.1,
 (x.1.2.2.1.1,
 x.1.2.2.1.2),
 x.1.2.2.2.1,
 x.1.2.2.2.2.1,
 x.1.2.2.2.2.2.2.2.1,
 x.1.2.2.2.2.2.2.1,
 x.1.2.2.2.2.2.2.2.1,
 x.1.2.2.2.2.2.2.2.2) =
 (ydo
 x.1
 x.2.1).1 ∧
 ((7 :
 Int),
 ([] :
 List
 Int)) =
 (ydo
 x.1
 x.2.1).2) ∧
 ((decide
 ((0 :
 Int) <
 (↑x.1.1.length :
 Int)) &&
 decide
 (x.1.2.2.2.2.2.1 <
 (0 :
 Int)) &&
 decide
 (x.1.2.2.2.2.2.2.1 <
 (0 :
 Int))) =
 false →
 (x.1.1,
 x.1.2.1,
 (x.1.2.2.1.1,
 x.1.2.2.1.2),
 x.1.2.2.2.1,
 x.1.2.2.2.2.1,
 x.1.2.2.2.2.2.1,
 x.1.2.2.2.2.2.2.1,
 x.1.2.2.2.2.2.2.2.1,
 x.1.2.2.2.2.2.2.2.2) =
 (ydo
 x.1
 x.2.1).1 ∧
 ((7 :
 Int),
 ([] :
 List
 Int)) =
 (ydo
 x.1
 x.2.1).2))))))))))))))))

theorem E_ydo_eq (x : HL (cYDo : Ctr).as) : vc (fx_ydo x) 1 11 Tryd.f11 (cYDo) x = E_ydo x := by kernel_rfl

def E_yplay (x : List (Int × Int × Int × Int) × Unit) : Prop :=
 ((((0 : Int) ≤ (0 : Int) ∧
 0 ≤ (↑x.1.length : Int) ∧
 ((([] : List Int), ([] : List Int), (([] : List (List Int)), ([] : List Int)), (0 : Int), (0 : Int), (-1 : Int), (-1 : Int), (0 : Int),
 (0 : Int) :: (0 : Int) :: ([] : List Int)),
 ([] : List (Int × List Int))) =
 ypl (List.take (Int.toNat (0 : Int)) x.1)) ∧
 True) ∧
 ((True ∧ True) ∧ (True ∧ True) ∧ True ∧ x.1 = x.1 ∧ (↑x.1.length : Int) = (↑x.1.length : Int) ∧ (0 : Int) = (0 : Int) ∧ True) ∧
 ((([] : List Int) = ([] : List Int) ∧
 ([] : List Int) = ([] : List Int) ∧
 ([] : List (List Int)) = ([] : List (List Int)) ∧
 ([] : List Int) = ([] : List Int) ∧
 (0 : Int) = (0 : Int) ∧
 (0 : Int) = (0 : Int) ∧
 (-1 : Int) = (-1 : Int) ∧
 (-1 : Int) = (-1 : Int) ∧
 (0 : Int) = (0 : Int) ∧ (0 : Int) :: (0 : Int) :: ([] : List Int) = (0 : Int) :: (0 : Int) :: ([] : List Int) ∧ True) ∧
 ([] : List (Int × List Int)) = ([] : List (Int × List Int)) ∧
 (Value.slice none (0 : Nat) (0 : Nat) = Value.slice none (0 : Nat) (0 : Nat) ∧
 Value.slice none (0 : Nat) (0 : Nat) = Value.slice none (0 : Nat) (0 : Nat) ∧
 Value.slice none (0 : Nat) (0 : Nat) = Value.slice none (0 : Nat) (0 : Nat) ∧
 Value.slice none (0 : Nat) (0 : Nat) = Value.slice none (0 : Nat) (0 : Nat) ∧
 (0 : Int) = (0 : Int) ∧ (0 : Int) = (0 : Int) ∧ True) ∧
 True) ∧
 True) ∧
 ∀ (g : (List Int × List Int × (List (List Int) × List Int) × Int × Int × Int × Int × Int × List Int) × List (Int × List Int) × Int × Unit),
 0 ≤ g.2.2.1 ∧ g.2.2.1 ≤ (↑x.1.length : Int) ∧ (g.1, g.2.1) = ypl (List.take g.2.2.1.toNat x.1) →
 ((g.1.1.length ≤ (9223372036854775807 : Nat) ∧ ∀ (x : Int), x ∈ g.1.1 → 0 ≤ x ∧ x ≤ 255) ∧
 (g.1.2.1.length ≤ (9223372036854775807 : Nat) ∧ ∀ (x : Int), x ∈ g.1.2.1 → 0 ≤ x ∧ x ≤ 255) ∧
 ((g.1.2.2.1.1.length ≤ (9223372036854775807 : Nat) ∧
 ∀ (x : List Int),
 x ∈ g.1.2.2.1.1 →
 x.length ≤ (9223372036854775807 : Nat) ∧ ∀ (x_1 : Int), x_1 ∈ x → 0 ≤ x_1 ∧ x_1 ≤ 255) ∧
 g.1.2.2.1.2.length ≤ (9223372036854775807 : Nat) ∧
 ∀ (x : Int), x ∈ g.1.2.2.1.2 → 0 ≤ x ∧ x ≤ 255) ∧
 (-9223372036854775808 ≤ g.1.2.2.2.1 ∧ g.1.2.2.2.1 ≤ 9223372036854775807) ∧
 (-9223372036854775808 ≤ g.1.2.2.2.2.1 ∧ g.1.2.2.2.2.1 ≤ 9223372036854775807) ∧
 (-9223372036854775808 ≤ g.1.2.2.2.2.2.1 ∧ g.1.2.2.2.2.2.1 ≤ 9223372036854775807) ∧
 (-9223372036854775808 ≤ g.1.2.2.2.2.2.2.1 ∧
 g.1.2.2.2.2.2.2.1 ≤ 9223372036854775807) ∧
 (-9223372036854775808 ≤ g.1.2.2.2.2.2.2.2.1 ∧
 g.1.2.2.2.2.2.2.2.1 ≤ 9223372036854775807) ∧
 g.1.2.2.2.2.2.2.2.2.length = (2 : Nat) ∧
 ∀ (x : Int),
 x ∈ g.1.2.2.2.2.2.2.2.2 → -9223372036854775808 ≤ x ∧ x ≤ 9223372036854775807) ∧
 (g.2.1.length ≤ (9223372036854775807 : Nat) ∧
 ∀ (x : Int × List Int),
 x ∈ g.2.1 →
 (-9223372036854775808 ≤ x.1 ∧ x.1 ≤ 9223372036854775807) ∧
 x.2.length ≤ (9223372036854775807 : Nat) ∧ ∀ (x_1 : Int), x_1 ∈ x.2 → 0 ≤ x_1 ∧ x_1 ≤ 255) ∧
 (-9223372036854775808 ≤ g.2.2.1 ∧ g.2.2.1 ≤ 9223372036854775807) ∧ True →
 (decide (g.2.2.1 < (↑x.1.length : Int)) = true →
 (0 ≤ g.2.2.1 ∧ g.2.2.1 < (↑x.1.length : Int)) ∧
 Holds
 (∃ k,
 0 ≤ k ∧
 k ≤ 1048576 ∧
 goodY
 (g.1.1, g.1.2.1, (g.1.2.2.1.1, g.1.2.2.1.2), g.1.2.2.2.1, g.1.2.2.2.2.1,
 g.1.2.2.2.2.2.1, g.1.2.2.2.2.2.2.1, g.1.2.2.2.2.2.2.2.1,
 g.1.2.2.2.2.2.2.2.2)
 k) ∧
 (g.2.1.length +
 ((((0 : Int), ([] : List Int)) :: ([] : List (Int × List Int))).set (0 : Nat)
 ((ydo
 (g.1.1, g.1.2.1, (g.1.2.2.1.1, g.1.2.2.1.2), g.1.2.2.2.1,
 g.1.2.2.2.2.1, g.1.2.2.2.2.2.1, g.1.2.2.2.2.2.2.1,
 g.1.2.2.2.2.2.2.2.1, g.1.2.2.2.2.2.2.2.2)
 ((x.1.getD g.2.2.1.toNat ((0 : Int), (0 : Int), (0 : Int), (0 : Int))).1,
 (x.1.getD g.2.2.1.toNat ((0 : Int), (0 : Int), (0 : Int), (0 : Int))).2.1,
 (x.1.getD g.2.2.1.toNat ((0 : Int), (0 : Int), (0 : Int), (0 : Int))).2.2.1,
 (x.1.getD g.2.2.1.toNat ((0 : Int), (0 : Int), (0 : Int), (0 : Int))).2.2.2)).2.1,
 (ydo
 (g.1.1, g.1.2.1, (g.1.2.2.1.1, g.1.2.2.1.2), g.1.2.2.2.1,
 g.1.2.2.2.2.1, g.1.2.2.2.2.2.1, g.1.2.2.2.2.2.2.1,
 g.1.2.2.2.2.2.2.2.1, g.1.2.2.2.2.2.2.2.2)
 ((x.1.getD g.2.2.1.toNat ((0 : Int), (0 : Int), (0 : Int), (0 : Int))).1,
 (x.1.getD g.2.2.1.toNat ((0 : Int), (0 : Int), (0 : Int), (0 : Int))).2.1,
 (x.1.getD g.2.2.1.toNat ((0 : Int), (0 : Int), (0 : Int), (0 : Int))).2.2.1,
 (x.1.getD g.2.2.1.toNat ((0 : Int), (0 : Int), (0 : Int), (0 : Int))).2.2.2)).2.2)).length ≤
 (9223372036854775807 : Nat) ∧
 (g.2.1.length +
 ((((0 : Int), ([] : List Int)) :: ([] : List (Int × List Int))).set (0 : Nat)
 ((ydo
 (g.1.1, g.1.2.1, (g.1.2.2.1.1, g.1.2.2.1.2), g.1.2.2.2.1,
 g.1.2.2.2.2.1, g.1.2.2.2.2.2.1, g.1.2.2.2.2.2.2.1,
 g.1.2.2.2.2.2.2.2.1, g.1.2.2.2.2.2.2.2.2)
 ((x.1.getD g.2.2.1.toNat ((0 : Int), (0 : Int), (0 : Int), (0 : Int))).1,
 (x.1.getD g.2.2.1.toNat ((0 : Int), (0 : Int), (0 : Int), (0 : Int))).2.1,
 (x.1.getD g.2.2.1.toNat ((0 : Int), (0 : Int), (0 : Int), (0 : Int))).2.2.1,
 (x.1.getD g.2.2.1.toNat ((0 : Int), (0 : Int), (0 : Int), (0 : Int))).2.2.2)).2.1,
 (ydo
 (g.1.1, g.1.2.1, (g.1.2.2.1.1, g.1.2.2.1.2), g.1.2.2.2.1,
 g.1.2.2.2.2.1, g.1.2.2.2.2.2.1, g.1.2.2.2.2.2.2.1,
 g.1.2.2.2.2.2.2.2.1, g.1.2.2.2.2.2.2.2.2)
 ((x.1.getD g.2.2.1.toNat ((0 : Int), (0 : Int), (0 : Int), (0 : Int))).1,
 (x.1.getD g.2.2.1.toNat ((0 : Int), (0 : Int), (0 : Int), (0 : Int))).2.1,
 (x.1.getD g.2.2.1.toNat ((0 : Int), (0 : Int), (0 : Int), (0 : Int))).2.2.1,
 (x.1.getD g.2.2.1.toNat
 ((0 : Int), (0 : Int), (0 : Int), (0 : Int))).2.2.2)).2.2)).length +
 (g.2.1.length +
 ((((0 : Int), ([] : List Int)) :: ([] : List (Int × List Int))).set (0 : Nat)
 ((ydo
 (g.1.1, g.1.2.1, (g.1.2.2.1.1, g.1.2.2.1.2), g.1.2.2.2.1,
 g.1.2.2.2.2.1, g.1.2.2.2.2.2.1, g.1.2.2.2.2.2.2.1,
 g.1.2.2.2.2.2.2.2.1, g.1.2.2.2.2.2.2.2.2)
 ((x.1.getD g.2.2.1.toNat ((0 : Int), (0 : Int), (0 : Int), (0 : Int))).1,
 (x.1.getD g.2.2.1.toNat ((0 : Int), (0 : Int), (0 : Int), (0 : Int))).2.1,
 (x.1.getD g.2.2.1.toNat ((0 : Int), (0 : Int), (0 : Int), (0 : Int))).2.2.1,
 (x.1.getD g.2.2.1.toNat ((0 : Int), (0 : Int), (0 : Int), (0 : Int))).2.2.2)).2.1,
 (ydo
 (g.1.1, g.1.2.1, (g.1.2.2.1.1, g.1.2.2.1.2), g.1.2.2.2.1,
 g.1.2.2.2.2.1, g.1.2.2.2.2.2.1, g.1.2.2.2.2.2.2.1,
 g.1.2.2.2.2.2.2.2.1, g.1.2.2.2.2.2.2.2.2)
 ((x.1.getD g.2.2.1.toNat ((0 : Int), (0 : Int), (0 : Int), (0 : Int))).1,
 (x.1.getD g.2.2.1.toNat ((0 : Int), (0 : Int), (0 : Int), (0 : Int))).2.1,
 (x.1.getD g.2.2.1.toNat ((0 : Int), (0 : Int), (0 : Int), (0 : Int))).2.2.1,
 (x.1.getD g.2.2.1.toNat
 ((0 : Int), (0 : Int), (0 : Int), (0 : Int))).2.2.2)).2.2)).length) /
 (4 : Nat) +
 (192 : Nat)) *
 (32 : Nat) ≤
 (281474976710656 : Nat)) ∧
 (-9223372036854775808 ≤ g.2.2.1 + 1 ∧ g.2.2.1 + 1 ≤ (9223372036854775807 : Int)) ∧
 ((0 ≤ g.2.2.1 + 1 ∧
 g.2.2.1 + 1 ≤ (↑x.1.length : Int) ∧
 (((ydo
 (g.1.1, g.1.2.1, (g.1.2.2.1.1, g.1.2.2.1.2), g.1.2.2.2.1,
 g.1.2.2.2.2.1, g.1.2.2.2.2.2.1, g.1.2.2.2.2.2.2.1,
 g.1.2.2.2.2.2.2.2.1, g.1.2.2.2.2.2.2.2.2)
 ((x.1.getD g.2.2.1.toNat ((0 : Int), (0 : Int), (0 : Int), (0 : Int))).1,
 (x.1.getD g.2.2.1.toNat ((0 : Int), (0 : Int), (0 : Int), (0 : Int))).2.1,
 (x.1.getD g.2.2.1.toNat ((0 : Int), (0 : Int), (0 : Int), (0 : Int))).2.2.1,
 (x.1.getD g.2.2.1.toNat ((0 : Int), (0 : Int), (0 : Int), (0 : Int))).2.2.2)).1.1,
 (ydo
 (g.1.1, g.1.2.1, (g.1.2.2.1.1, g.1.2.2.1.2), g.1.2.2.2.1,
 g.1.2.2.2.2.1, g.1.2.2.2.2.2.1, g.1.2.2.2.2.2.2.1,
 g.1.2.2.2.2.2.2.2.1, g.1.2.2.2.2.2.2.2.2)
 ((x.1.getD g.2.2.1.toNat ((0 : Int), (0 : Int), (0 : Int), (0 : Int))).1,
 (x.1.getD g.2.2.1.toNat ((0 : Int), (0 : Int), (0 : Int), (0 : Int))).2.1,
 (x.1.getD g.2.2.1.toNat ((0 : Int), (0 : Int), (0 : Int), (0 : Int))).2.2.1,
 (x.1.getD g.2.2.1.toNat ((0 : Int), (0 : Int), (0 : Int), (0 : Int))).2.2.2)).1.2.1,
 ((ydo
 (g.1.1, g.1.2.1, (g.1.2.2.1.1, g.1.2.2.1.2), g.1.2.2.2.1,
 g.1.2.2.2.2.1, g.1.2.2.2.2.2.1, g.1.2.2.2.2.2.2.1,
 g.1.2.2.2.2.2.2.2.1, g.1.2.2.2.2.2.2.2.2)
 ((x.1.getD g.2.2.1.toNat ((0 : Int), (0 : Int), (0 : Int), (0 : Int))).1,
 (x.1.getD g.2.2.1.toNat ((0 : Int), (0 : Int), (0 : Int), (0 : Int))).2.1,
 (x.1.getD g.2.2.1.toNat ((0 : Int), (0 : Int), (0 : Int), (0 : Int))).2.2.1,
 (x.1.getD g.2.2.1.toNat
 ((0 : Int), (0 : Int), (0 : Int), (0 : Int))).2.2.2)).1.2.2.1.1,
 (ydo
 (g.1.1, g.1.2.1, (g.1.2.2.1.1, g.1.2.2.1.2), g.1.2.2.2.1,
 g.1.2.2.2.2.1, g.1.2.2.2.2.2.1, g.1.2.2.2.2.2.2.1,
 g.1.2.2.2.2.2.2.2.1, g.1.2.2.2.2.2.2.2.2)
 ((x.1.getD g.2.2.1.toNat ((0 : Int), (0 : Int), (0 : Int), (0 : Int))).1,
 (x.1.getD g.2.2.1.toNat ((0 : Int), (0 : Int), (0 : Int), (0 : Int))).2.1,
 (x.1.getD g.2.2.1.toNat ((0 : Int), (0 : Int), (0 : Int), (0 : Int))).2.2.1,
 (x.1.getD g.2.2.1.toNat
 ((0 : Int), (0 : Int), (0 : Int), (0 : Int))).2.2.2)).1.2.2.1.2),
 (ydo
 (g.1.1, g.1.2.1, (g.1.2.2.1.1, g.1.2.2.1.2), g.1.2.2.2.1,
 g.1.2.2.2.2.1, g.1.2.2.2.2.2.1, g.1.2.2.2.2.2.2.1,
 g.1.2.2.2.2.2.2.2.1, g.1.2.2.2.2.2.2.2.2)
 ((x.1.getD g.2.2.1.toNat ((0 : Int), (0 : Int), (0 : Int), (0 : Int))).1,
 (x.1.getD g.2.2.1.toNat ((0 : Int), (0 : Int), (0 : Int), (0 : Int))).2.1,
 (x.1.getD g.2.2.1.toNat ((0 : Int), (0 : Int), (0 : Int), (0 : Int))).2.2.1,
 (x.1.getD g.2.2.1.toNat
 ((0 : Int), (0 : Int), (0 : Int), (0 : Int))).2.2.2)).1.2.2.2.1,
 (ydo
 (g.1.1, g.1.2.1, (g.1.2.2.1.1, g.1.2.2.1.2), g.1.2.2.2.1,
 g.1.2.2.2.2.1, g.1.2.2.2.2.2.1, g.1.2.2.2.2.2.2.1,
 g.1.2.2.2.2.2.2.2.1, g.1.2.2.2.2.2.2.2.2)
 ((x.1.getD g.2.2.1.toNat ((0 : Int), (0 : Int), (0 : Int), (0 : Int))).1,
 (x.1.getD g.2.2.1.toNat ((0 : Int), (0 : Int), (0 : Int), (0 : Int))).2.1,
 (x.1.getD g.2.2.1.toNat ((0 : Int), (0 : Int), (0 : Int), (0 : Int))).2.2.1,
 (x.1.getD g.2.2.1.toNat
 ((0 : Int), (0 : Int), (0 : Int), (0 : Int))).2.2.2)).1.2.2.2.2.1,
 (ydo
 (g.1.1, g.1.2.1, (g.1.2.2.1.1, g.1.2.2.1.2), g.1.2.2.2.1,
 g.1.2.2.2.2.1, g.1.2.2.2.2.2.1, g.1.2.2.2.2.2.2.1,
 g.1.2.2.2.2.2.2.2.1, g.1.2.2.2.2.2.2.2.2)
 ((x.1.getD g.2.2.1.toNat ((0 : Int), (0 : Int), (0 : Int), (0 : Int))).1,
 (x.1.getD g.2.2.1.toNat ((0 : Int), (0 : Int), (0 : Int), (0 : Int))).2.1,
 (x.1.getD g.2.2.1.toNat ((0 : Int), (0 : Int), (0 : Int), (0 : Int))).2.2.1,
 (x.1.getD g.2.2.1.toNat
 ((0 : Int), (0 : Int), (0 : Int), (0 : Int))).2.2.2)).1.2.2.2.2.2.1,
 (ydo
 (g.1.1, g.1.2.1, (g.1.2.2.1.1, g.1.2.2.1.2), g.1.2.2.2.1,
 g.1.2.2.2.2.1, g.1.2.2.2.2.2.1, g.1.2.2.2.2.2.2.1,
 g.1.2.2.2.2.2.2.2.1, g.1.2.2.2.2.2.2.2.2)
 ((x.1.getD g.2.2.1.toNat ((0 : Int), (0 : Int), (0 : Int), (0 : Int))).1,
 (x.1.getD g.2.2.1.toNat ((0 : Int), (0 : Int), (0 : Int), (0 : Int))).2.1,
 (x.1.getD g.2.2.1.toNat ((0 : Int), (0 : Int), (0 : Int), (0 : Int))).2.2.1,
 (x.1.getD g.2.2.1.toNat
 ((0 : Int), (0 : Int), (0 : Int),
 (0 : Int))).2.2.2)).1.2.2.2.2.2.2.1,
 (ydo
 (g.1.1, g.1.2.1, (g.1.2.2.1.1, g.1.2.2.1.2),
 g.1.2.2.2.1, g.1.2.2.2.2.1, g.1.2.2.2.2.2.1,
 g.1.2.2.2.2.2.2.1, g.1.2.2.2.2.2.2.2.1,
 g.1.2.2.2.2.2.2.2.2)
 ((x.1.getD g.2.2.1.toNat ((0 : Int), (0 : Int), (0 : Int), (0 : Int))).1,
 (x.1.getD g.2.2.1.toNat ((0 : Int), (0 : Int), (0 : Int), (0 : Int))).2.1,
 (x.1.getD g.2.2.1.toNat ((0 : Int), (0 : Int), (0 : Int), (0 : Int))).2.2.1,
 (x.1.getD g.2.2.1.toNat
 ((0 : Int), (0 : Int), (0 : Int),
 (0 : Int))).2.2.2)).1.2.2.2.2.2.2.2.1,
 (ydo
 (g.1.1, g.1.2.1, (g.1.2.2.1.1, g.1.2.2.1.2),
 g.1.2.2.2.1, g.1.2.2.2.2.1, g.1.2.2.2.2.2.1,
 g.1.2.2.2.2.2.2.1, g.1.2.2.2.2.2.2.2.1,
 g.1.2.2.2.2.2.2.2.2)
 ((x.1.getD g.2.2.1.toNat ((0 : Int), (0 : Int), (0 : Int), (0 : Int))).1,
 (x.1.getD g.2.2.1.toNat ((0 : Int), (0 : Int), (0 : Int), (0 : Int))).2.1,
 (x.1.getD g.2.2.1.toNat ((0 : Int), (0 : Int), (0 : Int), (0 : Int))).2.2.1,
 (x.1.getD g.2.2.1.toNat
 ((0 : Int), (0 : Int), (0 : Int),
 (0 : Int))).2.2.2)).1.2.2.2.2.2.2.2.2),
 g.2.1 ++
 (((0 : Int), ([] : List Int)) :: ([] : List (Int × List Int))).set (0 : Nat)
 ((ydo
 (g.1.1, g.1.2.1, (g.1.2.2.1.1, g.1.2.2.1.2), g.1.2.2.2.1,
 g.1.2.2.2.2.1, g.1.2.2.2.2.2.1, g.1.2.2.2.2.2.2.1,
 g.1.2.2.2.2.2.2.2.1, g.1.2.2.2.2.2.2.2.2)
 ((x.1.getD g.2.2.1.toNat ((0 : Int), (0 : Int), (0 : Int), (0 : Int))).1,
 (x.1.getD g.2.2.1.toNat ((0 : Int), (0 : Int), (0 : Int), (0 : Int))).2.1,
 (x.1.getD g.2.2.1.toNat ((0 : Int), (0 : Int), (0 : Int), (0 : Int))).2.2.1,
 (x.1.getD g.2.2.1.toNat ((0 : Int), (0 : Int), (0 : Int), (0 : Int))).2.2.2)).2.1,
 (ydo
 (g.1.1, g.1.2.1, (g.1.2.2.1.1, g.1.2.2.1.2), g.1.2.2.2.1,
 g.1.2.2.2.2.1, g.1.2.2.2.2.2.1, g.1.2.2.2.2.2.2.1,
 g.1.2.2.2.2.2.2.2.1, g.1.2.2.2.2.2.2.2.2)
 ((x.1.getD g.2.2.1.toNat ((0 : Int), (0 : Int), (0 : Int), (0 : Int))).1,
 (x.1.getD g.2.2.1.toNat ((0 : Int), (0 : Int), (0 : Int), (0 : Int))).2.1,
 (x.1.getD g.2.2.1.toNat ((0 : Int), (0 : Int), (0 : Int), (0 : Int))).2.2.1,
 (x.1.getD g.2.2.1.toNat ((0 : Int), (0 : Int), (0 : Int), (0 : Int))).2.2.2)).2.2)) =
 ypl (List.take (g.2.2.1 + 1).toNat x.1)) ∧
 ((↑x.1.length : Int) - (g.2.2.1 + 1)).toNat < ((↑x.1.length : Int) - g.2.2.1).toNat) ∧
 ((True ∧ True) ∧
 (True ∧ True) ∧
 True ∧
 x.1 = x.1 ∧
 (↑x.1.length : Int) = (↑x.1.length : Int) ∧ g.2.2.1 + 1 = g.2.2.1 + 1 ∧ True) ∧
 (((ydo
 (g.1.1, g.1.2.1, (g.1.2.2.1.1, g.1.2.2.1.2), g.1.2.2.2.1,
 g.1.2.2.2.2.1, g.1.2.2.2.2.2.1, g.1.2.2.2.2.2.2.1,
 g.1.2.2.2.2.2.2.2.1, g.1.2.2.2.2.2.2.2.2)
 ((x.1.getD g.2.2.1.toNat ((0 : Int), (0 : Int), (0 : Int), (0 : Int))).1,
 (x.1.getD g.2.2.1.toNat ((0 : Int), (0 : Int), (0 : Int), (0 : Int))).2.1,
 (x.1.getD g.2.2.1.toNat ((0 : Int), (0 : Int), (0 : Int), (0 : Int))).2.2.1,
 (x.1.getD g.2.2.1.toNat ((0 : Int), (0 : Int), (0 : Int), (0 : Int))).2.2.2)).1.1 =
 (ydo
 (g.1.1, g.1.2.1, (g.1.2.2.1.1, g.1.2.2.1.2), g.1.2.2.2.1,
 g.1.2.2.2.2.1, g.1.2.2.2.2.2.1, g.1.2.2.2.2.2.2.1,
 g.1.2.2.2.2.2.2.2.1, g.1.2.2.2.2.2.2.2.2)
 ((x.1.getD g.2.2.1.toNat ((0 : Int), (0 : Int), (0 : Int), (0 : Int))).1,
 (x.1.getD g.2.2.1.toNat ((0 : Int), (0 : Int), (0 : Int), (0 : Int))).2.1,
 (x.1.getD g.2.2.1.toNat ((0 : Int), (0 : Int), (0 : Int), (0 : Int))).2.2.1,
 (x.1.getD g.2.2.1.toNat ((0 : Int), (0 : Int), (0 : Int), (0 : Int))).2.2.2)).1.1 ∧
 (ydo
 (g.1.1, g.1.2.1, (g.1.2.2.1.1, g.1.2.2.1.2), g.1.2.2.2.1,
 g.1.2.2.2.2.1, g.1.2.2.2.2.2.1, g.1.2.2.2.2.2.2.1,
 g.1.2.2.2.2.2.2.2.1, g.1.2.2.2.2.2.2.2.2)
 ((x.1.getD g.2.2.1.toNat ((0 : Int), (0 : Int), (0 : Int), (0 : Int))).1,
 (x.1.getD g.2.2.1.toNat ((0 : Int), (0 : Int), (0 : Int), (0 : Int))).2.1,
 (x.1.getD g.2.2.1.toNat ((0 : Int), (0 : Int), (0 : Int), (0 : Int))).2.2.1,
 (x.1.getD g.2.2.1.toNat ((0 : Int), (0 : Int), (0 : Int), (0 : Int))).2.2.2)).1.2.1 =
 (ydo
 (g.1.1, g.1.2.1, (g.1.2.2.1.1, g.1.2.2.1.2), g.1.2.2.2.1,
 g.1.2.2.2.2.1, g.1.2.2.2.2.2.1, g.1.2.2.2.2.2.2.1,
 g.1.2.2.2.2.2.2.2.1, g.1.2.2.2.2.2.2.2.2)
 ((x.1.getD g.2.2.1.toNat ((0 : Int), (0 : Int), (0 : Int), (0 : Int))).1,
 (x.1.getD g.2.2.1.toNat ((0 : Int), (0 : Int), (0 : Int), (0 : Int))).2.1,
 (x.1.getD g.2.2.1.toNat ((0 : Int), (0 : Int), (0 : Int), (0 : Int))).2.2.1,
 (x.1.getD g.2.2.1.toNat ((0 : Int), (0 : Int), (0 : Int), (0 : Int))).2.2.2)).1.2.1 ∧
 (ydo
 (g.1.1, g.1.2.1, (g.1.2.2.1.1, g.1.2.2.1.2), g.1.2.2.2.1,
 g.1.2.2.2.2.1, g.1.2.2.2.2.2.1, g.1.2.2.2.2.2.2.1,
 g.1.2.2.2.2.2.2.2.1, g.1.2.2.2.2.2.2.2.2)
 ((x.1.getD g.2.2.1.toNat ((0 : Int), (0 : Int), (0 : Int), (0 : Int))).1,
 (x.1.getD g.2.2.1.toNat ((0 : Int), (0 : Int), (0 : Int), (0 : Int))).2.1,
 (x.1.getD g.2.2.1.toNat ((0 : Int), (0 : Int), (0 : Int), (0 : Int))).2.2.1,
 (x.1.getD g.2.2.1.toNat
 ((0 : Int), (0 : Int), (0 : Int), (0 : Int))).2.2.2)).1.2.2.1.1 =
 (ydo
 (g.1.1, g.1.2.1, (g.1.2.2.1.1, g.1.2.2.1.2), g.1.2.2.2.1,
 g.1.2.2.2.2.1, g.1.2.2.2.2.2.1, g.1.2.2.2.2.2.2.1,
 g.1.2.2.2.2.2.2.2.1, g.1.2.2.2.2.2.2.2.2)
 ((x.1.getD g.2.2.1.toNat ((0 : Int), (0 : Int), (0 : Int), (0 : Int))).1,
 (x.1.getD g.2.2.1.toNat ((0 : Int), (0 : Int), (0 : Int), (0 : Int))).2.1,
 (x.1.getD g.2.2.1.toNat ((0 : Int), (0 : Int), (0 : Int), (0 : Int))).2.2.1,
 (x.1.getD g.2.2.1.toNat
 ((0 : Int), (0 : Int), (0 : Int), (0 : Int))).2.2.2)).1.2.2.1.1 ∧
 (ydo
 (g.1.1, g.1.2.1, (g.1.2.2.1.1, g.1.2.2.1.2), g.1.2.2.2.1,
 g.1.2.2.2.2.1, g.1.2.2.2.2.2.1, g.1.2.2.2.2.2.2.1,
 g.1.2.2.2.2.2.2.2.1, g.1.2.2.2.2.2.2.2.2)
 ((x.1.getD g.2.2.1.toNat ((0 : Int), (0 : Int), (0 : Int), (0 : Int))).1,
 (x.1.getD g.2.2.1.toNat ((0 : Int), (0 : Int), (0 : Int), (0 : Int))).2.1,
 (x.1.getD g.2.2.1.toNat ((0 : Int), (0 : Int), (0 : Int), (0 : Int))).2.2.1,
 (x.1.getD g.2.2.1.toNat
 ((0 : Int), (0 : Int), (0 : Int), (0 : Int))).2.2.2)).1.2.2.1.2 =
 (ydo
 (g.1.1, g.1.2.1, (g.1.2.2.1.1, g.1.2.2.1.2), g.1.2.2.2.1,
 g.1.2.2.2.2.1, g.1.2.2.2.2.2.1, g.1.2.2.2.2.2.2.1,
 g.1.2.2.2.2.2.2.2.1, g.1.2.2.2.2.2.2.2.2)
 ((x.1.getD g.2.2.1.toNat ((0 : Int), (0 : Int), (0 : Int), (0 : Int))).1,
 (x.1.getD g.2.2.1.toNat ((0 : Int), (0 : Int), (0 : Int), (0 : Int))).2.1,
 (x.1.getD g.2.2.1.toNat ((0 : Int), (0 : Int), (0 : Int), (0 : Int))).2.2.1,
 (x.1.getD g.2.2.1.toNat
 ((0 : Int), (0 : Int), (0 : Int), (0 : Int))).2.2.2)).1.2.2.1.2 ∧
 (ydo
 (g.1.1, g.1.2.1, (g.1.2.2.1.1, g.1.2.2.1.2), g.1.2.2.2.1,
 g.1.2.2.2.2.1, g.1.2.2.2.2.2.1, g.1.2.2.2.2.2.2.1,
 g.1.2.2.2.2.2.2.2.1, g.1.2.2.2.2.2.2.2.2)
 ((x.1.getD g.2.2.1.toNat ((0 : Int), (0 : Int), (0 : Int), (0 : Int))).1,
 (x.1.getD g.2.2.1.toNat ((0 : Int), (0 : Int), (0 : Int), (0 : Int))).2.1,
 (x.1.getD g.2.2.1.toNat ((0 : Int), (0 : Int), (0 : Int), (0 : Int))).2.2.1,
 (x.1.getD g.2.2.1.toNat
 ((0 : Int), (0 : Int), (0 : Int), (0 : Int))).2.2.2)).1.2.2.2.1 =
 (ydo
 (g.1.1, g.1.2.1, (g.1.2.2.1.1, g.1.2.2.1.2), g.1.2.2.2.1,
 g.1.2.2.2.2.1, g.1.2.2.2.2.2.1, g.1.2.2.2.2.2.2.1,
 g.1.2.2.2.2.2.2.2.1, g.1.2.2.2.2.2.2.2.2)
 ((x.1.getD g.2.2.1.toNat ((0 : Int), (0 : Int), (0 : Int), (0 : Int))).1,
 (x.1.getD g.2.2.1.toNat ((0 : Int), (0 : Int), (0 : Int), (0 : Int))).2.1,
 (x.1.getD g.2.2.1.toNat ((0 : Int), (0 : Int), (0 : Int), (0 : Int))).2.2.1,
 (x.1.getD g.2.2.1.toNat
 ((0 : Int), (0 : Int), (0 : Int), (0 : Int))).2.2.2)).1.2.2.2.1 ∧
 (ydo
 (g.1.1, g.1.2.1, (g.1.2.2.1.1, g.1.2.2.1.2),
 g.1.2.2.2.1, g.1.2.2.2.2.1, g.1.2.2.2.2.2.1,
 g.1.2.2.2.2.2.2.1, g.1.2.2.2.2.2.2.2.1,
 g.1.2.2.2.2.2.2.2.2)
 ((x.1.getD g.2.2.1.toNat ((0 : Int), (0 : Int), (0 : Int), (0 : Int))).1,
 (x.1.getD g.2.2.1.toNat ((0 : Int), (0 : Int), (0 : Int), (0 : Int))).2.1,
 (x.1.getD g.2.2.1.toNat ((0 : Int), (0 : Int), (0 : Int), (0 : Int))).2.2.1,
 (x.1.getD g.2.2.1.toNat
 ((0 : Int), (0 : Int), (0 : Int),
 (0 : Int))).2.2.2)).1.2.2.2.2.1 =
 (ydo
 (g.1.1, g.1.2.1, (g.1.2.2.1.1, g.1.2.2.1.2),
 g.1.2.2.2.1, g.1.2.2.2.2.1, g.1.2.2.2.2.2.1,
 g.1.2.2.2.2.2.2.1, g.1.2.2.2.2.2.2.2.1,
 g.1.2.2.2.2.2.2.2.2)
 ((x.1.getD g.2.2.1.toNat ((0 : Int), (0 : Int), (0 : Int), (0 : Int))).1,
 (x.1.getD g.2.2.1.toNat ((0 : Int), (0 : Int), (0 : Int), (0 : Int))).2.1,
 (x.1.getD g.2.2.1.toNat ((0 : Int), (0 : Int), (0 : Int), (0 : Int))).2.2.1,
 (x.1.getD g.2.2.1.toNat
 ((0 : Int), (0 : Int), (0 : Int),
 (0 : Int))).2.2.2)).1.2.2.2.2.1 ∧
 (ydo
 (g.1.1, g.1.2.1, (g.1.2.2.1.1, g.1.2.2.1.2),
 g.1.2.2.2.1, g.1.2.2.2.2.1, g.1.2.2.2.2.2.1,
 g.1.2.2.2.2.2.2.1, g.1.2.2.2.2.2.2.2.1,
 g.1.2.2.2.2.2.2.2.2)
 ((x.1.getD g.2.2.1.toNat ((0 : Int), (0 : Int), (0 : Int), (0 : Int))).1,
 (x.1.getD g.2.2.1.toNat ((0 : Int), (0 : Int), (0 : Int), (0 : Int))).2.1,
 (x.1.getD g.2.2.1.toNat
 ((0 : Int), (0 : Int), (0 : Int), (0 : Int))).2.2.1,
 (x.1.getD g.2.2.1.toNat
 ((0 : Int), (0 : Int), (0 : Int),
 (0 : Int))).2.2.2)).1.2.2.2.2.2.1 =
 (ydo
 (g.1.1, g.1.2.1, (g.1.2.2.1.1, g.1.2.2.1.2),
 g.1.2.2.2.1, g.1.2.2.2.2.1, g.1.2.2.2.2.2.1,
 g.1.2.2.2.2.2.2.1, g.1.2.2.2.2.2.2.2.1,
 g.1.2.2.2.2.2.2.2.2)
 ((x.1.getD g.2.2.1.toNat ((0 : Int), (0 : Int), (0 : Int), (0 : Int))).1,
 (x.1.getD g.2.2.1.toNat ((0 : Int), (0 : Int), (0 : Int), (0 : Int))).2.1,
 (x.1.getD g.2.2.1.toNat
 ((0 : Int), (0 : Int), (0 : Int), (0 : Int))).2.2.1,
 (x.1.getD g.2.2.1.toNat
 ((0 : Int), (0 : Int), (0 : Int),
 (0 : Int))).2.2.2)).1.2.2.2.2.2.1 ∧
 (ydo
 (g.1.1, g.1.2.1, (g.1.2.2.1.1, g.1.2.2.1.2),
 g.1.2.2.2.1, g.1.2.2.2.2.1, g.1.2.2.2.2.2.1,
 g.1.2.2.2.2.2.2.1, g.1.2.2.2.2.2.2.2.1,
 g.1.2.2.2.2.2.2.2.2)
 ((x.1.getD g.2.2.1.toNat ((0 : Int), (0 : Int), (0 : Int), (0 : Int))).1,
 (x.1.getD g.2.2.1.toNat
 ((0 : Int), (0 : Int), (0 : Int), (0 : Int))).2.1,
 (x.1.getD g.2.2.1.toNat
 ((0 : Int), (0 : Int), (0 : Int), (0 : Int))).2.2.1,
 (x.1.getD g.2.2.1.toNat
 ((0 : Int), (0 : Int), (0 : Int),
 (0 : Int))).2.2.2)).1.2.2.2.2.2.2.1 =
 (ydo
 (g.1.1, g.1.2.1, (g.1.2.2.1.1, g.1.2.2.1.2),
 g.1.2.2.2.1, g.1.2.2.2.2.1, g.1.2.2.2.2.2.1,
 g.1.2.2.2.2.2.2.1, g.1.2.2.2.2.2.2.2.1,
 g.1.2.2.2.2.2.2.2.2)
 ((x.1.getD g.2.2.1.toNat ((0 : Int), (0 : Int), (0 : Int), (0 : Int))).1,
 (x.1.getD g.2.2.1.toNat
 ((0 : Int), (0 : Int), (0 : Int), (0 : Int))).2.1,
 (x.1.getD g.2.2.1.toNat
 ((0 : Int), (0 : Int), (0 : Int), (0 : Int))).2.2.1,
 (x.1.getD g.2.2.1.toNat
 ((0 : Int), (0 : Int), (0 : Int),
 (0 : Int))).2.2.2)).1.2.2.2.2.2.2.1 ∧
 (ydo
 (g.1.1, g.1.2.1, (g.1.2.2.1.1, g.1.2.2.1.2),
 g.1.2.2.2.1, g.1.2.2.2.2.1, g.1.2.2.2.2.2.1,
 g.1.2.2.2.2.2.2.1, g.1.2.2.2.2.2.2.2.1,
 g.1.2.2.2.2.2.2.2.2)
 ((x.1.getD g.2.2.1.toNat
 ((0 : Int), (0 : Int), (0 : Int), (0 : Int))).1,
 (x.1.getD g.2.2.1.toNat
 ((0 : Int), (0 : Int), (0 : Int), (0 : Int))).2.1,
 (x.1.getD g.2.2.1.toNat
 ((0 : Int), (0 : Int), (0 : Int), (0 : Int))).2.2.1,
 (x.1.getD g.2.2.1.toNat
 ((0 : Int), (0 : Int), (0 : Int),
 (0 : Int))).2.2.2)).1.2.2.2.2.2.2.2.1 =
 (ydo
 (g.1.1, g.1.2.1, (g.1.2.2.1.1, g.1.2.2.1.2),
 g.1.2.2.2.1, g.1.2.2.2.2.1, g.1.2.2.2.2.2.1,
 g.1.2.2.2.2.2.2.1, g.1.2.2.2.2.2.2.2.1,
 g.1.2.2.2.2.2.2.2.2)
 ((x.1.getD g.2.2.1.toNat
 ((0 : Int), (0 : Int), (0 : Int), (0 : Int))).1,
 (x.1.getD g.2.2.1.toNat
 ((0 : Int), (0 : Int), (0 : Int), (0 : Int))).2.1,
 (x.1.getD g.2.2.1.toNat
 ((0 : Int), (0 : Int), (0 : Int), (0 : Int))).2.2.1,
 (x.1.getD g.2.2.1.toNat
 ((0 : Int), (0 : Int), (0 : Int),
 (0 : Int))).2.2.2)).1.2.2.2.2.2.2.2.1 ∧
 (ydo
 (g.1.1, g.1.2.1, (g.1.2.2.1.1, g.1.2.2.1.2),
 g.1.2.2.2.1, g.1.2.2.2.2.1,
 g.1.2.2.2.2.2.1, g.1.2.2.2.2.2.2.1,
 g.1.2.2.2.2.2.2.2.1, g.1.2.2.2.2.2.2.2.2)
 ((x.1.getD g.2.2.1.toNat
 ((0 : Int), (0 : Int), (0 : Int), (0 : Int))).1,
 (x.1.getD g.2.2.1.toNat
 ((0 : Int), (0 : Int), (0 : Int), (0 : Int))).2.1,
 (x.1.getD g.2.2.1.toNat
 ((0 : Int), (0 : Int), (0 : Int), (0 : Int))).2.2.1,
 (x.1.getD g.2.2.1.toNat
 ((0 : Int), (0 : Int), (0 : Int),
 (0 : Int))).2.2.2)).1.2.2.2.2.2.2.2.2 =
 (ydo
 (g.1.1, g.1.2.1, (g.1.2.2.1.1, g.1.2.2.1.2),
 g.1.2.2.2.1, g.1.2.2.2.2.1,
 g.1.2.2.2.2.2.1, g.1.2.2.2.2.2.2.1,
 g.1.2.2.2.2.2.2.2.1, g.1.2.2.2.2.2.2.2.2)
 ((x.1.getD g.2.2.1.toNat
 ((0 : Int), (0 : Int), (0 : Int), (0 : Int))).1,
 (x.1.getD g.2.2.1.toNat
 ((0 : Int), (0 : Int), (0 : Int), (0 : Int))).2.1,
 (x.1.getD g.2.2.1.toNat
 ((0 : Int), (0 : Int), (0 : Int), (0 : Int))).2.2.1,
 (x.1.getD g.2.2.1.toNat
 ((0 : Int), (0 : Int), (0 : Int),
 (0 : Int))).2.2.2)).1.2.2.2.2.2.2.2.2 ∧
 True) ∧
 g.2.1 ++
 (((0 : Int), ([] : List Int)) :: ([] : List (Int × List Int))).set (0 : Nat)
 ((ydo
 (g.1.1, g.1.2.1, (g.1.2.2.1.1, g.1.2.2.1.2), g.1.2.2.2.1,
 g.1.2.2.2.2.1, g.1.2.2.2.2.2.1, g.1.2.2.2.2.2.2.1,
 g.1.2.2.2.2.2.2.2.1, g.1.2.2.2.2.2.2.2.2)
 ((x.1.getD g.2.2.1.toNat ((0 : Int), (0 : Int), (0 : Int), (0 : Int))).1,
 (x.1.getD g.2.2.1.toNat ((0 : Int), (0 : Int), (0 : Int), (0 : Int))).2.1,
 (x.1.getD g.2.2.1.toNat ((0 : Int), (0 : Int), (0 : Int), (0 : Int))).2.2.1,
 (x.1.getD g.2.2.1.toNat ((0 : Int), (0 : Int), (0 : Int), (0 : Int))).2.2.2)).2.1,
 (ydo
 (g.1.1, g.1.2.1, (g.1.2.2.1.1, g.1.2.2.1.2), g.1.2.2.2.1,
 g.1.2.2.2.2.1, g.1.2.2.2.2.2.1, g.1.2.2.2.2.2.2.1,
 g.1.2.2.2.2.2.2.2.1, g.1.2.2.2.2.2.2.2.2)
 ((x.1.getD g.2.2.1.toNat ((0 : Int), (0 : Int), (0 : Int), (0 : Int))).1,
 (x.1.getD g.2.2.1.toNat ((0 : Int), (0 : Int), (0 : Int), (0 : Int))).2.1,
 (x.1.getD g.2.2.1.toNat ((0 : Int), (0 : Int), (0 : Int), (0 : Int))).2.2.1,
 (x.1.getD g.2.2.1.toNat ((0 : Int), (0 : Int), (0 : Int), (0 : Int))).2.2.2)).2.2) =
 g.2.1 ++
 (((0 : Int), ([] : List Int)) :: ([] : List (Int × List Int))).set (0 : Nat)
 ((ydo
 (g.1.1, g.1.2.1, (g.1.2.2.1.1, g.1.2.2.1.2), g.1.2.2.2.1,
 g.1.2.2.2.2.1, g.1.2.2.2.2.2.1, g.1.2.2.2.2.2.2.1,
 g.1.2.2.2.2.2.2.2.1, g.1.2.2.2.2.2.2.2.2)
 ((x.1.getD g.2.2.1.toNat ((0 : Int), (0 : Int), (0 : Int), (0 : Int))).1,
 (x.1.getD g.2.2.1.toNat ((0 : Int), (0 : Int), (0 : Int), (0 : Int))).2.1,
 (x.1.getD g.2.2.1.toNat ((0 : Int), (0 : Int), (0 : Int), (0 : Int))).2.2.1,
 (x.1.getD g.2.2.1.toNat ((0 : Int), (0 : Int), (0 : Int), (0 : Int))).2.2.2)).2.1,
 (ydo
 (g.1.1, g.1.2.1, (g.1.2.2.1.1, g.1.2.2.1.2), g.1.2.2.2.1,
 g.1.2.2.2.2.1, g.1.2.2.2.2.2.1, g.1.2.2.2.2.2.2.1,
 g.1.2.2.2.2.2.2.2.1, g.1.2.2.2.2.2.2.2.2)
 ((x.1.getD g.2.2.1.toNat ((0 : Int), (0 : Int), (0 : Int), (0 : Int))).1,
 (x.1.getD g.2.2.1.toNat ((0 : Int), (0 : Int), (0 : Int), (0 : Int))).2.1,
 (x.1.getD g.2.2.1.toNat ((0 : Int), (0 : Int), (0 : Int), (0 : Int))).2.2.1,
 (x.1.getD g.2.2.1.toNat ((0 : Int), (0 : Int), (0 : Int), (0 : Int))).2.2.2)).2.2) ∧
 (Value.slice none (0 : Nat) (0 : Nat) = Value.slice none (0 : Nat) (0 : Nat) ∧
 Value.slice none (0 : Nat) (0 : Nat) = Value.slice none (0 : Nat) (0 : Nat) ∧
 Value.slice none (0 : Nat) (0 : Nat) = Value.slice none (0 : Nat) (0 : Nat) ∧
 Value.slice none (0 : Nat) (0 : Nat) = Value.slice none (0 : Nat) (0 : Nat) ∧
 (0 : Int) = (0 : Int) ∧ (0 : Int) = (0 : Int) ∧ True) ∧
 True) ∧
 True) ∧
 (decide (g.2.2.1 < (↑x.1.length : Int)) = false →
 g.2.1 = (ypl x.1).2 ∧
 (g.1.1, g.1.2.1, (g.1.2.2.1.1, g.1.2.2.1.2), g.1.2.2.2.1, g.1.2.2.2.2.1) =
 yend (ypl x.1).1)

theorem E_yplay_eq (x : HL (cYPlay : Ctr).as) : vc (fx_yplay x) 1 5 Tryd.f5 (cYPlay) x = E_yplay x := by kernel_rfl

def E_samek (x : List (Int × List Int) × List (Int × List Int) × Unit) : Prop :=
 (((↑x.1.length : Int) != (↑x.2.1.length : Int)) = true → false = decide (x.1 = x.2.1)) ∧
 (((↑x.1.length : Int) != (↑x.2.1.length : Int)) = false →
 ((((0 : Int) ≤ (0 : Int) ∧
 0 ≤ (↑x.1.length : Int) ∧ List.take (Int.toNat (0 : Int)) x.1 = List.take (Int.toNat (0 : Int)) x.2.1) ∧
 True) ∧
 (x.1 = x.1 ∧ x.2.1 = x.2.1 ∧ (↑x.1.length : Int) = (↑x.1.length : Int) ∧ (0 : Int) = (0 : Int) ∧ True) ∧ True ∧ True) ∧
 ∀ (g : Int × Unit),
 0 ≤ g.1 ∧ g.1 ≤ (↑x.1.length : Int) ∧ List.take g.1.toNat x.1 = List.take g.1.toNat x.2.1 →
 (-9223372036854775808 ≤ g.1 ∧ g.1 ≤ 9223372036854775807) ∧ True →
 (decide (g.1 < (↑x.1.length : Int)) = true →
 (0 ≤ g.1 ∧ g.1 < (↑x.1.length : Int)) ∧
 (0 ≤ g.1 ∧ g.1 < (↑x.2.1.length : Int)) ∧
 (((x.1.getD g.1.toNat ((0 : Int), ([] : List Int))).1 != (x.2.1.getD g.1.toNat ((0 : Int), ([] : List Int))).1) =
 false →
 (0 ≤ g.1 ∧ g.1 < (↑x.1.length : Int)) ∧
 (0 ≤ g.1 ∧ g.1 < (↑x.2.1.length : Int)) ∧
 ((!decide
 ((x.1.getD g.1.toNat ((0 : Int), ([] : List Int))).2 =
 (x.2.1.getD g.1.toNat ((0 : Int), ([] : List Int))).2)) =
 true →
 false = decide (x.1 = x.2.1)) ∧
 ((!decide
 ((x.1.getD g.1.toNat ((0 : Int), ([] : List Int))).2 =
 (x.2.1.getD g.1.toNat ((0 : Int), ([] : List Int))).2)) =
 false →
 (-9223372036854775808 ≤ g.1 + 1 ∧ g.1 + 1 ≤ (9223372036854775807 : Int)) ∧
 ((0 ≤ g.1 + 1 ∧
 g.1 + 1 ≤ (↑x.1.length : Int) ∧
 List.take (g.1 + 1).toNat x.1 = List.take (g.1 + 1).toNat x.2.1) ∧
 ((↑x.1.length : Int) - (g.1 + 1)).toNat < ((↑x.1.length : Int) - g.1).toNat) ∧
 (x.1 = x.1 ∧
 x.2.1 = x.2.1 ∧
 (↑x.1.length : Int) = (↑x.1.length : Int) ∧ g.1 + 1 = g.1 + 1 ∧ True) ∧
 True ∧ True)) ∧
 (((x.1.getD g.1.toNat ((0 : Int), ([] : List Int))).1 != (x.2.1.getD g.1.toNat ((0 : Int), ([] : List Int))).1) =
 !false →
 false = decide (x.1 = x.2.1))) ∧
 (decide (g.1 < (↑x.1.length : Int)) = false → true = decide (x.1 = x.2.1)))

theorem E_samek_eq (x : HL (cSameK : Ctr).as) : vc (fx_samek x) 1 6 Tryd.f6 (cSameK) x = E_samek x := by kernel_rfl

def E_samew (x : (List Int × List Int × (List (List Int) × List Int) × Int × Int) × (List Int × List Int × (List (List Int) × List Int) × Int × Int) × Unit) : Prop :=
 (decide (x.1.1 = x.2.1.1) = true → decide (x.1.1 = x.2.1.1) = true) ∧
 (decide (x.1.1 = x.2.1.1) = true → decide (x.1.1 = x.2.1.1) = true) ∧
 (decide (x.1.1 = x.2.1.1) = true → decide (x.1.1 = x.2.1.1) = true) ∧
 (decide (x.1.1 = x.2.1.1) = true → decide (x.1.1 = x.2.1.1) = true) ∧
 (decide (x.1.1 = x.2.1.1) = true → decide (x.1.1 = x.2.1.1) = true ∧ decide (x.1.1 = x.2.1.1) = true) ∧
 (decide (x.1.1 = x.2.1.1) = true → decide (x.1.1 = x.2.1.1) = true) ∧
 ((decide (x.1.1 = x.2.1.1) && decide (x.1.2.1 = x.2.1.2.1)) = true →
 (decide (x.1.1 = x.2.1.1) && decide (x.1.2.1 = x.2.1.2.1)) = true ∧
 Holds True ∧
 (decide ((x.1.2.2.1.1, x.1.2.2.1.2) = (x.2.1.2.2.1.1, x.2.1.2.2.1.2)) = true →
 decide ((x.1.2.2.1.1, x.1.2.2.1.2) = (x.2.1.2.2.1.1, x.2.1.2.2.1.2)) = true) ∧
 (decide ((x.1.2.2.1.1, x.1.2.2.1.2) = (x.2.1.2.2.1.1, x.2.1.2.2.1.2)) = true →
 decide ((x.1.2.2.1.1, x.1.2.2.1.2) = (x.2.1.2.2.1.1, x.2.1.2.2.1.2)) = true) ∧
 (decide ((x.1.2.2.1.1, x.1.2.2.1.2) = (x.2.1.2.2.1.1, x.2.1.2.2.1.2)) = true →
 decide ((x.1.2.2.1.1, x.1.2.2.1.2) = (x.2.1.2.2.1.1, x.2.1.2.2.1.2)) = true ∧
 decide ((x.1.2.2.1.1, x.1.2.2.1.2) = (x.2.1.2.2.1.1, x.2.1.2.2.1.2)) =
 true) ∧
 (decide ((x.1.2.2.1.1, x.1.2.2.1.2) = (x.2.1.2.2.1.1, x.2.1.2.2.1.2)) = true →
 decide ((x.1.2.2.1.1, x.1.2.2.1.2) = (x.2.1.2.2.1.1, x.2.1.2.2.1.2)) =
 true) ∧
 ((decide ((x.1.2.2.1.1, x.1.2.2.1.2) = (x.2.1.2.2.1.1, x.2.1.2.2.1.2)) &&
 x.1.2.2.2.1 == x.2.1.2.2.2.1) =
 true →
 (decide ((x.1.2.2.1.1, x.1.2.2.1.2) = (x.2.1.2.2.1.1, x.2.1.2.2.1.2)) &&
 x.1.2.2.2.1 == x.2.1.2.2.2.1) =
 true) ∧
 ((decide ((x.1.2.2.1.1, x.1.2.2.1.2) = (x.2.1.2.2.1.1, x.2.1.2.2.1.2)) &&
 x.1.2.2.2.1 == x.2.1.2.2.2.1) =
 true →
 (decide ((x.1.2.2.1.1, x.1.2.2.1.2) = (x.2.1.2.2.1.1, x.2.1.2.2.1.2)) &&
 x.1.2.2.2.1 == x.2.1.2.2.2.1) =
 true) ∧
 ((decide ((x.1.2.2.1.1, x.1.2.2.1.2) = (x.2.1.2.2.1.1, x.2.1.2.2.1.2)) &&
 x.1.2.2.2.1 == x.2.1.2.2.2.1) =
 true →
 (decide
 ((x.1.2.2.1.1, x.1.2.2.1.2) =
 (x.2.1.2.2.1.1, x.2.1.2.2.1.2)) &&
 x.1.2.2.2.1 == x.2.1.2.2.2.1) =
 true ∧
 (decide
 ((x.1.2.2.1.1, x.1.2.2.1.2) =
 (x.2.1.2.2.1.1, x.2.1.2.2.1.2)) &&
 x.1.2.2.2.1 == x.2.1.2.2.2.1) =
 true) ∧
 ((decide
 ((x.1.2.2.1.1, x.1.2.2.1.2) =
 (x.2.1.2.2.1.1, x.2.1.2.2.1.2)) &&
 x.1.2.2.2.1 == x.2.1.2.2.2.1) =
 true →
 (decide
 ((x.1.2.2.1.1, x.1.2.2.1.2) =
 (x.2.1.2.2.1.1, x.2.1.2.2.1.2)) &&
 x.1.2.2.2.1 == x.2.1.2.2.2.1) =
 true) ∧
 (decide
 ((x.1.2.2.1.1, x.1.2.2.1.2) =
 (x.2.1.2.2.1.1, x.2.1.2.2.1.2)) &&
 x.1.2.2.2.1 == x.2.1.2.2.2.1 &&
 x.1.2.2.2.2 == x.2.1.2.2.2.2) =
 decide (x.1 = x.2.1)) ∧
 ((decide (x.1.1 = x.2.1.1) && decide (x.1.2.1 = x.2.1.2.1)) = !true → false = decide (x.1 = x.2.1))

theorem E_samew_eq (x : HL (cSameW : Ctr).as) : vc (fx_samew x) 1 7 Tryd.f7 (cSameW) x = E_samew x := by kernel_rfl

end Go.Proofs.YtppgbcmeagbalaaDoor.Kern
