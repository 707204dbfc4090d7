/-
  The conditions that the executor comes to, written out (by a tool of ours), and that they are the conditions (by the kernel).
-/
import Derived.Test.YtollphjlheabdaaNestC
namespace Go.Proofs.Ytollphjlheabdaa.Nest
open Go.Sx
set_option maxRecDepth 100000

def E_clone (x : List (Bool × Bool) × Unit) : Prop :=
 ∀ (b : Bool),
 (b = true → x.fst = ([] : List (Bool × Bool))) →
 (b = true → ([] : List (Bool × Bool)) = x.fst) ∧
 (b = false →
 (([] : List (Bool × Bool)).length + x.fst.length ≤ (9223372036854775807 : Nat) ∧
 (([] : List (Bool × Bool)).length + x.fst.length) * (2 : Nat) ≤ (140737488355328 : Nat)) ∧
 ([] : List (Bool × Bool)) ++ x.fst = x.fst)

theorem E_clone_eq (x : HL (cClone : Ctr).as) : vc (fx_clone x) 1 80 Try.f80 (cClone) x = E_clone x := by kernel_rfl

def E_right (x : (Bool × List (Bool × Bool)) × Unit) : Prop :=
 (decide ((400 : Int) < (↑x.fst.snd.length : Int)) = true → false = right x.fst) ∧
 (decide ((400 : Int) < (↑x.fst.snd.length : Int)) = false →
 ((((0 : Int) ≤ (0 : Int) ∧ (0 : Int) ≤ (↑x.fst.snd.length : Int) ∧ true = decide ((0 : Int) = (0 : Int)) ∧ okF x.fst.snd (0 : Int)) ∧ True) ∧
 ((True ∧ True) ∧ true = true ∧ x.fst.snd = x.fst.snd ∧ (↑x.fst.snd.length : Int) = (↑x.fst.snd.length : Int) ∧ (0 : Int) = (0 : Int) ∧ True) ∧
 ((x.fst.fst = x.fst.fst ∧ x.fst.snd = x.fst.snd ∧ True) ∧ True) ∧ True) ∧
 ∀ (g : Bool × Int × Unit),
 (0 : Int) ≤ g.snd.fst ∧ g.snd.fst ≤ (↑x.fst.snd.length : Int) ∧ g.fst = decide (g.snd.fst = (0 : Int)) ∧ okF x.fst.snd g.snd.fst →
 True ∧ ((-9223372036854775808 : Int) ≤ g.snd.fst ∧ g.snd.fst ≤ (9223372036854775807 : Int)) ∧ True →
 (decide (g.snd.fst < (↑x.fst.snd.length : Int)) = true →
 ((0 : Int) ≤ g.snd.fst ∧ g.snd.fst < (↑x.fst.snd.length : Int)) ∧
 ((x.fst.snd.getD g.snd.fst.toNat (false, false)).fst = true → (x.fst.snd.getD g.snd.fst.toNat (false, false)).fst = true) ∧
 ((x.fst.snd.getD g.snd.fst.toNat (false, false)).fst = true → (x.fst.snd.getD g.snd.fst.toNat (false, false)).fst = true) ∧
 ((!((x.fst.snd.getD g.snd.fst.toNat (false, false)).fst && !g.fst)) = true →
 (!((x.fst.snd.getD g.snd.fst.toNat (false, false)).fst && !g.fst)) = true) ∧
 ((!((x.fst.snd.getD g.snd.fst.toNat (false, false)).fst && !g.fst)) = true →
 (!((x.fst.snd.getD g.snd.fst.toNat (false, false)).fst && !g.fst)) = true) ∧
 ((!((x.fst.snd.getD g.snd.fst.toNat (false, false)).fst && !g.fst) && (x.fst.snd.getD g.snd.fst.toNat (false, false)).snd) =
 true →
 (!((x.fst.snd.getD g.snd.fst.toNat (false, false)).fst && !g.fst) &&
 (x.fst.snd.getD g.snd.fst.toNat (false, false)).snd) =
 true) ∧
 ((!((x.fst.snd.getD g.snd.fst.toNat (false, false)).fst && !g.fst) &&
 (x.fst.snd.getD g.snd.fst.toNat (false, false)).snd) =
 true →
 (!((x.fst.snd.getD g.snd.fst.toNat (false, false)).fst && !g.fst) &&
 (x.fst.snd.getD g.snd.fst.toNat (false, false)).snd) =
 true) ∧
 ((!((x.fst.snd.getD g.snd.fst.toNat (false, false)).fst && !g.fst)) = true →
 (!((x.fst.snd.getD g.snd.fst.toNat (false, false)).fst && !g.fst)) = true ∧
 ((x.fst.snd.getD g.snd.fst.toNat (false, false)).snd = true →
 (!((x.fst.snd.getD g.snd.fst.toNat (false, false)).fst && !g.fst) &&
 (x.fst.snd.getD g.snd.fst.toNat (false, false)).snd) =
 true)) ∧
 (((x.fst.snd.getD g.snd.fst.toNat (false, false)).fst && !g.fst) = false →
 (!((x.fst.snd.getD g.snd.fst.toNat (false, false)).fst && !g.fst)) = true) ∧
 (((x.fst.snd.getD g.snd.fst.toNat (false, false)).fst && !g.fst ||
 (x.fst.snd.getD g.snd.fst.toNat (false, false)).snd &&
 !(x.fst.snd.getD g.snd.fst.toNat (false, false)).fst) =
 true →
 false = right x.fst) ∧
 (((x.fst.snd.getD g.snd.fst.toNat (false, false)).fst && !g.fst ||
 (x.fst.snd.getD g.snd.fst.toNat (false, false)).snd &&
 !(x.fst.snd.getD g.snd.fst.toNat (false, false)).fst) =
 false →
 ((-9223372036854775808 : Int) ≤ g.snd.fst + (1 : Int) ∧ g.snd.fst + (1 : Int) ≤ (9223372036854775807 : Int)) ∧
 (((0 : Int) ≤ g.snd.fst + (1 : Int) ∧
 g.snd.fst + (1 : Int) ≤ (↑x.fst.snd.length : Int) ∧
 false = decide (g.snd.fst + (1 : Int) = (0 : Int)) ∧ okF x.fst.snd (g.snd.fst + (1 : Int))) ∧
 ((↑x.fst.snd.length : Int) - (g.snd.fst + (1 : Int))).toNat <
 ((↑x.fst.snd.length : Int) - g.snd.fst).toNat) ∧
 ((True ∧ True) ∧
 false = false ∧
 x.fst.snd = x.fst.snd ∧
 (↑x.fst.snd.length : Int) = (↑x.fst.snd.length : Int) ∧
 g.snd.fst + (1 : Int) = g.snd.fst + (1 : Int) ∧ True) ∧
 ((x.fst.fst = x.fst.fst ∧ x.fst.snd = x.fst.snd ∧ True) ∧ True) ∧ True)) ∧
 (decide (g.snd.fst < (↑x.fst.snd.length : Int)) = false →
 ((!x.fst.fst) = false → (!!x.fst.fst) = true) ∧ (!x.fst.fst || g.fst) = right x.fst))

theorem E_right_eq (x : HL (cRight : Ctr).as) : vc (fx_right x) 1 60 Try.f60 (cRight) x = E_right x := by kernel_rfl

def E_gright (x : (Bool × List (Bool × Bool)) × Unit) : Prop :=
 ((!decide ((400 : Int) < (↑x.fst.snd.length : Int))) = true → (!decide ((400 : Int) < (↑x.fst.snd.length : Int))) = true) ∧
 ((!decide ((400 : Int) < (↑x.fst.snd.length : Int))) = true → (!decide ((400 : Int) < (↑x.fst.snd.length : Int))) = true) ∧
 ((!decide ((400 : Int) < (↑x.fst.snd.length : Int)) && x.fst.fst) = true →
 (!decide ((400 : Int) < (↑x.fst.snd.length : Int)) && x.fst.fst) = true) ∧
 ((!decide ((400 : Int) < (↑x.fst.snd.length : Int)) && x.fst.fst) = true →
 (!decide ((400 : Int) < (↑x.fst.snd.length : Int)) && x.fst.fst) = true) ∧
 ((!decide ((400 : Int) < (↑x.fst.snd.length : Int)) && x.fst.fst) = true →
 (!decide ((400 : Int) < (↑x.fst.snd.length : Int)) && x.fst.fst) = true) ∧
 ((!decide ((400 : Int) < (↑x.fst.snd.length : Int))) = true →
 (!decide ((400 : Int) < (↑x.fst.snd.length : Int))) = true ∧
 (x.fst.fst = true → (!decide ((400 : Int) < (↑x.fst.snd.length : Int)) && x.fst.fst) = true)) ∧
 (decide ((400 : Int) < (↑x.fst.snd.length : Int)) = false → (!decide ((400 : Int) < (↑x.fst.snd.length : Int))) = true) ∧
 ((decide ((400 : Int) < (↑x.fst.snd.length : Int)) || x.fst.fst && decide ((0 : Int) < (↑x.fst.snd.length : Int))) = true →
 false = right x.fst) ∧
 ((decide ((400 : Int) < (↑x.fst.snd.length : Int)) || x.fst.fst && decide ((0 : Int) < (↑x.fst.snd.length : Int))) = false →
 ((((0 : Int) ≤ (0 : Int) ∧ (0 : Int) ≤ (↑x.fst.snd.length : Int) ∧ okF x.fst.snd (0 : Int)) ∧ True) ∧
 (x.fst.snd = x.fst.snd ∧ (↑x.fst.snd.length : Int) = (↑x.fst.snd.length : Int) ∧ (0 : Int) = (0 : Int) ∧ True) ∧ True ∧ True) ∧
 ∀ (g : Int × Unit),
 (0 : Int) ≤ g.fst ∧ g.fst ≤ (↑x.fst.snd.length : Int) ∧ okF x.fst.snd g.fst →
 ((-9223372036854775808 : Int) ≤ g.fst ∧ g.fst ≤ (9223372036854775807 : Int)) ∧ True →
 (decide (g.fst < (↑x.fst.snd.length : Int)) = true →
 ((0 : Int) ≤ g.fst ∧ g.fst < (↑x.fst.snd.length : Int)) ∧
 (decide ((0 : Int) < g.fst) = true → decide ((0 : Int) < g.fst) = true) ∧
 (decide ((0 : Int) < g.fst) = true → decide ((0 : Int) < g.fst) = true) ∧
 ((decide ((0 : Int) < g.fst) && !(x.fst.snd.getD g.fst.toNat (false, false)).fst) = true →
 (decide ((0 : Int) < g.fst) && !(x.fst.snd.getD g.fst.toNat (false, false)).fst) = true) ∧
 (decide ((0 : Int) < g.fst) = true →
 decide ((0 : Int) < g.fst) = true ∧
 ((x.fst.snd.getD g.fst.toNat (false, false)).fst = false →
 (decide ((0 : Int) < g.fst) && !(x.fst.snd.getD g.fst.toNat (false, false)).fst) = true)) ∧
 (decide ((0 : Int) < g.fst) = true → decide ((0 : Int) < g.fst) = true) ∧
 ((!(decide ((0 : Int) < g.fst) &&
 ((x.fst.snd.getD g.fst.toNat (false, false)).fst ||
 (x.fst.snd.getD g.fst.toNat (false, false)).snd))) =
 true →
 (!(decide ((0 : Int) < g.fst) &&
 ((x.fst.snd.getD g.fst.toNat (false, false)).fst ||
 (x.fst.snd.getD g.fst.toNat (false, false)).snd))) =
 true) ∧
 ((!(decide ((0 : Int) < g.fst) &&
 ((x.fst.snd.getD g.fst.toNat (false, false)).fst ||
 (x.fst.snd.getD g.fst.toNat (false, false)).snd))) =
 true →
 (!(decide ((0 : Int) < g.fst) &&
 ((x.fst.snd.getD g.fst.toNat (false, false)).fst ||
 (x.fst.snd.getD g.fst.toNat (false, false)).snd))) =
 true) ∧
 ((!(decide ((0 : Int) < g.fst) &&
 ((x.fst.snd.getD g.fst.toNat (false, false)).fst ||
 (x.fst.snd.getD g.fst.toNat (false, false)).snd)) &&
 (x.fst.snd.getD g.fst.toNat (false, false)).snd) =
 true →
 (!(decide ((0 : Int) < g.fst) &&
 ((x.fst.snd.getD g.fst.toNat (false, false)).fst ||
 (x.fst.snd.getD g.fst.toNat (false, false)).snd)) &&
 (x.fst.snd.getD g.fst.toNat (false, false)).snd) =
 true) ∧
 ((!(decide ((0 : Int) < g.fst) &&
 ((x.fst.snd.getD g.fst.toNat (false, false)).fst ||
 (x.fst.snd.getD g.fst.toNat (false, false)).snd)) &&
 (x.fst.snd.getD g.fst.toNat (false, false)).snd) =
 true →
 (!(decide ((0 : Int) < g.fst) &&
 ((x.fst.snd.getD g.fst.toNat (false, false)).fst ||
 (x.fst.snd.getD g.fst.toNat (false, false)).snd)) &&
 (x.fst.snd.getD g.fst.toNat (false, false)).snd) =
 true) ∧
 ((!(decide ((0 : Int) < g.fst) &&
 ((x.fst.snd.getD g.fst.toNat (false, false)).fst ||
 (x.fst.snd.getD g.fst.toNat (false, false)).snd))) =
 true →
 (!(decide ((0 : Int) < g.fst) &&
 ((x.fst.snd.getD g.fst.toNat (false, false)).fst ||
 (x.fst.snd.getD g.fst.toNat (false, false)).snd))) =
 true ∧
 ((x.fst.snd.getD g.fst.toNat (false, false)).snd = true →
 (!(decide ((0 : Int) < g.fst) &&
 ((x.fst.snd.getD g.fst.toNat (false, false)).fst ||
 (x.fst.snd.getD g.fst.toNat (false, false)).snd)) &&
 (x.fst.snd.getD g.fst.toNat (false, false)).snd) =
 true)) ∧
 ((decide ((0 : Int) < g.fst) &&
 ((x.fst.snd.getD g.fst.toNat (false, false)).fst ||
 (x.fst.snd.getD g.fst.toNat (false, false)).snd)) =
 false →
 (!(decide ((0 : Int) < g.fst) &&
 ((x.fst.snd.getD g.fst.toNat (false, false)).fst ||
 (x.fst.snd.getD g.fst.toNat (false, false)).snd))) =
 true) ∧
 ((decide ((0 : Int) < g.fst) &&
 ((x.fst.snd.getD g.fst.toNat (false, false)).fst ||
 (x.fst.snd.getD g.fst.toNat (false, false)).snd) ||
 (x.fst.snd.getD g.fst.toNat (false, false)).snd &&
 !(x.fst.snd.getD g.fst.toNat (false, false)).fst) =
 true →
 false = right x.fst) ∧
 ((decide ((0 : Int) < g.fst) &&
 ((x.fst.snd.getD g.fst.toNat (false, false)).fst ||
 (x.fst.snd.getD g.fst.toNat (false, false)).snd) ||
 (x.fst.snd.getD g.fst.toNat (false, false)).snd &&
 !(x.fst.snd.getD g.fst.toNat (false, false)).fst) =
 false →
 ((-9223372036854775808 : Int) ≤ g.fst + (1 : Int) ∧
 g.fst + (1 : Int) ≤ (9223372036854775807 : Int)) ∧
 (((0 : Int) ≤ g.fst + (1 : Int) ∧
 g.fst + (1 : Int) ≤ (↑x.fst.snd.length : Int) ∧ okF x.fst.snd (g.fst + (1 : Int))) ∧
 ((↑x.fst.snd.length : Int) - (g.fst + (1 : Int))).toNat <
 ((↑x.fst.snd.length : Int) - g.fst).toNat) ∧
 (x.fst.snd = x.fst.snd ∧
 (↑x.fst.snd.length : Int) = (↑x.fst.snd.length : Int) ∧
 g.fst + (1 : Int) = g.fst + (1 : Int) ∧ True) ∧
 True ∧ True)) ∧
 (decide (g.fst < (↑x.fst.snd.length : Int)) = false → true = right x.fst))

theorem E_gright_eq (x : HL (cRight : Ctr).as) : vc (fx_gright x) 1 61 Try.f61 (cRight) x = E_gright x := by kernel_rfl

def E_step (x : (Bool × List (Bool × Bool)) × Int × Unit) : Prop :=
 Holds True ∧
 ((!right (x.fst.fst, x.fst.snd)) = true →
 (false, ([] : List (Bool × Bool))) = (step x.fst x.snd.fst).fst ∧ (1 : Int) = (step x.fst x.snd.fst).snd.fst) ∧
 ((!right (x.fst.fst, x.fst.snd)) = false →
 ((!decide (x.snd.fst < (1 : Int))) = true → (!decide (x.snd.fst < (1 : Int))) = true) ∧
 (decide (x.snd.fst < (1 : Int)) = false → (!decide (x.snd.fst < (1 : Int))) = true) ∧
 ((decide (x.snd.fst < (1 : Int)) || decide ((4 : Int) < x.snd.fst)) = true →
 (false, ([] : List (Bool × Bool))) = (step x.fst x.snd.fst).fst ∧ (5 : Int) = (step x.fst x.snd.fst).snd.fst) ∧
 ((decide (x.snd.fst < (1 : Int)) || decide ((4 : Int) < x.snd.fst)) = false →
 ((!x.snd.fst == (1 : Int)) = true → (!x.snd.fst == (1 : Int)) = true) ∧
 ((x.snd.fst == (1 : Int)) = false → (!x.snd.fst == (1 : Int)) = true) ∧
 ((x.snd.fst == (1 : Int) || x.snd.fst == (3 : Int)) = true → (x.snd.fst == (1 : Int) || x.snd.fst == (3 : Int)) = true) ∧
 ((x.snd.fst == (1 : Int) || x.snd.fst == (3 : Int)) = true → (x.snd.fst == (1 : Int) || x.snd.fst == (3 : Int)) = true) ∧
 (((x.snd.fst == (1 : Int) || x.snd.fst == (3 : Int)) && (↑x.fst.snd.length : Int) == (400 : Int)) = true →
 (false, ([] : List (Bool × Bool))) = (step x.fst x.snd.fst).fst ∧ (4 : Int) = (step x.fst x.snd.fst).snd.fst) ∧
 (((x.snd.fst == (1 : Int) || x.snd.fst == (3 : Int)) && (↑x.fst.snd.length : Int) == (400 : Int)) = false →
 ((x.snd.fst == (3 : Int)) = true → (x.snd.fst == (3 : Int)) = true) ∧
 ((x.snd.fst == (3 : Int)) = true → (x.snd.fst == (3 : Int)) = true) ∧
 ((x.snd.fst == (3 : Int)) = true → (x.snd.fst == (3 : Int)) = true) ∧
 ((x.snd.fst == (3 : Int) && !x.fst.fst) = true →
 (false, ([] : List (Bool × Bool))) = (step x.fst x.snd.fst).fst ∧ (7 : Int) = (step x.fst x.snd.fst).snd.fst) ∧
 ((x.snd.fst == (3 : Int) && !x.fst.fst) = false →
 ((!x.snd.fst == (2 : Int)) = true → (!x.snd.fst == (2 : Int)) = true) ∧
 ((x.snd.fst == (2 : Int)) = false → (!x.snd.fst == (2 : Int)) = true) ∧
 ((x.snd.fst == (2 : Int) || x.snd.fst == (4 : Int)) = true →
 (x.snd.fst == (2 : Int) || x.snd.fst == (4 : Int)) = true) ∧
 ((x.snd.fst == (2 : Int) || x.snd.fst == (4 : Int)) = true →
 (x.snd.fst == (2 : Int) || x.snd.fst == (4 : Int)) = true) ∧
 (((x.snd.fst == (2 : Int) || x.snd.fst == (4 : Int)) && (↑x.fst.snd.length : Int) == (0 : Int)) = true →
 (false, ([] : List (Bool × Bool))) = (step x.fst x.snd.fst).fst ∧
 (3 : Int) = (step x.fst x.snd.fst).snd.fst) ∧
 (((x.snd.fst == (2 : Int) || x.snd.fst == (4 : Int)) && (↑x.fst.snd.length : Int) == (0 : Int)) =
 false →
 ((!x.snd.fst == (2 : Int)) = true → (!x.snd.fst == (2 : Int)) = true) ∧
 ((x.snd.fst == (2 : Int)) = false → (!x.snd.fst == (2 : Int)) = true) ∧
 ((x.snd.fst == (2 : Int) || x.snd.fst == (4 : Int)) = true →
 (x.snd.fst == (2 : Int) || x.snd.fst == (4 : Int)) = true) ∧
 ((x.snd.fst == (2 : Int) || x.snd.fst == (4 : Int)) = true →
 (x.snd.fst == (2 : Int) || x.snd.fst == (4 : Int)) = true ∧
 (-9223372036854775808 : Int) ≤ (↑x.fst.snd.length : Int) - (1 : Int) ∧
 (↑x.fst.snd.length : Int) - (1 : Int) ≤ (9223372036854775807 : Int)) ∧
 ((x.snd.fst == (2 : Int) || x.snd.fst == (4 : Int)) = true →
 ((x.snd.fst == (2 : Int) || x.snd.fst == (4 : Int)) = true ∧
 (x.snd.fst == (2 : Int) || x.snd.fst == (4 : Int)) = true) ∧
 (0 : Int) ≤ (↑x.fst.snd.length : Int) - (1 : Int) ∧
 (↑x.fst.snd.length : Int) - (1 : Int) < (↑x.fst.snd.length : Int)) ∧
 ((x.snd.fst == (2 : Int) || x.snd.fst == (4 : Int)) = true →
 (x.snd.fst == (2 : Int) || x.snd.fst == (4 : Int)) = true) ∧
 ((x.snd.fst == (2 : Int) || x.snd.fst == (4 : Int)) = true →
 (x.snd.fst == (2 : Int) || x.snd.fst == (4 : Int)) = true) ∧
 ((x.snd.fst == (2 : Int) || x.snd.fst == (4 : Int)) = true →
 (x.snd.fst == (2 : Int) || x.snd.fst == (4 : Int)) = true) ∧
 ((x.snd.fst == (2 : Int) || x.snd.fst == (4 : Int)) = true →
 (x.snd.fst == (2 : Int) || x.snd.fst == (4 : Int)) = true ∧
 (x.snd.fst == (2 : Int) || x.snd.fst == (4 : Int)) = true) ∧
 ((x.snd.fst == (2 : Int) || x.snd.fst == (4 : Int)) = true →
 (x.snd.fst == (2 : Int) || x.snd.fst == (4 : Int)) = true) ∧
 (((x.snd.fst == (2 : Int) || x.snd.fst == (4 : Int)) &&
 (x.fst.snd.getD ((↑x.fst.snd.length : Int) - (1 : Int)).toNat
 (false, false)).snd !=
 (x.snd.fst == (4 : Int))) =
 true →
 (false, ([] : List (Bool × Bool))) = (step x.fst x.snd.fst).fst ∧
 (8 : Int) = (step x.fst x.snd.fst).snd.fst) ∧
 (((x.snd.fst == (2 : Int) || x.snd.fst == (4 : Int)) &&
 (x.fst.snd.getD ((↑x.fst.snd.length : Int) - (1 : Int)).toNat
 (false, false)).snd !=
 (x.snd.fst == (4 : Int))) =
 false →
 ((!x.snd.fst == (1 : Int)) = true → (!x.snd.fst == (1 : Int)) = true) ∧
 ((x.snd.fst == (1 : Int)) = false → (!x.snd.fst == (1 : Int)) = true) ∧
 ((x.snd.fst == (1 : Int) || x.snd.fst == (3 : Int)) = true →
 Holds (x.fst.snd.length * (2 : Nat) ≤ (140737488355328 : Nat)) ∧
 (x.fst.snd.length +
 (((false, false) :: ([] : List (Bool × Bool))).set (0 : Nat)
 (x.fst.fst, x.snd.fst == (3 : Int))).length ≤
 (9223372036854775807 : Nat) ∧
 (x.fst.snd.length +
 (((false, false) :: ([] : List (Bool × Bool))).set
 (0 : Nat)
 (x.fst.fst, x.snd.fst == (3 : Int))).length) *
 (2 : Nat) ≤
 (140737488355328 : Nat)) ∧
 (false,
 x.fst.snd ++
 ((false, false) :: ([] : List (Bool × Bool))).set
 (0 : Nat) (x.fst.fst, x.snd.fst == (3 : Int))) =
 (step x.fst x.snd.fst).fst ∧
 (0 : Int) = (step x.fst x.snd.fst).snd.fst) ∧
 ((x.snd.fst == (1 : Int) || x.snd.fst == (3 : Int)) = false →
 ((-9223372036854775808 : Int) ≤
 (↑x.fst.snd.length : Int) - (1 : Int) ∧
 (↑x.fst.snd.length : Int) - (1 : Int) ≤
 (9223372036854775807 : Int)) ∧
 ((0 : Int) ≤ (↑x.fst.snd.length : Int) - (1 : Int) ∧
 (↑x.fst.snd.length : Int) - (1 : Int) <
 (↑x.fst.snd.length : Int)) ∧
 ((-9223372036854775808 : Int) ≤
 (↑x.fst.snd.length : Int) - (1 : Int) ∧
 (↑x.fst.snd.length : Int) - (1 : Int) ≤
 (9223372036854775807 : Int)) ∧
 (((0 : Int) ≤ (0 : Int) ∧
 (0 : Int) ≤ (↑x.fst.snd.length : Int) - (1 : Int)) ∧
 (↑x.fst.snd.length : Int) - (1 : Int) ≤
 (↑x.fst.snd.length : Int)) ∧
 Holds
 ((List.drop (Int.toNat (0 : Int))
 (List.take
 ((↑x.fst.snd.length : Int) - (1 : Int)).toNat
 x.fst.snd)).length *
 (2 : Nat) ≤
 (140737488355328 : Nat)) ∧
 ((x.fst.snd.getD
 ((↑x.fst.snd.length : Int) - (1 : Int)).toNat
 (false, false)).fst,
 List.drop (Int.toNat (0 : Int))
 (List.take
 ((↑x.fst.snd.length : Int) - (1 : Int)).toNat
 x.fst.snd)) =
 (step x.fst x.snd.fst).fst ∧
 (0 : Int) = (step x.fst x.snd.fst).snd.fst)))))))

theorem E_step_eq (x : HL (cStep : Ctr).as) : vc (fx_step x) 1 56 Try.f56 (cStep) x = E_step x := by kernel_rfl

def E_gstep (x : (Bool × List (Bool × Bool)) × Int × Unit) : Prop :=
 ((!x.snd.fst == (1 : Int)) = true → (!x.snd.fst == (1 : Int)) = true) ∧
 ((x.snd.fst == (1 : Int)) = false → (!x.snd.fst == (1 : Int)) = true) ∧
 Holds True ∧
 ((!right (x.fst.fst, x.fst.snd)) = true →
 (false, ([] : List (Bool × Bool))) = (step x.fst x.snd.fst).fst ∧ (1 : Int) = (step x.fst x.snd.fst).snd.fst) ∧
 ((!right (x.fst.fst, x.fst.snd)) = false →
 ((!decide (x.snd.fst < (1 : Int))) = true → (!decide (x.snd.fst < (1 : Int))) = true) ∧
 (decide (x.snd.fst < (1 : Int)) = false → (!decide (x.snd.fst < (1 : Int))) = true) ∧
 ((decide (x.snd.fst < (1 : Int)) || decide ((4 : Int) < x.snd.fst)) = true →
 (false, ([] : List (Bool × Bool))) = (step x.fst x.snd.fst).fst ∧ (5 : Int) = (step x.fst x.snd.fst).snd.fst) ∧
 ((decide (x.snd.fst < (1 : Int)) || decide ((4 : Int) < x.snd.fst)) = false →
 ((x.snd.fst == (1 : Int) || x.snd.fst == (3 : Int)) = true → (x.snd.fst == (1 : Int) || x.snd.fst == (3 : Int)) = true) ∧
 ((x.snd.fst == (1 : Int) || x.snd.fst == (3 : Int)) = true → (x.snd.fst == (1 : Int) || x.snd.fst == (3 : Int)) = true) ∧
 (((x.snd.fst == (1 : Int) || x.snd.fst == (3 : Int)) && decide ((400 : Int) ≤ (↑x.fst.snd.length : Int))) = true →
 (false, ([] : List (Bool × Bool))) = (step x.fst x.snd.fst).fst ∧ (4 : Int) = (step x.fst x.snd.fst).snd.fst) ∧
 (((x.snd.fst == (1 : Int) || x.snd.fst == (3 : Int)) && decide ((400 : Int) ≤ (↑x.fst.snd.length : Int))) = false →
 ((x.snd.fst == (3 : Int)) = true → (x.snd.fst == (3 : Int)) = true) ∧
 ((x.snd.fst == (3 : Int)) = true → (x.snd.fst == (3 : Int)) = true) ∧
 ((x.snd.fst == (3 : Int)) = true → (x.snd.fst == (3 : Int)) = true) ∧
 ((x.snd.fst == (3 : Int) && !x.fst.fst) = true →
 (false, ([] : List (Bool × Bool))) = (step x.fst x.snd.fst).fst ∧ (7 : Int) = (step x.fst x.snd.fst).snd.fst) ∧
 ((x.snd.fst == (3 : Int) && !x.fst.fst) = false →
 ((x.snd.fst == (1 : Int) || x.snd.fst == (3 : Int)) = true →
 (([] : List (Bool × Bool)).length + x.fst.snd.length ≤ (9223372036854775807 : Nat) ∧
 (([] : List (Bool × Bool)).length + x.fst.snd.length) * (2 : Nat) ≤ (140737488355328 : Nat)) ∧
 ((([] : List (Bool × Bool)) ++ x.fst.snd).length +
 (((false, false) :: ([] : List (Bool × Bool))).set (0 : Nat)
 (x.fst.fst, x.snd.fst == (3 : Int))).length ≤
 (9223372036854775807 : Nat) ∧
 ((([] : List (Bool × Bool)) ++ x.fst.snd).length +
 (((false, false) :: ([] : List (Bool × Bool))).set (0 : Nat)
 (x.fst.fst, x.snd.fst == (3 : Int))).length) *
 (2 : Nat) ≤
 (140737488355328 : Nat)) ∧
 (false,
 ([] : List (Bool × Bool)) ++ x.fst.snd ++
 ((false, false) :: ([] : List (Bool × Bool))).set (0 : Nat) (x.fst.fst, x.snd.fst == (3 : Int))) =
 (step x.fst x.snd.fst).fst ∧
 (0 : Int) = (step x.fst x.snd.fst).snd.fst) ∧
 ((x.snd.fst == (1 : Int) || x.snd.fst == (3 : Int)) = false →
 (((↑x.fst.snd.length : Int) == (0 : Int)) = true →
 (false, ([] : List (Bool × Bool))) = (step x.fst x.snd.fst).fst ∧
 (3 : Int) = (step x.fst x.snd.fst).snd.fst) ∧
 (((↑x.fst.snd.length : Int) == (0 : Int)) = false →
 ((-9223372036854775808 : Int) ≤ (↑x.fst.snd.length : Int) - (1 : Int) ∧
 (↑x.fst.snd.length : Int) - (1 : Int) ≤ (9223372036854775807 : Int)) ∧
 ((0 : Int) ≤ (↑x.fst.snd.length : Int) - (1 : Int) ∧
 (↑x.fst.snd.length : Int) - (1 : Int) < (↑x.fst.snd.length : Int)) ∧
 (((x.fst.snd.getD ((↑x.fst.snd.length : Int) - (1 : Int)).toNat (false, false)).snd ==
 (x.snd.fst == (2 : Int))) =
 true →
 (false, ([] : List (Bool × Bool))) = (step x.fst x.snd.fst).fst ∧
 (8 : Int) = (step x.fst x.snd.fst).snd.fst) ∧
 (((x.fst.snd.getD ((↑x.fst.snd.length : Int) - (1 : Int)).toNat (false, false)).snd ==
 (x.snd.fst == (2 : Int))) =
 false →
 ((-9223372036854775808 : Int) ≤ (↑x.fst.snd.length : Int) - (1 : Int) ∧
 (↑x.fst.snd.length : Int) - (1 : Int) ≤ (9223372036854775807 : Int)) ∧
 (((0 : Int) ≤ (0 : Int) ∧ (0 : Int) ≤ (↑x.fst.snd.length : Int) - (1 : Int)) ∧
 (↑x.fst.snd.length : Int) - (1 : Int) ≤ (↑x.fst.snd.length : Int)) ∧
 (([] : List (Bool × Bool)).length +
 (List.drop (Int.toNat (0 : Int))
 (List.take ((↑x.fst.snd.length : Int) - (1 : Int)).toNat x.fst.snd)).length ≤
 (9223372036854775807 : Nat) ∧
 (([] : List (Bool × Bool)).length +
 (List.drop (Int.toNat (0 : Int))
 (List.take ((↑x.fst.snd.length : Int) - (1 : Int)).toNat x.fst.snd)).length) *
 (2 : Nat) ≤
 (140737488355328 : Nat)) ∧
 ((x.fst.snd.getD ((↑x.fst.snd.length : Int) - (1 : Int)).toNat (false, false)).fst,
 ([] : List (Bool × Bool)) ++
 List.drop (Int.toNat (0 : Int))
 (List.take ((↑x.fst.snd.length : Int) - (1 : Int)).toNat x.fst.snd)) =
 (step x.fst x.snd.fst).fst ∧
 (0 : Int) = (step x.fst x.snd.fst).snd.fst)))))))

theorem E_gstep_eq (x : HL (cStep : Ctr).as) : vc (fx_gstep x) 1 57 Try.f57 (cStep) x = E_gstep x := by kernel_rfl

def E_play (x : List Int × Unit) : Prop :=
 ((((0 : Int) ≤ (0 : Int) ∧
 (0 : Int) ≤ (↑x.fst.length : Int) ∧
 (↑([] : List Int).length : Int) = (0 : Int) ∧
 pl (List.take (Int.toNat (0 : Int)) x.fst) = ((true, ([] : List (Bool × Bool))), ([] : List Int))) ∧
 True) ∧
 ((True ∧ True) ∧ (True ∧ True) ∧ True ∧ x.fst = x.fst ∧ (↑x.fst.length : Int) = (↑x.fst.length : Int) ∧ (0 : Int) = (0 : Int) ∧ True) ∧
 ((true = true ∧ ([] : List (Bool × Bool)) = ([] : List (Bool × Bool)) ∧ True) ∧
 ([] : List Int) = ([] : List Int) ∧
 (false = false ∧ Value.slice none (0 : Nat) (0 : Nat) = Value.slice none (0 : Nat) (0 : Nat) ∧ True) ∧ True) ∧
 True) ∧
 ∀ (g : (Bool × List (Bool × Bool)) × List Int × Int × Unit),
 (0 : Int) ≤ g.snd.snd.fst ∧
 g.snd.snd.fst ≤ (↑x.fst.length : Int) ∧
 (↑g.snd.fst.length : Int) = g.snd.snd.fst ∧ pl (List.take g.snd.snd.fst.toNat x.fst) = (g.fst, g.snd.fst) →
 (True ∧ g.fst.snd.length ≤ (9223372036854775807 : Nat) ∧ ∀ (x : Bool × Bool), x ∈ g.fst.snd → True ∧ True) ∧
 (g.snd.fst.length ≤ (9223372036854775807 : Nat) ∧
 ∀ (x : Int), x ∈ g.snd.fst → (-9223372036854775808 : Int) ≤ x ∧ x ≤ (9223372036854775807 : Int)) ∧
 ((-9223372036854775808 : Int) ≤ g.snd.snd.fst ∧ g.snd.snd.fst ≤ (9223372036854775807 : Int)) ∧ True →
 (decide (g.snd.snd.fst < (↑x.fst.length : Int)) = true →
 ((0 : Int) ≤ g.snd.snd.fst ∧ g.snd.snd.fst < (↑x.fst.length : Int)) ∧
 Holds True ∧
 (((step (g.fst.fst, g.fst.snd) (x.fst.getD g.snd.snd.fst.toNat (0 : Int))).snd.fst == (0 : Int)) = true →
 (g.snd.fst.length +
 (((0 : Int) :: ([] : List Int)).set (0 : Nat)
 (step (g.fst.fst, g.fst.snd) (x.fst.getD g.snd.snd.fst.toNat (0 : Int))).snd.fst).length ≤
 (9223372036854775807 : Nat) ∧
 (g.snd.fst.length +
 (((0 : Int) :: ([] : List Int)).set (0 : Nat)
 (step (g.fst.fst, g.fst.snd) (x.fst.getD g.snd.snd.fst.toNat (0 : Int))).snd.fst).length) *
 (8 : Nat) ≤
 (140737488355328 : Nat)) ∧
 ((-9223372036854775808 : Int) ≤ g.snd.snd.fst + (1 : Int) ∧ g.snd.snd.fst + (1 : Int) ≤ (9223372036854775807 : Int)) ∧
 (((0 : Int) ≤ g.snd.snd.fst + (1 : Int) ∧
 g.snd.snd.fst + (1 : Int) ≤ (↑x.fst.length : Int) ∧
 (↑(g.snd.fst ++
 ((0 : Int) :: ([] : List Int)).set (0 : Nat)
 (step (g.fst.fst, g.fst.snd) (x.fst.getD g.snd.snd.fst.toNat (0 : Int))).snd.fst).length :
 Int) =
 g.snd.snd.fst + (1 : Int) ∧
 pl (List.take (g.snd.snd.fst + (1 : Int)).toNat x.fst) =
 (((step (g.fst.fst, g.fst.snd) (x.fst.getD g.snd.snd.fst.toNat (0 : Int))).fst.fst,
 (step (g.fst.fst, g.fst.snd) (x.fst.getD g.snd.snd.fst.toNat (0 : Int))).fst.snd),
 g.snd.fst ++
 ((0 : Int) :: ([] : List Int)).set (0 : Nat)
 (step (g.fst.fst, g.fst.snd) (x.fst.getD g.snd.snd.fst.toNat (0 : Int))).snd.fst)) ∧
 ((↑x.fst.length : Int) - (g.snd.snd.fst + (1 : Int))).toNat < ((↑x.fst.length : Int) - g.snd.snd.fst).toNat) ∧
 ((True ∧ True) ∧
 (True ∧ True) ∧
 True ∧
 x.fst = x.fst ∧
 (↑x.fst.length : Int) = (↑x.fst.length : Int) ∧ g.snd.snd.fst + (1 : Int) = g.snd.snd.fst + (1 : Int) ∧ True) ∧
 (((step (g.fst.fst, g.fst.snd) (x.fst.getD g.snd.snd.fst.toNat (0 : Int))).fst.fst =
 (step (g.fst.fst, g.fst.snd) (x.fst.getD g.snd.snd.fst.toNat (0 : Int))).fst.fst ∧
 (step (g.fst.fst, g.fst.snd) (x.fst.getD g.snd.snd.fst.toNat (0 : Int))).fst.snd =
 (step (g.fst.fst, g.fst.snd) (x.fst.getD g.snd.snd.fst.toNat (0 : Int))).fst.snd ∧
 True) ∧
 g.snd.fst ++
 ((0 : Int) :: ([] : List Int)).set (0 : Nat)
 (step (g.fst.fst, g.fst.snd) (x.fst.getD g.snd.snd.fst.toNat (0 : Int))).snd.fst =
 g.snd.fst ++
 ((0 : Int) :: ([] : List Int)).set (0 : Nat)
 (step (g.fst.fst, g.fst.snd) (x.fst.getD g.snd.snd.fst.toNat (0 : Int))).snd.fst ∧
 (false = false ∧ Value.slice none (0 : Nat) (0 : Nat) = Value.slice none (0 : Nat) (0 : Nat) ∧ True) ∧ True) ∧
 True) ∧
 (((step (g.fst.fst, g.fst.snd) (x.fst.getD g.snd.snd.fst.toNat (0 : Int))).snd.fst == (0 : Int)) = false →
 (g.snd.fst.length +
 (((0 : Int) :: ([] : List Int)).set (0 : Nat)
 (step (g.fst.fst, g.fst.snd) (x.fst.getD g.snd.snd.fst.toNat (0 : Int))).snd.fst).length ≤
 (9223372036854775807 : Nat) ∧
 (g.snd.fst.length +
 (((0 : Int) :: ([] : List Int)).set (0 : Nat)
 (step (g.fst.fst, g.fst.snd) (x.fst.getD g.snd.snd.fst.toNat (0 : Int))).snd.fst).length) *
 (8 : Nat) ≤
 (140737488355328 : Nat)) ∧
 ((-9223372036854775808 : Int) ≤ g.snd.snd.fst + (1 : Int) ∧ g.snd.snd.fst + (1 : Int) ≤ (9223372036854775807 : Int)) ∧
 (((0 : Int) ≤ g.snd.snd.fst + (1 : Int) ∧
 g.snd.snd.fst + (1 : Int) ≤ (↑x.fst.length : Int) ∧
 (↑(g.snd.fst ++
 ((0 : Int) :: ([] : List Int)).set (0 : Nat)
 (step (g.fst.fst, g.fst.snd) (x.fst.getD g.snd.snd.fst.toNat (0 : Int))).snd.fst).length :
 Int) =
 g.snd.snd.fst + (1 : Int) ∧
 pl (List.take (g.snd.snd.fst + (1 : Int)).toNat x.fst) =
 ((g.fst.fst, g.fst.snd),
 g.snd.fst ++
 ((0 : Int) :: ([] : List Int)).set (0 : Nat)
 (step (g.fst.fst, g.fst.snd) (x.fst.getD g.snd.snd.fst.toNat (0 : Int))).snd.fst)) ∧
 ((↑x.fst.length : Int) - (g.snd.snd.fst + (1 : Int))).toNat < ((↑x.fst.length : Int) - g.snd.snd.fst).toNat) ∧
 ((True ∧ True) ∧
 (True ∧ True) ∧
 True ∧
 x.fst = x.fst ∧
 (↑x.fst.length : Int) = (↑x.fst.length : Int) ∧ g.snd.snd.fst + (1 : Int) = g.snd.snd.fst + (1 : Int) ∧ True) ∧
 ((g.fst.fst = g.fst.fst ∧ g.fst.snd = g.fst.snd ∧ True) ∧
 g.snd.fst ++
 ((0 : Int) :: ([] : List Int)).set (0 : Nat)
 (step (g.fst.fst, g.fst.snd) (x.fst.getD g.snd.snd.fst.toNat (0 : Int))).snd.fst =
 g.snd.fst ++
 ((0 : Int) :: ([] : List Int)).set (0 : Nat)
 (step (g.fst.fst, g.fst.snd) (x.fst.getD g.snd.snd.fst.toNat (0 : Int))).snd.fst ∧
 (false = false ∧ Value.slice none (0 : Nat) (0 : Nat) = Value.slice none (0 : Nat) (0 : Nat) ∧ True) ∧ True) ∧
 True)) ∧
 (decide (g.snd.snd.fst < (↑x.fst.length : Int)) = false → g.snd.fst = (pl x.fst).snd ∧ (g.fst.fst, g.fst.snd) = (pl x.fst).fst)

theorem E_play_eq (x : HL (cPlay : Ctr).as) : vc (fx_play x) 1 58 Try.f58 (cPlay) x = E_play x := by kernel_rfl

def E_gplay (x : List Int × Unit) : Prop :=
 ((((0 : Int) ≤ (0 : Int) ∧
 (0 : Int) ≤ (↑x.fst.length : Int) ∧
 (↑([] : List Int).length : Int) = (0 : Int) ∧
 pl (List.take (Int.toNat (0 : Int)) x.fst) = ((true, ([] : List (Bool × Bool))), ([] : List Int))) ∧
 True) ∧
 ((True ∧ True) ∧ (True ∧ True) ∧ True ∧ x.fst = x.fst ∧ (↑x.fst.length : Int) = (↑x.fst.length : Int) ∧ (0 : Int) = (0 : Int) ∧ True) ∧
 ((true = true ∧ ([] : List (Bool × Bool)) = ([] : List (Bool × Bool)) ∧ True) ∧
 ([] : List Int) = ([] : List Int) ∧
 (false = false ∧ Value.slice none (0 : Nat) (0 : Nat) = Value.slice none (0 : Nat) (0 : Nat) ∧ True) ∧ True) ∧
 True) ∧
 ∀ (g : (Bool × List (Bool × Bool)) × List Int × Int × Unit),
 (0 : Int) ≤ g.snd.snd.fst ∧
 g.snd.snd.fst ≤ (↑x.fst.length : Int) ∧
 (↑g.snd.fst.length : Int) = g.snd.snd.fst ∧ pl (List.take g.snd.snd.fst.toNat x.fst) = (g.fst, g.snd.fst) →
 (True ∧ g.fst.snd.length ≤ (9223372036854775807 : Nat) ∧ ∀ (x : Bool × Bool), x ∈ g.fst.snd → True ∧ True) ∧
 (g.snd.fst.length ≤ (9223372036854775807 : Nat) ∧
 ∀ (x : Int), x ∈ g.snd.fst → (-9223372036854775808 : Int) ≤ x ∧ x ≤ (9223372036854775807 : Int)) ∧
 ((-9223372036854775808 : Int) ≤ g.snd.snd.fst ∧ g.snd.snd.fst ≤ (9223372036854775807 : Int)) ∧ True →
 (decide (g.snd.snd.fst < (↑x.fst.length : Int)) = true →
 ((0 : Int) ≤ g.snd.snd.fst ∧ g.snd.snd.fst < (↑x.fst.length : Int)) ∧
 Holds True ∧
 (((step (g.fst.fst, g.fst.snd) (x.fst.getD g.snd.snd.fst.toNat (0 : Int))).snd.fst == (0 : Int)) = true →
 (g.snd.fst.length +
 (((0 : Int) :: ([] : List Int)).set (0 : Nat)
 (step (g.fst.fst, g.fst.snd) (x.fst.getD g.snd.snd.fst.toNat (0 : Int))).snd.fst).length ≤
 (9223372036854775807 : Nat) ∧
 (g.snd.fst.length +
 (((0 : Int) :: ([] : List Int)).set (0 : Nat)
 (step (g.fst.fst, g.fst.snd) (x.fst.getD g.snd.snd.fst.toNat (0 : Int))).snd.fst).length) *
 (8 : Nat) ≤
 (140737488355328 : Nat)) ∧
 ((-9223372036854775808 : Int) ≤ g.snd.snd.fst + (1 : Int) ∧ g.snd.snd.fst + (1 : Int) ≤ (9223372036854775807 : Int)) ∧
 (((0 : Int) ≤ g.snd.snd.fst + (1 : Int) ∧
 g.snd.snd.fst + (1 : Int) ≤ (↑x.fst.length : Int) ∧
 (↑(g.snd.fst ++
 ((0 : Int) :: ([] : List Int)).set (0 : Nat)
 (step (g.fst.fst, g.fst.snd) (x.fst.getD g.snd.snd.fst.toNat (0 : Int))).snd.fst).length :
 Int) =
 g.snd.snd.fst + (1 : Int) ∧
 pl (List.take (g.snd.snd.fst + (1 : Int)).toNat x.fst) =
 (((step (g.fst.fst, g.fst.snd) (x.fst.getD g.snd.snd.fst.toNat (0 : Int))).fst.fst,
 (step (g.fst.fst, g.fst.snd) (x.fst.getD g.snd.snd.fst.toNat (0 : Int))).fst.snd),
 g.snd.fst ++
 ((0 : Int) :: ([] : List Int)).set (0 : Nat)
 (step (g.fst.fst, g.fst.snd) (x.fst.getD g.snd.snd.fst.toNat (0 : Int))).snd.fst)) ∧
 ((↑x.fst.length : Int) - (g.snd.snd.fst + (1 : Int))).toNat < ((↑x.fst.length : Int) - g.snd.snd.fst).toNat) ∧
 ((True ∧ True) ∧
 (True ∧ True) ∧
 True ∧
 x.fst = x.fst ∧
 (↑x.fst.length : Int) = (↑x.fst.length : Int) ∧ g.snd.snd.fst + (1 : Int) = g.snd.snd.fst + (1 : Int) ∧ True) ∧
 (((step (g.fst.fst, g.fst.snd) (x.fst.getD g.snd.snd.fst.toNat (0 : Int))).fst.fst =
 (step (g.fst.fst, g.fst.snd) (x.fst.getD g.snd.snd.fst.toNat (0 : Int))).fst.fst ∧
 (step (g.fst.fst, g.fst.snd) (x.fst.getD g.snd.snd.fst.toNat (0 : Int))).fst.snd =
 (step (g.fst.fst, g.fst.snd) (x.fst.getD g.snd.snd.fst.toNat (0 : Int))).fst.snd ∧
 True) ∧
 g.snd.fst ++
 ((0 : Int) :: ([] : List Int)).set (0 : Nat)
 (step (g.fst.fst, g.fst.snd) (x.fst.getD g.snd.snd.fst.toNat (0 : Int))).snd.fst =
 g.snd.fst ++
 ((0 : Int) :: ([] : List Int)).set (0 : Nat)
 (step (g.fst.fst, g.fst.snd) (x.fst.getD g.snd.snd.fst.toNat (0 : Int))).snd.fst ∧
 (false = false ∧ Value.slice none (0 : Nat) (0 : Nat) = Value.slice none (0 : Nat) (0 : Nat) ∧ True) ∧ True) ∧
 True) ∧
 (((step (g.fst.fst, g.fst.snd) (x.fst.getD g.snd.snd.fst.toNat (0 : Int))).snd.fst == (0 : Int)) = false →
 (g.snd.fst.length +
 (((0 : Int) :: ([] : List Int)).set (0 : Nat)
 (step (g.fst.fst, g.fst.snd) (x.fst.getD g.snd.snd.fst.toNat (0 : Int))).snd.fst).length ≤
 (9223372036854775807 : Nat) ∧
 (g.snd.fst.length +
 (((0 : Int) :: ([] : List Int)).set (0 : Nat)
 (step (g.fst.fst, g.fst.snd) (x.fst.getD g.snd.snd.fst.toNat (0 : Int))).snd.fst).length) *
 (8 : Nat) ≤
 (140737488355328 : Nat)) ∧
 ((-9223372036854775808 : Int) ≤ g.snd.snd.fst + (1 : Int) ∧ g.snd.snd.fst + (1 : Int) ≤ (9223372036854775807 : Int)) ∧
 (((0 : Int) ≤ g.snd.snd.fst + (1 : Int) ∧
 g.snd.snd.fst + (1 : Int) ≤ (↑x.fst.length : Int) ∧
 (↑(g.snd.fst ++
 ((0 : Int) :: ([] : List Int)).set (0 : Nat)
 (step (g.fst.fst, g.fst.snd) (x.fst.getD g.snd.snd.fst.toNat (0 : Int))).snd.fst).length :
 Int) =
 g.snd.snd.fst + (1 : Int) ∧
 pl (List.take (g.snd.snd.fst + (1 : Int)).toNat x.fst) =
 ((g.fst.fst, g.fst.snd),
 g.snd.fst ++
 ((0 : Int) :: ([] : List Int)).set (0 : Nat)
 (step (g.fst.fst, g.fst.snd) (x.fst.getD g.snd.snd.fst.toNat (0 : Int))).snd.fst)) ∧
 ((↑x.fst.length : Int) - (g.snd.snd.fst + (1 : Int))).toNat < ((↑x.fst.length : Int) - g.snd.snd.fst).toNat) ∧
 ((True ∧ True) ∧
 (True ∧ True) ∧
 True ∧
 x.fst = x.fst ∧
 (↑x.fst.length : Int) = (↑x.fst.length : Int) ∧ g.snd.snd.fst + (1 : Int) = g.snd.snd.fst + (1 : Int) ∧ True) ∧
 ((g.fst.fst = g.fst.fst ∧ g.fst.snd = g.fst.snd ∧ True) ∧
 g.snd.fst ++
 ((0 : Int) :: ([] : List Int)).set (0 : Nat)
 (step (g.fst.fst, g.fst.snd) (x.fst.getD g.snd.snd.fst.toNat (0 : Int))).snd.fst =
 g.snd.fst ++
 ((0 : Int) :: ([] : List Int)).set (0 : Nat)
 (step (g.fst.fst, g.fst.snd) (x.fst.getD g.snd.snd.fst.toNat (0 : Int))).snd.fst ∧
 (false = false ∧ Value.slice none (0 : Nat) (0 : Nat) = Value.slice none (0 : Nat) (0 : Nat) ∧ True) ∧ True) ∧
 True)) ∧
 (decide (g.snd.snd.fst < (↑x.fst.length : Int)) = false → g.snd.fst = (pl x.fst).snd ∧ (g.fst.fst, g.fst.snd) = (pl x.fst).fst)

theorem E_gplay_eq (x : HL (cPlay : Ctr).as) : vc (fx_gplay x) 1 59 Try.f59 (cPlay) x = E_gplay x := by kernel_rfl

def E_same (x : (Bool × List (Bool × Bool)) × (Bool × List (Bool × Bool)) × Unit) : Prop :=
 ((!x.fst.fst != x.snd.fst.fst) = true → (!x.fst.fst != x.snd.fst.fst) = true) ∧
 ((!x.fst.fst != x.snd.fst.fst) = true → (!x.fst.fst != x.snd.fst.fst) = true) ∧
 ((!x.fst.fst != x.snd.fst.fst) = true → (!x.fst.fst != x.snd.fst.fst) = true) ∧
 ((!x.fst.fst != x.snd.fst.fst) = true → (!x.fst.fst != x.snd.fst.fst) = true) ∧
 ((!x.fst.fst != x.snd.fst.fst) = true → (!x.fst.fst != x.snd.fst.fst) = true ∧ (!x.fst.fst != x.snd.fst.fst) = true) ∧
 ((x.fst.fst != x.snd.fst.fst) = false → (!x.fst.fst != x.snd.fst.fst) = true) ∧
 ((x.fst.fst != x.snd.fst.fst || (↑x.fst.snd.length : Int) != (↑x.snd.fst.snd.length : Int)) = true → false = decide (x.fst = x.snd.fst)) ∧
 ((x.fst.fst != x.snd.fst.fst || (↑x.fst.snd.length : Int) != (↑x.snd.fst.snd.length : Int)) = false →
 ((((0 : Int) ≤ (0 : Int) ∧
 (0 : Int) ≤ (↑x.fst.snd.length : Int) ∧
 List.take (Int.toNat (0 : Int)) x.fst.snd = List.take (Int.toNat (0 : Int)) x.snd.fst.snd) ∧
 True) ∧
 ((True ∧ True) ∧ (True ∧ True) ∧ (↑x.fst.snd.length : Int) = (↑x.fst.snd.length : Int) ∧ (0 : Int) = (0 : Int) ∧ True) ∧
 ((x.fst.fst = x.fst.fst ∧ x.fst.snd = x.fst.snd ∧ True) ∧
 (x.snd.fst.fst = x.snd.fst.fst ∧ x.snd.fst.snd = x.snd.fst.snd ∧ True) ∧ True) ∧
 True) ∧
 ∀ (g : Int × Unit),
 (0 : Int) ≤ g.fst ∧ g.fst ≤ (↑x.fst.snd.length : Int) ∧ List.take g.fst.toNat x.fst.snd = List.take g.fst.toNat x.snd.fst.snd →
 ((-9223372036854775808 : Int) ≤ g.fst ∧ g.fst ≤ (9223372036854775807 : Int)) ∧ True →
 (decide (g.fst < (↑x.fst.snd.length : Int)) = true →
 ((0 : Int) ≤ g.fst ∧ g.fst < (↑x.fst.snd.length : Int)) ∧
 ((0 : Int) ≤ g.fst ∧ g.fst < (↑x.snd.fst.snd.length : Int)) ∧
 ((!deq (Ty.bool.pair Ty.bool)
 ((x.fst.snd.getD g.fst.toNat (false, false)).fst, (x.fst.snd.getD g.fst.toNat (false, false)).snd)
 ((x.snd.fst.snd.getD g.fst.toNat (false, false)).fst,
 (x.snd.fst.snd.getD g.fst.toNat (false, false)).snd)) =
 true →
 false = decide (x.fst = x.snd.fst)) ∧
 ((!deq (Ty.bool.pair Ty.bool)
 ((x.fst.snd.getD g.fst.toNat (false, false)).fst, (x.fst.snd.getD g.fst.toNat (false, false)).snd)
 ((x.snd.fst.snd.getD g.fst.toNat (false, false)).fst,
 (x.snd.fst.snd.getD g.fst.toNat (false, false)).snd)) =
 false →
 ((-9223372036854775808 : Int) ≤ g.fst + (1 : Int) ∧ g.fst + (1 : Int) ≤ (9223372036854775807 : Int)) ∧
 (((0 : Int) ≤ g.fst + (1 : Int) ∧
 g.fst + (1 : Int) ≤ (↑x.fst.snd.length : Int) ∧
 List.take (g.fst + (1 : Int)).toNat x.fst.snd = List.take (g.fst + (1 : Int)).toNat x.snd.fst.snd) ∧
 ((↑x.fst.snd.length : Int) - (g.fst + (1 : Int))).toNat < ((↑x.fst.snd.length : Int) - g.fst).toNat) ∧
 ((True ∧ True) ∧
 (True ∧ True) ∧
 (↑x.fst.snd.length : Int) = (↑x.fst.snd.length : Int) ∧ g.fst + (1 : Int) = g.fst + (1 : Int) ∧ True) ∧
 ((x.fst.fst = x.fst.fst ∧ x.fst.snd = x.fst.snd ∧ True) ∧
 (x.snd.fst.fst = x.snd.fst.fst ∧ x.snd.fst.snd = x.snd.fst.snd ∧ True) ∧ True) ∧
 True)) ∧
 (decide (g.fst < (↑x.fst.snd.length : Int)) = false → true = decide (x.fst = x.snd.fst)))

theorem E_same_eq (x : HL (cSame : Ctr).as) : vc (fx_same x) 1 62 Try.f62 (cSame) x = E_same x := by kernel_rfl

def E_equal (x : List Int × List Int × Unit) : Prop :=
 (((↑x.fst.length : Int) != (↑x.snd.fst.length : Int)) = true → false = decide (x.fst = x.snd.fst)) ∧
 (((↑x.fst.length : Int) != (↑x.snd.fst.length : Int)) = false →
 ((((0 : Int) ≤ (0 : Int) ∧
 (0 : Int) ≤ (↑x.fst.length : Int) ∧ List.take (Int.toNat (0 : Int)) x.fst = List.take (Int.toNat (0 : Int)) x.snd.fst) ∧
 True) ∧
 (x.fst = x.fst ∧ x.snd.fst = x.snd.fst ∧ (↑x.fst.length : Int) = (↑x.fst.length : Int) ∧ (0 : Int) = (0 : Int) ∧ True) ∧ True ∧ True) ∧
 ∀ (g : Int × Unit),
 (0 : Int) ≤ g.fst ∧ g.fst ≤ (↑x.fst.length : Int) ∧ List.take g.fst.toNat x.fst = List.take g.fst.toNat x.snd.fst →
 ((-9223372036854775808 : Int) ≤ g.fst ∧ g.fst ≤ (9223372036854775807 : Int)) ∧ True →
 (decide (g.fst < (↑x.fst.length : Int)) = true →
 ((0 : Int) ≤ g.fst ∧ g.fst < (↑x.fst.length : Int)) ∧
 ((0 : Int) ≤ g.fst ∧ g.fst < (↑x.snd.fst.length : Int)) ∧
 ((x.fst.getD g.fst.toNat (0 : Int) != x.snd.fst.getD g.fst.toNat (0 : Int)) = true → false = decide (x.fst = x.snd.fst)) ∧
 ((x.fst.getD g.fst.toNat (0 : Int) != x.snd.fst.getD g.fst.toNat (0 : Int)) = false →
 ((-9223372036854775808 : Int) ≤ g.fst + (1 : Int) ∧ g.fst + (1 : Int) ≤ (9223372036854775807 : Int)) ∧
 (((0 : Int) ≤ g.fst + (1 : Int) ∧
 g.fst + (1 : Int) ≤ (↑x.fst.length : Int) ∧
 List.take (g.fst + (1 : Int)).toNat x.fst = List.take (g.fst + (1 : Int)).toNat x.snd.fst) ∧
 ((↑x.fst.length : Int) - (g.fst + (1 : Int))).toNat < ((↑x.fst.length : Int) - g.fst).toNat) ∧
 (x.fst = x.fst ∧
 x.snd.fst = x.snd.fst ∧
 (↑x.fst.length : Int) = (↑x.fst.length : Int) ∧ g.fst + (1 : Int) = g.fst + (1 : Int) ∧ True) ∧
 True ∧ True)) ∧
 (decide (g.fst < (↑x.fst.length : Int)) = false → true = decide (x.fst = x.snd.fst)))

theorem E_equal_eq (x : HL (cEqual : Ctr).as) : vc (fx_equal x) 1 63 Try.f63 (cEqual) x = E_equal x := by kernel_rfl

def E_tells (x : (Bool × List (Bool × Bool)) × Int × List Int × Unit) : Prop :=
 Holds True ∧
 Holds True ∧
 Holds (x.snd.snd.fst.length * (8 : Nat) ≤ (140737488355328 : Nat)) ∧
 Holds (x.snd.snd.fst.length * (8 : Nat) ≤ (140737488355328 : Nat)) ∧
 Holds True ∧
 Holds True ∧
 ((right (x.fst.fst, x.fst.snd) == right (x.fst.fst, x.fst.snd)) = true →
 (((step (x.fst.fst, x.fst.snd) x.snd.fst).snd.fst == (step (x.fst.fst, x.fst.snd) x.snd.fst).snd.fst) = true →
 Holds True ∧
 (decide
 (((step (x.fst.fst, x.fst.snd) x.snd.fst).fst.fst, (step (x.fst.fst, x.fst.snd) x.snd.fst).fst.snd) =
 ((step (x.fst.fst, x.fst.snd) x.snd.fst).fst.fst, (step (x.fst.fst, x.fst.snd) x.snd.fst).fst.snd)) =
 true →
 Holds True ∧
 (decide ((pl x.snd.snd.fst).snd = (pl x.snd.snd.fst).snd) = true →
 Holds True ∧
 decide
 (((pl x.snd.snd.fst).fst.fst, (pl x.snd.snd.fst).fst.snd) =
 ((pl x.snd.snd.fst).fst.fst, (pl x.snd.snd.fst).fst.snd)) =
 true) ∧
 (decide ((pl x.snd.snd.fst).snd = (pl x.snd.snd.fst).snd) = !true → false = true)) ∧
 (decide
 (((step (x.fst.fst, x.fst.snd) x.snd.fst).fst.fst, (step (x.fst.fst, x.fst.snd) x.snd.fst).fst.snd) =
 ((step (x.fst.fst, x.fst.snd) x.snd.fst).fst.fst, (step (x.fst.fst, x.fst.snd) x.snd.fst).fst.snd)) =
 !true →
 false = true)) ∧
 (((step (x.fst.fst, x.fst.snd) x.snd.fst).snd.fst == (step (x.fst.fst, x.fst.snd) x.snd.fst).snd.fst) = !true → false = true)) ∧
 ((right (x.fst.fst, x.fst.snd) == right (x.fst.fst, x.fst.snd)) = !true → false = true)

theorem E_tells_eq (x : HL (cLaw : Ctr).as) : vc (fx_tells x) 1 12 Try.f12 (cLaw) x = E_tells x := by kernel_rfl

end Go.Proofs.Ytollphjlheabdaa.Nest
