/-
 The conditions that the executor comes to, written out (by a tool of ours), and that they are the conditions (by the kernel).
-/
import Derived.Test.YtppgbcmeagbalaaDoorKernE1
namespace Go.Proofs.YtppgbcmeagbalaaDoor.Kern
open Go.Sx
set_option maxRecDepth 100000

def E_kern (x : List (Int × Int × Int × Int) × Unit) : Prop :=
 Holds (x.1.length ≤ (1048576 : Nat)) ∧
 Holds (x.1.length ≤ (1048576 : Nat)) ∧
 Holds True ∧
 (decide ((ypl x.1).2 = (ypl x.1).2) = true →
 Holds True ∧
 decide
 (((yend (ypl x.1).1).1, (yend (ypl x.1).1).2.1,
 ((yend (ypl x.1).1).2.2.1.1, (yend (ypl x.1).1).2.2.1.2), (yend (ypl x.1).1).2.2.2.1,
 (yend (ypl x.1).1).2.2.2.2) =
 ((yend (ypl x.1).1).1, (yend (ypl x.1).1).2.1,
 ((yend (ypl x.1).1).2.2.1.1, (yend (ypl x.1).1).2.2.1.2), (yend (ypl x.1).1).2.2.2.1,
 (yend (ypl x.1).1).2.2.2.2)) =
 true) ∧
 (decide ((ypl x.1).2 = (ypl x.1).2) = !true → false = true)

theorem E_kern_eq (x : HL (cKern : Ctr).as) : vc (fx_kern x) 1 3 Tryd.f3 (cKern) x = E_kern x := by kernel_rfl

end Go.Proofs.YtppgbcmeagbalaaDoor.Kern
