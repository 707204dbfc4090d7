/-
 The conditions that the executor comes to, written out (by a tool of ours), and that they are the conditions (by the kernel).
-/
import Derived.Test.YtlnlichdidobpaaGreatDoorTurnsC
namespace Go.Proofs.YtlnlichdidobpaaGreatDoor.Turns
open Go.Sx
set_option maxRecDepth 100000
noncomputable section
abbrev nu := ([105, 110, 32, 57, 55, 10, 114, 117, 110, 32, 49, 10, 115, 97, 118, 101, 32, 48, 10, 114, 117, 110, 32, 48, 10, 114, 101, 115, 116, 111, 114, 101, 32, 48, 10, 114, 117, 110, 32, 48, 10, 114, 117, 110, 32, 48, 10, 114, 117, 110, 32, 48, 10, 114, 117, 110, 32, 49, 10] : List Int)
abbrev qi := (((Tell.fu nu).2 == 0) = true → ((Tell.fu nu).2 == 0) = true)
abbrev qJ := (↑(Tell.fu nu).1.length : Int)
def yY (x : Unit) : Prop := Holds (nu.length ≤ (1048576 : Nat)) ∧ qi ∧ qi ∧ qi ∧ (true = true → true = true ∧ (0 : Int) ≤ (1 : Int) ∧ 1 < qJ) ∧ (true = true → true = true) ∧ (true = true → true = true) ∧ (true = true → true = true) ∧ (true = true → true = true ∧ (0 : Int) ≤ (3 : Int) ∧ 3 < qJ) ∧ (true = true → true = true) ∧ (true = true → true = true) ∧ (true = true → true = true) ∧ (true = true → true = true ∧ (0 : Int) ≤ (9 : Int) ∧ 9 < qJ) ∧ (true = true → true = true) ∧ (true = true → true = true) ∧ (true = true → true = true) ∧ true = true

theorem BZ (x : HL (iK : ah).as) : vc (vj x) 1 4 Tryz.f4 (iK) x = yY x := by kernel_rfl

end
end Go.Proofs.YtlnlichdidobpaaGreatDoor.Turns
