/-
  One number in, one number out.
-/
import Derived.Test.YtppgbcmeagbalaaDoorApicC
namespace Go.Proofs.YtppgbcmeagbalaaDoor.Apic
open Go.Sx
set_option maxRecDepth 100000
set_option maxHeartbeats 4000000
set_option linter.unusedSimpArgs false
set_option linter.unusedVariables false

open Go
theorem arg1 {S : Nat → Prop} {w : World} {args : Array Value} {x : Int} {u : Unit} (h : RdVs S w [U64] args.toList (x, u)) : args = #[.int .u64 x] ∧ (0 ≤ x ∧ x ≤ 18446744073709551615) := by
  obtain ⟨l⟩ := args
  match l, h with
  | [], h => exact h.elim
  | [v], h =>
    obtain ⟨h1, h2⟩ : [v] = [Value.int .u64 x] ∧ IR .u64 x := h.1
    injection h1 with h1
    subst h1
    exact ⟨rfl, h2⟩
  | _ :: _ :: _, h => exact h.2.elim
theorem res1 {S : Nat → Prop} {w : World} {n : Int} (h : -9223372036854775808 ≤ n ∧ n ≤ 9223372036854775807) : ResV S w [I64] (.int .i64 n) (n, ()) := by
  show Rd S w I64 [.int .i64 n] n
  exact ⟨rfl, h⟩

end Go.Proofs.YtppgbcmeagbalaaDoor.Apic
