/-
  math/bits.Len32 keeps its contract.
-/
import Derived.Test.YtpmfgdedkmddlaaRunqC
import Derived.Test.YtpmfgdedkmddlaaRunqH7
import Derived.Test.YtpmfgdedkmddlaaRunqH9
namespace Go.Proofs.Ytpmfgdedkmddlaa.Runq
open Go.Sx
set_option maxRecDepth 100000
set_option maxHeartbeats 4000000
set_option linter.unusedSimpArgs false
set_option linter.unusedVariables false

open Go Go.RowKit
theorem arg1 {S : Nat → Prop} {w : World} {args : Array Value} {x : Int} {u : Unit} (h : RdVs S w [U32] args.toList (x, u)) : args = #[.int .u32 x] ∧ (0 ≤ x ∧ x ≤ 4294967295) := by
  obtain ⟨l⟩ := args
  match l, h with
  | [], h => exact h.elim
  | [v], h =>
    obtain ⟨h1, h2⟩ : [v] = [Value.int .u32 x] ∧ IR .u32 x := h.1
    injection h1 with h1
    subst h1
    exact ⟨rfl, h2⟩
  | _ :: _ :: _, h => exact h.2.elim
theorem res1 {S : Nat → Prop} {w : World} {n : Int} (h : -9223372036854775808 ≤ n ∧ n ≤ 9223372036854775807) : ResV S w [I64] (.int .i64 n) (n, ()) := by
  show Rd S w I64 [.int .i64 n] n
  exact ⟨rfl, h⟩
theorem c_len : CtrOk Try.prog 54 cLen := by
  refine ⟨⟨Try.f54, Try.func54, by kernel_rfl, by kernel_rfl⟩, fun S w args x hS hgl hargs hpre => ?_⟩
  obtain ⟨x, u⟩ := x
  obtain ⟨ha, hx⟩ := arg1 hargs
  rw [ha]
  refine (len_calls x w hx.1 hx.2).mono fun e w' h => ?_
  obtain ⟨rfl, rfl⟩ := h
  have h0 : 0 ≤ x := hx.1
  have h1 : x ≤ 4294967295 := hx.2
  have hb := Lib.bitLen_le x.toNat 32 (by omega) (by omega)
  exact ⟨_, rfl, res1 (by omega), Below.refl _ _⟩

end Go.Proofs.Ytpmfgdedkmddlaa.Runq
