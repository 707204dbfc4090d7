/-
  slices.Grow of nil keeps its contract.
-/
import Derived.Test.YtpnmfoojmodnlaaLiftsC
import Derived.Lib.Strings
import Derived.Lib.Slices
import Derived.Lib.Small
import Derived.Lib.Walk
import Derived.Lib.BitFns
namespace Go.Proofs.Ytpnmfoojmodnlaa.Lifts
open Go.Sx
set_option maxRecDepth 100000
set_option maxHeartbeats 4000000
set_option linter.unusedSimpArgs false
set_option linter.unusedVariables false

open Go Go.Proofs Go.RowKit
theorem grow_zero (w : World) : Calls Try.prog 42 #[.slice none 0 0, .int .i64 0] w fun e w' => e = .returned (.slice none 0 0) ∧ w' = w := by
  go_enter Try.func42, Try.ntmps42
  go_wp2
  go_ret
  exact ⟨rfl, rfl⟩
theorem grow_more {n : Int} (h0 : 0 < n) (h1 : n ≤ 800) (w : World) : Calls Try.prog 42 #[.slice none 0 0, .int .i64 n] w fun e w' =>
    e = .returned (.slice (some ⟨w.heap.size, 0, none⟩) 0 (grownCap w n.toNat 0 3)) ∧ w' = w.drew.alloc (.cells (Builtin.zeroCells #[.int .i64 0] n.toNat ++ Builtin.zeroCells #[.int .i64 0] (grownCap w n.toNat 0 3 - n.toNat)) 3) := by
  have hwr : IntKind.i64.wrap n = n := wrap_in (k := .i64) ⟨by omega, by omega⟩
  have hby : Try.t3.bytes = 8 := by kernel_rfl
  have hcap := cap_most (n := n.toNat) (c := 0) (by omega)
  go_enter Try.func42, Try.ntmps42
  go_wp2
  all_goals first
    | (exfalso; omega)
    | (go_ret; exact ⟨rfl, rfl⟩)
theorem c_grow : CtrOkN Try.prog 42 cGrow := by
  refine ⟨⟨Try.f42, Try.func42, by kernel_rfl, by kernel_rfl⟩, ?_⟩
  intro S w args x _ _ hr hp
  obtain ⟨n, u⟩ := x
  change Int at n
  obtain ⟨hp0, hp1⟩ : (0 : Int) ≤ n ∧ n ≤ (800 : Int) := hp
  match args, hr with
  | [], hr => exact hr.elim
  | _ :: _ :: _, hr => exact hr.2.elim
  | [v], hr =>
    obtain ⟨h1, _⟩ : [v] = [Value.int .i64 n] ∧ IR .i64 n := hr.1
    obtain rfl : v = .int .i64 n := (List.cons.inj h1).1
    by_cases h0 : n = (0 : Int)
    · subst h0
      refine (grow_zero w).mono fun e w' he => ?_
      obtain ⟨rfl, rfl⟩ := he
      exact ⟨_, rfl, .inl ⟨rfl, rfl⟩, Below.refl _ _⟩
    · refine (grow_more (by omega) hp1 w).mono fun e w' he => ?_
      obtain ⟨rfl, rfl⟩ := he
      have hge := grownCap_ge w n.toNat 0 3
      refine ⟨_, rfl, .inr ⟨w.heap.size, 0, grownCap w n.toNat 0 3, _, 3, rfl, ⟨Nat.le_refl _, by simp⟩, heap_alloc_new w.drew _, Nat.zero_le _, grownCap_le_maxLen w n.toNat 0 3 (by simp only [maxLen]; omega), ?_, fun i x h => by cases h⟩, ?_⟩
      · show 0 + grownCap w n.toNat 0 3 * 1 ≤ _
        simp only [Array.size_append, size_zeroCells]
        show 0 + grownCap w n.toNat 0 3 * 1 ≤ n.toNat * 1 + (grownCap w n.toNat 0 3 - n.toNat) * 1
        omega
      · exact (((Below.refl w.heap.size w).drew).alloc (by simp) _)

end Go.Proofs.Ytpnmfoojmodnlaa.Lifts
