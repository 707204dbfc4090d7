/-
  Contracts proved by hand.
-/
import Derived.Test.YtdhldloajddfiaaGreatDoorApicC
import Derived.Test.YtdhldloajddfiaaGreatDoorApicBitfH1
import Derived.WalkKit
import Derived.Laws.Bits64b
import Derived.Shelf.Spec.TrailingZeros
import Derived.Lib.BitFns
import Derived.Lib.TrailingZeros
namespace Go.Proofs.YtdhldloajddfiaaGreatDoor.Apic
open Go.Sx
set_option maxRecDepth 100000
set_option maxHeartbeats 4000000
set_option linter.unusedSimpArgs false
set_option linter.unusedVariables false

open Go
theorem arg1 {S : Nat → Prop} {w : World} {args : Array Value} {x : Int} {u : Unit} (h : RdVs S w [U64] args.toList (x, u)) : args = #[.int .u64 x] ∧ (0 ≤ x ∧ x ≤ 18446744073709551615) := by
  obtain ⟨l⟩ := args
  match l, h with
  | [], h => exact h.elim
  | [v], h =>
    obtain ⟨h1, h2⟩ : [v] = [Value.int .u64 x] ∧ IR .u64 x := h.1
    injection h1 with h1
    subst h1
    exact ⟨rfl, h2⟩
  | _ :: _ :: _, h => exact h.2.elim
theorem res1 {S : Nat → Prop} {w : World} {n : Int} (h : -9223372036854775808 ≤ n ∧ n ≤ 9223372036854775807) : ResV S w [I64] (.int .i64 n) (n, ()) := by
  show Rd S w I64 [.int .i64 n] n
  exact ⟨rfl, h⟩
end Go.Proofs.YtdhldloajddfiaaGreatDoor.Apic
namespace Go.Proofs.YtdhldloajddfiaaGreatDoor.Apic
open Go.Sx
set_option maxRecDepth 100000
set_option maxHeartbeats 4000000
set_option linter.unusedSimpArgs false
set_option linter.unusedVariables false

open Go Go.RowKit
theorem ctz_le (x : Nat) (h : x < 18446744073709551616) : Lib.ctz 64 x ≤ 64 := by
  unfold Lib.ctz
  split
  · omega
  · have := Lib.ctzFrom_spec 64 x (by omega) h
    obtain ⟨m, _, h2⟩ := this
    omega
theorem tz_core (x k idx : Nat) (w : World) (hx0 : ((x : Int) == 0) = false)
    (key : IntKind.u64.wrap (bits BinOp.and IntKind.u64 (x : Int) (IntKind.u64.wrap (-(x : Int))) * 285870213051353865) / 288230376151711744 = (idx : Int))
    (hi : idx < 64) (hk : k < 64) (hcell : w.cell? ⟨3, idx, none⟩ = some (.int .u8 k)) :
    Calls Tryz.prog 70 #[.int .u64 x] w fun e w' => e = .returned (.int .i64 k) ∧ w' = w := by
  go_enter Tryz.func70, Tryz.ntmps70
  go_wp2_with (simp only [key])
  go_ret
  exact ⟨rfl, rfl⟩
theorem tz_zero (w : World) :
    Calls Tryz.prog 70 #[.int .u64 0] w fun e w' => e = .returned (.int .i64 64) ∧ w' = w := by
  go_enter Tryz.func70, Tryz.ntmps70
  go_wp2
  go_ret
  exact ⟨rfl, rfl⟩
theorem tz_calls (x : Nat) (hx : x < 18446744073709551616) (w : World) (hT : TabAt 3 Lib.deBruijn64tab w) :
    Calls Tryz.prog 70 #[.int .u64 x] w fun e w' => e = .returned (.int .i64 (Lib.ctz 64 x)) ∧ w' = w := by
  by_cases hx0 : x = 0
  · subst hx0
    exact tz_zero w
  · obtain ⟨hlow, hk⟩ := Lib.lowest_bit 64 x hx0 hx
    obtain ⟨hi, htab⟩ := Lib.deBruijn64_at _ hk
    have hcell := hT _ hi
    rw [htab] at hcell
    exact tz_core x _ _ w (by simp; omega) (tz64_key x _ hx hx0 hlow) hi hk hcell
theorem c_tz : CtrOk Tryz.prog 70 cTz := by
  refine ⟨⟨Tryz.f70, Tryz.func70, by kernel_rfl, by kernel_rfl⟩, fun S w args x hS hgl hargs hpre => ?_⟩
  obtain ⟨x, u⟩ := x
  obtain ⟨ha, hx⟩ := arg1 hargs
  rw [ha]
  have h0 : 0 ≤ x := hx.1
  have h1 : x ≤ 18446744073709551615 := hx.2
  have := tz_calls x.toNat (by omega) w (fun j hj => (hgl (3, .u8 Lib.deBruijn64tab) (by simp [seatGl])).2 j hj)
  rw [Int.toNat_of_nonneg h0] at this
  refine this.mono fun e w' h => ?_
  obtain ⟨rfl, rfl⟩ := h
  exact ⟨_, rfl, res1 (by have := ctz_le x.toNat (by omega); omega), Below.refl _ _⟩
theorem c_len : CtrOk Tryz.prog 56 cLen := by
  refine ⟨⟨Tryz.f56, Tryz.func56, by kernel_rfl, by kernel_rfl⟩, fun S w args x hS hgl hargs hpre => ?_⟩
  obtain ⟨x, u⟩ := x
  obtain ⟨ha, hx⟩ := arg1 hargs
  rw [ha]
  refine (len_calls x w hx.1 hx.2).mono fun e w' h => ?_
  obtain ⟨rfl, rfl⟩ := h
  exact ⟨_, rfl, res1 (by have := Lib.bitLen_le x.toNat 64 (by omega) (by omega); omega), Below.refl _ _⟩
end Go.Proofs.YtdhldloajddfiaaGreatDoor.Apic
