/-
  Contracts proved by hand.
-/
import Derived.Test.YtlnlichdidobpaaGreatDoorApicC
import Derived.Test.YtlnlichdidobpaaGreatDoorApicBitfH1
import Derived.WalkKit
import Derived.Laws.Bits64b
import Derived.Shelf.Spec.TrailingZeros
import Derived.Lib.BitFns
import Derived.Lib.TrailingZeros
namespace Go.Proofs.YtlnlichdidobpaaGreatDoor.Apic
open Go.Sx
set_option maxRecDepth 100000
set_option maxHeartbeats 4000000
set_option linter.unusedSimpArgs false
set_option linter.unusedVariables false

open Go
theorem UC {S : Nat → Prop} {w : World} {args : Array Value} {x : Int} {u : Unit} (h : fw S w [Ge] args.toList (x, u)) : args = #[.int .u64 x] ∧ (0 ≤ x ∧ x ≤ 18446744073709551615) := by
  obtain ⟨l⟩ := args
  match l, h with
  | [], h => exact h.elim
  | [v], h =>
    obtain ⟨h1, h2⟩ : [v] = [Value.int .u64 x] ∧ IR .u64 x := h.1
    injection h1 with h1
    subst h1
    exact ⟨rfl, h2⟩
  | _ :: _ :: _, h => exact h.2.elim
theorem Ul {S : Nat → Prop} {w : World} {n : Int} (h : -9223372036854775808 ≤ n ∧ n ≤ 9223372036854775807) : oe S w [dU] (.int .i64 n) (n, ()) := by
  show Rd S w dU [.int .i64 n] n
  exact ⟨rfl, h⟩
end Go.Proofs.YtlnlichdidobpaaGreatDoor.Apic
namespace Go.Proofs.YtlnlichdidobpaaGreatDoor.Apic
open Go.Sx
set_option maxRecDepth 100000
set_option maxHeartbeats 4000000
set_option linter.unusedSimpArgs false
set_option linter.unusedVariables false

open Go Go.RowKit
theorem SM (x : Nat) (h : x < 18446744073709551616) : Lib.ctz 64 x ≤ 64 := by
  unfold Lib.ctz
  split
  · omega
  · have := Lib.ctzFrom_spec 64 x (by omega) h
    obtain ⟨m, _, h2⟩ := this
    omega
theorem MT (x k idx : Nat) (w : World) (hx0 : ((x : Int) == 0) = false)
    (key : IntKind.u64.wrap (bits BinOp.and IntKind.u64 (x : Int) (IntKind.u64.wrap (-(x : Int))) * 285870213051353865) / 288230376151711744 = (idx : Int))
    (hi : idx < 64) (hk : k < 64) (hcell : w.cell? ⟨5, idx, none⟩ = some (.int .u8 k)) :
    Calls Tryz.prog 142 #[.int .u64 x] w fun e w' => e = .returned (.int .i64 k) ∧ w' = w := by
  go_enter Tryz.func142, Tryz.ntmps142
  go_wp2_with (simp only [key])
  go_ret
  exact ⟨rfl, rfl⟩
theorem Od (w : World) :
    Calls Tryz.prog 142 #[.int .u64 0] w fun e w' => e = .returned (.int .i64 64) ∧ w' = w := by
  go_enter Tryz.func142, Tryz.ntmps142
  go_wp2
  go_ret
  exact ⟨rfl, rfl⟩
theorem Kl (x : Nat) (hx : x < 18446744073709551616) (w : World) (hT : TabAt 5 Lib.deBruijn64tab w) :
    Calls Tryz.prog 142 #[.int .u64 x] w fun e w' => e = .returned (.int .i64 (Lib.ctz 64 x)) ∧ w' = w := by
  by_cases hx0 : x = 0
  · subst hx0
    exact Od w
  · obtain ⟨hlow, hk⟩ := Lib.lowest_bit 64 x hx0 hx
    obtain ⟨hi, htab⟩ := Lib.deBruijn64_at _ hk
    have hcell := hT _ hi
    rw [htab] at hcell
    exact MT x _ _ w (by simp; omega) (tz64_key x _ hx hx0 hlow) hi hk hcell
theorem Vy : aX Tryz.prog 142 VF := by
  refine ⟨⟨Tryz.f142, Tryz.func142, by kernel_rfl, by kernel_rfl⟩, fun S w args x hS hgl hargs hpre => ?_⟩
  obtain ⟨x, u⟩ := x
  obtain ⟨ha, hx⟩ := UC hargs
  rw [ha]
  have h0 : 0 ≤ x := hx.1
  have h1 : x ≤ 18446744073709551615 := hx.2
  have := Kl x.toNat (by omega) w (fun j hj => (hgl (5, .u8 Lib.deBruijn64tab) (by simp [qe])).2 j hj)
  rw [Int.toNat_of_nonneg h0] at this
  refine this.mono fun e w' h => ?_
  obtain ⟨rfl, rfl⟩ := h
  exact ⟨_, rfl, Ul (by have := SM x.toNat (by omega); omega), Below.refl _ _⟩
theorem T9 : aX Tryz.prog 42 T0 := by
  refine ⟨⟨Tryz.f42, Tryz.func42, by kernel_rfl, by kernel_rfl⟩, fun S w args x hS hgl hargs hpre => ?_⟩
  obtain ⟨x, u⟩ := x
  obtain ⟨ha, hx⟩ := UC hargs
  rw [ha]
  refine (rE x w hx.1 hx.2).mono fun e w' h => ?_
  obtain ⟨rfl, rfl⟩ := h
  exact ⟨_, rfl, Ul (by have := Lib.bitLen_le x.toNat 64 (by omega) (by omega); omega), Below.refl _ _⟩
end Go.Proofs.YtlnlichdidobpaaGreatDoor.Apic
