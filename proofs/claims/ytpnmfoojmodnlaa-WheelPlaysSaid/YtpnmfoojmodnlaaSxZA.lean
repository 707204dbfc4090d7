/-
  Small rules for the plain conditions.
-/
import Derived.Test.YtpnmfoojmodnlaaSxZ
namespace Go.Sx
theorem flip_f (b : Bool) : (false = b) = (b = false) := by cases b <;> simp
theorem flip_t (b : Bool) : (true = b) = (b = true) := by cases b <;> simp
theorem natlit_lt (n k : Nat) : ((n : Int) < @OfNat.ofNat Int k instOfNat) = (n < k) := by
  apply propext; exact Int.ofNat_lt
theorem natlit_le (n k : Nat) : ((n : Int) ≤ @OfNat.ofNat Int k instOfNat) = (n ≤ k) := by
  apply propext; exact Int.ofNat_le
theorem lit_lt (n k : Nat) : (@OfNat.ofNat Int k instOfNat < (n : Int)) = (k < n) := by
  apply propext; exact Int.ofNat_lt
theorem lit_le (n k : Nat) : (@OfNat.ofNat Int k instOfNat ≤ (n : Int)) = (k ≤ n) := by
  apply propext; exact Int.ofNat_le
theorem natlit_eq (n k : Nat) : ((n : Int) = @OfNat.ofNat Int k instOfNat) = (n = k) := by
  apply propext; exact Int.ofNat_inj
theorem pair_eta {α β : Type} (p : α × β) : (p.1, p.2) = p := rfl
end Go.Sx
