/-
  ClockScales: the conditions hold.
-/
import Derived.Test.YtlkhpbjjimjhbaaClksE
namespace Go.Proofs.Ytlkhpbjjimjhbaa.Clks
open Go.Sx
set_option maxRecDepth 100000
set_option maxHeartbeats 1000000
set_option linter.unusedSimpArgs false
set_option linter.unusedVariables false

theorem takeI_succ {α : Type} (d : α) {l : List α} {k : Int} (h0 : 0 ≤ k) (h1 : k < l.length) : l.take (k + 1).toNat = l.take k.toNat ++ [l.getD k.toNat d] := by
  have e : (k + 1).toNat = k.toNat + 1 := by omega
  have hlt : k.toNat < l.length := by omega
  rw [e, List.take_add_one, List.getElem?_eq_getElem hlt]
  simp [hlt]
theorem takeI_all {α : Type} {l : List α} {k : Int} (h : (l.length : Int) ≤ k) : l.take k.toNat = l := List.take_of_length_le (by omega)
theorem take_zero' {α : Type} {l : List α} : l.take 0 = [] := rfl
theorem e_equal (x : List Int × List Int × Unit) (_ : True) (hl : LensL cEqual.as x) : E_equal x := by
  obtain ⟨xs, ys, u⟩ := x
  have hlx : xs.length ≤ 9223372036854775807 := hl.1.1
  unfold E_equal
  simp only [Bool.not_eq_true', Bool.not_eq_false', Bool.not_eq_true, Bool.not_eq_false, beq_self_eq_true, decide_eq_true_eq, decide_eq_false_iff_not, Bool.not_false, Bool.not_true, beq_iff_eq, beq_eq_false_iff_ne, bne_iff_ne, ne_eq, bne_eq_false_iff_eq, holds_iff, true_and, and_true, and_self, eq_self, List.length_cons, List.length_nil, List.length_append, List.length_set, List.length_replicate, List.set_cons_zero, cond_true, cond_false, Bool.false_eq_true, Bool.true_eq_false, forall_const, false_imp_iff, imp_self, implies_true, and_imp, Decidable.not_not, Bool.and_eq_true, Bool.or_eq_true, Bool.and_eq_false_iff, Bool.or_eq_false_iff, ← List.length_eq_zero_iff, or_self, or_false, false_or, Prod.forall, Int.reduceEq, Int.reduceLT, Int.reduceLE, List.nil_append, Nat.zero_add, Int.toNat_zero, List.drop_zero, List.length_drop, List.length_take, not_true_eq_false, not_false_eq_true]
  try simp only [flip_f, flip_t, decide_eq_true_eq, decide_eq_false_iff_not]
  repeat' (first | apply And.intro | intro _)
  all_goals try omega
  all_goals grind [takeI_succ, takeI_all]
theorem e_wrong (x : (Int × Int) × Unit) (_ : True) (_ : LensL cWrong.as x) : E_wrong x := by
  unfold E_wrong
  simp only [Bool.not_eq_true', Bool.not_eq_false', Bool.not_eq_true, Bool.not_eq_false, beq_self_eq_true, decide_eq_true_eq, decide_eq_false_iff_not, Bool.not_false, Bool.not_true, beq_iff_eq, beq_eq_false_iff_ne, bne_iff_ne, ne_eq, bne_eq_false_iff_eq, holds_iff, true_and, and_true, and_self, eq_self, List.length_cons, List.length_nil, List.length_append, List.length_set, List.length_replicate, List.set_cons_zero, cond_true, cond_false, Bool.false_eq_true, Bool.true_eq_false, forall_const, false_imp_iff, imp_self, implies_true, and_imp, Decidable.not_not, Bool.and_eq_true, Bool.or_eq_true, Bool.and_eq_false_iff, Bool.or_eq_false_iff, ← List.length_eq_zero_iff, or_self, or_false, false_or, Prod.forall, Int.reduceEq, Int.reduceLT, Int.reduceLE, List.nil_append, Nat.zero_add, Int.toNat_zero, List.drop_zero, List.length_drop, List.length_take, not_true_eq_false, not_false_eq_true]
  try simp only [flip_f, flip_t, decide_eq_true_eq, decide_eq_false_iff_not]
  grind [wrong]
theorem e_wwrong (x : (Int × Int) × Unit) (_ : True) (_ : LensL cWrong.as x) : E_wwrong x := by
  unfold E_wwrong
  simp only [Bool.not_eq_true', Bool.not_eq_false', Bool.not_eq_true, Bool.not_eq_false, beq_self_eq_true, decide_eq_true_eq, decide_eq_false_iff_not, Bool.not_false, Bool.not_true, beq_iff_eq, beq_eq_false_iff_ne, bne_iff_ne, ne_eq, bne_eq_false_iff_eq, holds_iff, true_and, and_true, and_self, eq_self, List.length_cons, List.length_nil, List.length_append, List.length_set, List.length_replicate, List.set_cons_zero, cond_true, cond_false, Bool.false_eq_true, Bool.true_eq_false, forall_const, false_imp_iff, imp_self, implies_true, and_imp, Decidable.not_not, Bool.and_eq_true, Bool.or_eq_true, Bool.and_eq_false_iff, Bool.or_eq_false_iff, ← List.length_eq_zero_iff, or_self, or_false, false_or, Prod.forall, Int.reduceEq, Int.reduceLT, Int.reduceLE, List.nil_append, Nat.zero_add, Int.toNat_zero, List.drop_zero, List.length_drop, List.length_take, not_true_eq_false, not_false_eq_true]
  try simp only [flip_f, flip_t, decide_eq_true_eq, decide_eq_false_iff_not]
  grind [wrong]
theorem wrap_u64 (X : Nat) (h : X < 18446744073709551616) : Go.IntKind.wrap .u64 (X : Int) = X := by
  unfold Go.IntKind.wrap
  show (if (false && decide ((X : Int) % 2 ^ 64 ≥ 2 ^ (64 - 1))) = true then _ else (X : Int) % 2 ^ 64) = _
  rw [Bool.false_and, if_neg (by simp)]
  omega
theorem and_mask {x : Int} (h : 0 ≤ x) : Go.bits .and .u64 x 4294967295 = x % 4294967296 := by
  obtain ⟨n, rfl⟩ := Int.eq_ofNat_of_zero_le h
  show Go.IntKind.wrap .u64 (((BitVec.ofInt 64 (n : Int) &&& BitVec.ofInt 64 4294967295).toNat : Nat) : Int) = _
  have e1 : (BitVec.ofInt 64 (n : Int)).toNat = n % 18446744073709551616 := by
    rw [BitVec.toNat_ofInt]
    omega
  have e2 : (BitVec.ofInt 64 (4294967295 : Int)).toNat = 4294967295 := by decide
  rw [BitVec.toNat_and, e1, e2, show 4294967295 = 2 ^ 32 - 1 from rfl, Nat.and_two_pow_sub_one_eq_mod]
  rw [wrap_u64 _ (by omega)]
  omega
theorem p32 : (2 : Int) ^ min (Int.toNat 32) IntKind.u64.bits = 4294967296 := by decide
theorem mul_le {a b A B : Int} (ha : 0 ≤ a) (hA : a ≤ A) (hb : 0 ≤ b) (hB : b ≤ B) : 0 ≤ a * b ∧ a * b ≤ A * B :=
  ⟨Int.mul_nonneg ha hb, Int.mul_le_mul hA hB hb (by omega)⟩
theorem hi_zero {a b c d : Int} (ha : 0 ≤ a ∧ a < 4294967296) (hb : 0 ≤ b ∧ b < 4294967296) (hc : 0 ≤ c ∧ c < 4294967296) (hd : 0 ≤ d ∧ d < 4294967296)
    (h : (a * 4294967296 + b) * (c * 4294967296 + d) < 18446744073709551616) : a * c = 0 ∧ a * d + b * c + b * d / 4294967296 < 4294967296 := by
  have e : (a * 4294967296 + b) * (c * 4294967296 + d) = (a * c) * 18446744073709551616 + (a * d + b * c) * 4294967296 + b * d := by grind
  rw [e] at h
  have h1 := mul_le ha.1 (Int.le_of_lt ha.2) hc.1 (Int.le_of_lt hc.2)
  have h2 := mul_le ha.1 (Int.le_of_lt ha.2) hd.1 (Int.le_of_lt hd.2)
  have h3 := mul_le hb.1 (Int.le_of_lt hb.2) hc.1 (Int.le_of_lt hc.2)
  have h4 := mul_le hb.1 (Int.le_of_lt hb.2) hd.1 (Int.le_of_lt hd.2)
  omega
theorem e_mul (x : Int × Int × Unit) (hpre : (0 ≤ x.1 ∧ x.1 < 18446744073709551616) ∧ (0 ≤ x.2.1 ∧ x.2.1 < 18446744073709551616) ∧ x.1 * x.2.1 < 18446744073709551616) (hlens : LensL cMul.as x) : E_mul x := by
  obtain ⟨x, y, u⟩ := x
  unfold E_mul
  obtain ⟨⟨hx0, hx1⟩, ⟨hy0, hy1⟩, hxy⟩ := hpre
  simp only [] at hx0 hx1 hy0 hy1 hxy
  simp only [Bool.not_eq_true', Bool.not_eq_false', Bool.not_eq_true, Bool.not_eq_false, beq_self_eq_true, decide_eq_true_eq, decide_eq_false_iff_not, Bool.not_false, Bool.not_true, beq_iff_eq, beq_eq_false_iff_ne, bne_iff_ne, ne_eq, bne_eq_false_iff_eq, holds_iff, true_and, and_true, and_self, eq_self, List.length_cons, List.length_nil, List.length_append, List.length_set, List.length_replicate, List.set_cons_zero, cond_true, cond_false, Bool.false_eq_true, Bool.true_eq_false, forall_const, false_imp_iff, imp_self, implies_true, and_imp, Decidable.not_not, Bool.and_eq_true, Bool.or_eq_true, Bool.and_eq_false_iff, Bool.or_eq_false_iff, ← List.length_eq_zero_iff, or_self, or_false, false_or, Prod.forall, Int.reduceEq, Int.reduceLT, Int.reduceLE, List.nil_append, Nat.zero_add, Int.toNat_zero, List.drop_zero, List.length_drop, List.length_take, not_true_eq_false, not_false_eq_true,  p32, and_mask hx0, and_mask hy0]
  have hz := Int.mul_nonneg hx0 hy0
  have ex : x = x / 4294967296 * 4294967296 + x % 4294967296 := by omega
  have ey : y = y / 4294967296 * 4294967296 + y % 4294967296 := by omega
  have key := hi_zero (a := x / 4294967296) (b := x % 4294967296) (c := y / 4294967296) (d := y % 4294967296) (by omega) (by omega) (by omega) (by omega) (by rw [← ex, ← ey]; exact hxy)
  have ha : 0 ≤ x / 4294967296 ∧ x / 4294967296 ≤ 4294967295 := by omega
  have hb : 0 ≤ x % 4294967296 ∧ x % 4294967296 ≤ 4294967295 := by omega
  have hc : 0 ≤ y / 4294967296 ∧ y / 4294967296 ≤ 4294967295 := by omega
  have hd : 0 ≤ y % 4294967296 ∧ y % 4294967296 ≤ 4294967295 := by omega
  clear ex ey
  generalize x / 4294967296 = a at *
  generalize x % 4294967296 = b at *
  generalize y / 4294967296 = c at *
  generalize y % 4294967296 = d at *
  have h1 := mul_le ha.1 ha.2 hc.1 hc.2
  have h2 := mul_le ha.1 ha.2 hd.1 hd.2
  have h3 := mul_le hb.1 hb.2 hc.1 hc.2
  have h4 := mul_le hb.1 hb.2 hd.1 hd.2
  have h5 : 0 ≤ a * d + b * d / 4294967296 := by omega
  rw [and_mask h5]
  generalize a * c = p at *
  generalize a * d = q at *
  generalize b * c = r at *
  generalize b * d = s at *
  generalize x * y = z at *
  omega
theorem e_div (x : Int × Int × Int × Unit) (hpre : x.1 = 0 ∧ 0 ≤ x.2.1 ∧ 1 ≤ x.2.2.1) (hlens : LensL cDiv.as x) : E_div x := by
  obtain ⟨h, l, y, u⟩ := x
  have hpre : h = 0 ∧ 0 ≤ l ∧ 1 ≤ y := hpre
  unfold E_div
  simp only [Bool.not_eq_true', Bool.not_eq_false', Bool.not_eq_true, Bool.not_eq_false, beq_self_eq_true, decide_eq_true_eq, decide_eq_false_iff_not, Bool.not_false, Bool.not_true, beq_iff_eq, beq_eq_false_iff_ne, bne_iff_ne, ne_eq, bne_eq_false_iff_eq, holds_iff, true_and, and_true, and_self, eq_self, List.length_cons, List.length_nil, List.length_append, List.length_set, List.length_replicate, List.set_cons_zero, cond_true, cond_false, Bool.false_eq_true, Bool.true_eq_false, forall_const, false_imp_iff, imp_self, implies_true, and_imp, Decidable.not_not, Bool.and_eq_true, Bool.or_eq_true, Bool.and_eq_false_iff, Bool.or_eq_false_iff, ← List.length_eq_zero_iff, or_self, or_false, false_or, Prod.forall, Int.reduceEq, Int.reduceLT, Int.reduceLE, List.nil_append, Nat.zero_add, Int.toNat_zero, List.drop_zero, List.length_drop, List.length_take, not_true_eq_false, not_false_eq_true,  pair_eta]
  omega
theorem div_le' {a b : Int} (h0 : 0 ≤ a) (h1 : 1 ≤ b) : 0 ≤ a / b ∧ a / b ≤ a := ⟨Int.ediv_nonneg h0 (by omega), Int.ediv_le_self b h0⟩
theorem mod_lt' {a b : Int} (h1 : 1 ≤ b) : 0 ≤ a % b ∧ a % b ≤ b - 1 := ⟨Int.emod_nonneg a (by omega), by have := Int.emod_lt_of_pos a (show 0 < b by omega); omega⟩
theorem e_thr (x : Int × Int × Int × Bool × Unit) (hpre : (0 ≤ x.1 ∧ x.1 < 9223372036854775807) ∧ (0 ≤ x.2.1 ∧ x.2.1 < 9223372036854775807) ∧ (1 ≤ x.2.2.1 ∧ x.2.2.1 < 9223372036854775807) ∧ x.1 * x.2.1 < 9223372036854775807) (hlens : LensL cThr.as x) : E_thr x := by
  obtain ⟨a, b, c, up, u⟩ := x
  obtain ⟨⟨ha0, ha1⟩, ⟨hb0, hb1⟩, ⟨hc0, hc1⟩, hm⟩ := hpre
  simp only [] at ha0 ha1 hb0 hb1 hc0 hc1 hm
  unfold E_thr
  simp only [Bool.not_eq_true', Bool.not_eq_false', Bool.not_eq_true, Bool.not_eq_false, beq_self_eq_true, decide_eq_true_eq, decide_eq_false_iff_not, Bool.not_false, Bool.not_true, beq_iff_eq, beq_eq_false_iff_ne, bne_iff_ne, ne_eq, bne_eq_false_iff_eq, holds_iff, true_and, and_true, and_self, eq_self, List.length_cons, List.length_nil, List.length_append, List.length_set, List.length_replicate, List.set_cons_zero, cond_true, cond_false, Bool.false_eq_true, Bool.true_eq_false, forall_const, false_imp_iff, imp_self, implies_true, and_imp, Decidable.not_not, Bool.and_eq_true, Bool.or_eq_true, Bool.and_eq_false_iff, Bool.or_eq_false_iff, ← List.length_eq_zero_iff, or_self, or_false, false_or, Prod.forall, Int.reduceEq, Int.reduceLT, Int.reduceLE, List.nil_append, Nat.zero_add, Int.toNat_zero, List.drop_zero, List.length_drop, List.length_take, not_true_eq_false, not_false_eq_true,  pair_eta]
  have hz := Int.mul_nonneg ha0 hb0
  have hq := div_le' hz hc0
  have hr := mod_lt' (a := a * b) hc0
  unfold thr
  refine ⟨by omega, by omega, by omega, by omega, by omega, fun h1 h2 => ⟨by omega, by omega, by rw [if_pos ⟨h1, h2⟩]⟩, fun h1 => ⟨by omega, ?_⟩⟩
  rw [if_neg]
  rintro ⟨h2, h3⟩
  rcases h1 with h1 | h1
  · rw [h1] at h2; cases h2
  · exact h1 h3
theorem scale_law {n d t : Int} (hd : 1 ≤ d) : t / d * n + t % d * n / d = t * n / d := by
  have e : t * n = t % d * n + d * (t / d * n) := by
    have := Int.emod_add_mul_ediv t d
    grind
  rw [e, Int.add_mul_ediv_left _ _ (show d ≠ 0 by omega)]
  omega
theorem ceil_law {m n : Int} (hn : 1 ≤ n) : (m + n - 1) / n = if 0 < m % n then m / n + 1 else m / n := by
  have h := mod_lt' (a := m) hn
  have e : m + n - 1 = (m % n + n - 1) + n * (m / n) := by
    have := Int.emod_add_mul_ediv m n
    omega
  rw [e, Int.add_mul_ediv_left _ _ (show n ≠ 0 by omega)]
  split
  · rw [show m % n + n - 1 = (m % n - 1) + n * 1 by omega, Int.add_mul_ediv_left _ _ (show n ≠ 0 by omega), Int.ediv_eq_zero_of_lt (by omega) (by omega)]
    omega
  · rw [Int.ediv_eq_zero_of_lt (by omega) (by omega)]
    omega
theorem wrong_ok {n d : Int} (h : wrong n d = 0) : (1 ≤ n ∧ n ≤ 1048576) ∧ (1 ≤ d ∧ d ≤ 1048576) := by
  unfold wrong at h
  split at h <;> omega
theorem e_scale (x : (Int × Int) × Int × Unit) (hpre : True) (hlens : LensL cScale.as x) : E_scale x := by
  obtain ⟨⟨n, d⟩, t, u⟩ := x
  unfold E_scale
  simp only [Bool.not_eq_true', Bool.not_eq_false', Bool.not_eq_true, Bool.not_eq_false, beq_self_eq_true, decide_eq_true_eq, decide_eq_false_iff_not, Bool.not_false, Bool.not_true, beq_iff_eq, beq_eq_false_iff_ne, bne_iff_ne, ne_eq, bne_eq_false_iff_eq, holds_iff, true_and, and_true, and_self, eq_self, List.length_cons, List.length_nil, List.length_append, List.length_set, List.length_replicate, List.set_cons_zero, cond_true, cond_false, Bool.false_eq_true, Bool.true_eq_false, forall_const, false_imp_iff, imp_self, implies_true, and_imp, Decidable.not_not, Bool.and_eq_true, Bool.or_eq_true, Bool.and_eq_false_iff, Bool.or_eq_false_iff, ← List.length_eq_zero_iff, or_self, or_false, false_or, Prod.forall, Int.reduceEq, Int.reduceLT, Int.reduceLE, List.nil_append, Nat.zero_add, Int.toNat_zero, List.drop_zero, List.length_drop, List.length_take, not_true_eq_false, not_false_eq_true,  pair_eta]
  unfold scale
  refine ⟨fun h => by rw [if_pos (by grind)]; exact ⟨rfl, rfl⟩, fun h1 h2 h3 => ?_⟩
  rw [if_neg (by grind)]
  obtain ⟨hn, hd⟩ := wrong_ok h1
  rw [scale_law hd.1]
  have hq := div_le' (a := t) (b := d) (by omega) hd.1
  have hr := mod_lt' (a := t) hd.1
  have g1 := mul_le hq.1 (show t / d ≤ 1099511627776 by omega) (show 0 ≤ n by omega) hn.2
  have g2 := mul_le hr.1 (show t % d ≤ 1048576 by omega) (show 0 ≤ n by omega) hn.2
  have g3 := div_le' g2.1 hd.1
  have g4 := scale_law (n := n) (t := t) hd.1
  generalize t / d = q at *
  generalize t % d = r at *
  generalize t * n / d = z at *
  generalize r * n = rn at *
  generalize q * n = qn at *
  generalize rn / d = rd at *
  exact ⟨by omega, by omega, by omega, by omega, by omega, by omega, rfl, rfl⟩
theorem ticks_law {n d t : Int} (hn : 1 ≤ n) : t / n * d + (t % n * d + n - 1) / n = thr t d n true := by
  unfold thr
  rw [ceil_law hn, ← scale_law (n := d) (t := t) hn]
  have e : t * d % n = t % n * d % n := by
    rw [Int.mul_emod t d n, Int.mul_emod (t % n) d n, Int.emod_emod]
  rw [e]
  simp only [true_and, eq_self]
  split <;> omega
theorem e_ticks (x : (Int × Int) × Int × Unit) (hpre : True) (hlens : LensL cTicks.as x) : E_ticks x := by
  obtain ⟨⟨n, d⟩, t, u⟩ := x
  unfold E_ticks
  simp only [Bool.not_eq_true', Bool.not_eq_false', Bool.not_eq_true, Bool.not_eq_false, beq_self_eq_true, decide_eq_true_eq, decide_eq_false_iff_not, Bool.not_false, Bool.not_true, beq_iff_eq, beq_eq_false_iff_ne, bne_iff_ne, ne_eq, bne_eq_false_iff_eq, holds_iff, true_and, and_true, and_self, eq_self, List.length_cons, List.length_nil, List.length_append, List.length_set, List.length_replicate, List.set_cons_zero, cond_true, cond_false, Bool.false_eq_true, Bool.true_eq_false, forall_const, false_imp_iff, imp_self, implies_true, and_imp, Decidable.not_not, Bool.and_eq_true, Bool.or_eq_true, Bool.and_eq_false_iff, Bool.or_eq_false_iff, ← List.length_eq_zero_iff, or_self, or_false, false_or, Prod.forall, Int.reduceEq, Int.reduceLT, Int.reduceLE, List.nil_append, Nat.zero_add, Int.toNat_zero, List.drop_zero, List.length_drop, List.length_take, not_true_eq_false, not_false_eq_true,  pair_eta]
  unfold ticks
  refine ⟨fun h => by rw [if_pos (by grind)]; exact ⟨rfl, rfl⟩, fun h1 h2 h3 => ?_⟩
  rw [if_neg (by grind)]
  obtain ⟨hn, hd⟩ := wrong_ok h1
  rw [ticks_law hn.1]
  have hq := div_le' (a := t) (b := n) (by omega) hn.1
  have hr := mod_lt' (a := t) hn.1
  have g1 := mul_le hq.1 (show t / n ≤ 1099511627776 by omega) (show 0 ≤ d by omega) hd.2
  have g2 := mul_le hr.1 (show t % n ≤ 1048576 by omega) (show 0 ≤ d by omega) hd.2
  have g3 := div_le' (a := t % n * d + n - 1) (b := n) (by omega) hn.1
  have g4 := ticks_law (d := d) (t := t) hn.1
  generalize t / n = q at *
  generalize t % n = r at *
  generalize thr t d n true = z at *
  generalize r * d = rn at *
  generalize q * d = qn at *
  generalize (rn + n - 1) / n = rd at *
  exact ⟨by omega, by omega, by omega, by omega, by omega, by omega, by omega, by omega, rfl, rfl⟩
theorem all_false {l : List Int} {k : Nat} (h : k < l.length) (hb : inS (l.getD k 0) = false) : l.all inS = false := by
  rw [List.all_eq_false]
  refine ⟨l.getD k 0, ?_, by rw [hb]; decide⟩
  rw [List.getD_eq_getElem?_getD, List.getElem?_eq_getElem h]
  exact List.getElem_mem h
theorem inS_bad {a : Int} (h : a < 0 ∨ 1073741824 < a) : inS a = false := by unfold inS; grind
theorem inS_ok {a : Int} (h : 0 ≤ a) (h' : a ≤ 1073741824) : inS a = true := by unfold inS; grind
theorem all_next {l : List Int} {k : Int} (h0 : 0 ≤ k) (h : k < l.length) (ha : (l.take k.toNat).all inS = true) (h1 : ¬ l.getD k.toNat 0 < 0) (h2 : ¬ 1073741824 < l.getD k.toNat 0) : (l.take (k + 1).toNat).all inS = true := by
  rw [takeI_succ 0 h0 h, List.all_append, ha, List.all_cons, inS_ok (by omega) (by omega)]
  rfl
theorem e_any (x : List Int × Unit) (hpre : True) (hlens : LensL cAny.as x) : E_any x := by
  obtain ⟨x, u⟩ := x
  have hlx : x.length ≤ 9223372036854775807 := hlens.1.1
  unfold E_any
  simp only [Bool.not_eq_true', Bool.not_eq_false', Bool.not_eq_true, Bool.not_eq_false, beq_self_eq_true, decide_eq_true_eq, decide_eq_false_iff_not, Bool.not_false, Bool.not_true, beq_iff_eq, beq_eq_false_iff_ne, bne_iff_ne, ne_eq, bne_eq_false_iff_eq, holds_iff, true_and, and_true, and_self, eq_self, List.length_cons, List.length_nil, List.length_append, List.length_set, List.length_replicate, List.set_cons_zero, cond_true, cond_false, Bool.false_eq_true, Bool.true_eq_false, forall_const, false_imp_iff, imp_self, implies_true, and_imp, Decidable.not_not, Bool.and_eq_true, Bool.or_eq_true, Bool.and_eq_false_iff, Bool.or_eq_false_iff, ← List.length_eq_zero_iff, or_self, or_false, false_or, Prod.forall, Int.reduceEq, Int.reduceLT, Int.reduceLE, List.nil_append, Nat.zero_add, Int.toNat_zero, List.drop_zero, List.length_drop, List.length_take, not_true_eq_false, not_false_eq_true,  pair_eta]
  refine ⟨⟨by omega, rfl⟩, ?_⟩
  intro k _ h0 h1 h2 _ _
  refine ⟨fun h => ⟨⟨h0, h⟩, fun hb => ?_, fun g1 g2 => ⟨by omega, ⟨by omega, by omega, all_next h0 h h2 g1 g2⟩, by omega⟩⟩, fun h => ?_⟩
  · rw [all_false (by omega) (inS_bad hb), decide_eq_true h0]; rfl
  · rw [takeI_all (by omega)] at h2
    rw [h2]; rfl
theorem stp_snoc (n d : Int) (l : List Int) (a : Int) : stp n d (l ++ [a]) = sone n d (stp n d l) a := by simp [stp, List.foldl_append]
theorem stp_next {n d : Int} {l : List Int} {k : Int} (h0 : 0 ≤ k) (h : k < l.length) : stp n d (l.take (k + 1).toNat) = sone n d (stp n d (l.take k.toNat)) (l.getD k.toNat 0) := by rw [takeI_succ 0 h0 h, stp_snoc]
theorem all_get {l : List Int} {k : Nat} (h : k < l.length) (ha : l.all inS = true) : 0 ≤ l.getD k 0 ∧ l.getD k 0 ≤ 1073741824 := by
  have := List.all_eq_true.1 ha (l.getD k 0) (by rw [List.getD_eq_getElem?_getD, List.getElem?_eq_getElem h]; exact List.getElem_mem h)
  unfold inS at this
  grind
theorem stp_range (n d : Int) : ∀ l : List Int, l.all inS = true → 0 ≤ (stp n d l).1 ∧ (stp n d l).1 ≤ l.length * 1073741824 := by
  intro l
  generalize hr : l.reverse = r
  have hl : l = r.reverse := by rw [← hr, List.reverse_reverse]
  subst hl
  clear hr
  induction r with
  | nil => intro _; exact ⟨Int.le_refl _, Int.le_refl _⟩
  | cons a r ih =>
    intro h
    rw [List.reverse_cons, List.all_append, Bool.and_eq_true] at h
    obtain ⟨h1, h2⟩ := h
    have := ih h1
    have ha : 0 ≤ a ∧ a ≤ 1073741824 := by
      simp only [List.all_cons, List.all_nil, Bool.and_true, inS, Bool.and_eq_true, decide_eq_true_eq] at h2
      exact h2
    rw [List.reverse_cons, stp_snoc]
    simp only [sone, List.length_append, List.length_cons, List.length_nil]
    omega
theorem step_law {n d s a : Int} (hd : 1 ≤ d) : (a * n + s * n % d) / d = (s + a) * n / d - s * n / d ∧ (a * n + s * n % d) % d = (s + a) * n % d := by
  have e : (s + a) * n = (a * n + s * n % d) + d * (s * n / d) := by
    have := Int.emod_add_mul_ediv (s * n) d
    grind
  rw [e, Int.add_mul_ediv_left _ _ (show d ≠ 0 by omega), Int.add_mul_emod_self_left]
  omega
theorem steps_w {n d : Int} {l : List Int} (h : ¬ wrong n d = 0) : steps n d l = ([], wrong n d, ()) := if_pos h
theorem steps_ok {n d : Int} {l : List Int} (h : wrong n d = 0) (h1 : ¬ (400 : Int) < l.length) (h2 : l.all inS = true) : steps n d l = ((stp n d l).2, 0, ()) := by
  unfold steps
  rw [if_neg (fun g => g h), if_pos ⟨by omega, h2⟩]
theorem steps_bad {n d : Int} {l : List Int} (h : wrong n d = 0) (h1 : (400 : Int) < l.length ∨ l.all inS = false) : steps n d l = ([], 2, ()) := by
  unfold steps
  rw [if_neg (fun g => g h), if_neg]
  rintro ⟨g1, g2⟩
  rcases h1 with h1 | h1
  · omega
  · rw [h1] at g2; cases g2
theorem e_steps (x : (Int × Int) × List Int × Unit) (hpre : True) (hlens : LensL cSteps.as x) : E_steps x := by
  obtain ⟨⟨n, d⟩, x, u⟩ := x
  unfold E_steps
  simp only [Bool.not_eq_true', Bool.not_eq_false', Bool.not_eq_true, Bool.not_eq_false, beq_self_eq_true, decide_eq_true_eq, decide_eq_false_iff_not, Bool.not_false, Bool.not_true, beq_iff_eq, beq_eq_false_iff_ne, bne_iff_ne, ne_eq, bne_eq_false_iff_eq, holds_iff, true_and, and_true, and_self, eq_self, List.length_cons, List.length_nil, List.length_append, List.length_set, List.length_replicate, List.set_cons_zero, cond_true, cond_false, Bool.false_eq_true, Bool.true_eq_false, forall_const, false_imp_iff, imp_self, implies_true, and_imp, Decidable.not_not, Bool.and_eq_true, Bool.or_eq_true, Bool.and_eq_false_iff, Bool.or_eq_false_iff, ← List.length_eq_zero_iff, or_self, or_false, false_or, Prod.forall, Int.reduceEq, Int.reduceLT, Int.reduceLE, List.nil_append, Nat.zero_add, Int.toNat_zero, List.drop_zero, List.length_drop, List.length_take, not_true_eq_false, not_false_eq_true,  pair_eta]
  refine ⟨fun h => by rw [steps_w h]; exact ⟨rfl, rfl⟩, fun h => ⟨fun hl => ⟨hl, fun ha => by rw [steps_bad h (Or.inr ha)]; exact ⟨rfl, rfl⟩, fun ha => ⟨⟨by omega, rfl, rfl, by simp [stp]⟩, ?_⟩⟩, fun hl => by rw [steps_bad h (Or.inl hl)]; exact ⟨rfl, rfl⟩⟩⟩
  intro a b out over k hk0 hk1 hlen hab ho hov _ _ _ _ _ _ _ _ _ _
  obtain ⟨rfl, rfl⟩ := Prod.mk.inj hab
  obtain ⟨hn, hd⟩ := wrong_ok h
  refine ⟨fun hk => ?_, fun hk => ?_⟩
  · have hg := all_get (k := k.toNat) (by omega) ha
    have hnx := stp_next (n := a) (d := b) hk0 hk
    rw [hnx]
    generalize x.getD k.toNat 0 = t at *
    generalize stp a b (x.take k.toNat) = s at *
    have hlaw := step_law (n := a) (s := s.1) (a := t) hd.1
    rw [← hov] at hlaw
    have hm := mod_lt' (a := s.1 * a) hd.1
    rw [← hov] at hm
    have ht := mul_le hg.1 hg.2 (show 0 ≤ a by omega) hn.2
    unfold sone
    rw [hlaw.1, hlaw.2]
    rw [ho] at hlen
    rw [ho]
    refine ⟨⟨hk0, hk⟩, by omega, by omega, by omega, by omega, by omega, by omega, ⟨by omega, by omega, by omega, rfl, rfl, rfl⟩, by omega⟩
  · rw [takeI_all (by omega)] at ho
    rw [steps_ok h hl ha]
    exact ⟨ho, rfl⟩
theorem thr_false (a b c : Int) : thr a b c false = a * b / c := by unfold thr; rw [if_neg]; rintro ⟨h, _⟩; cases h
theorem e_wsteps (x : (Int × Int) × List Int × Unit) (hpre : True) (hlens : LensL cSteps.as x) : E_wsteps x := by
  obtain ⟨⟨n, d⟩, x, u⟩ := x
  unfold E_wsteps
  simp only [Bool.not_eq_true', Bool.not_eq_false', Bool.not_eq_true, Bool.not_eq_false, beq_self_eq_true, decide_eq_true_eq, decide_eq_false_iff_not, Bool.not_false, Bool.not_true, beq_iff_eq, beq_eq_false_iff_ne, bne_iff_ne, ne_eq, bne_eq_false_iff_eq, holds_iff, true_and, and_true, and_self, eq_self, List.length_cons, List.length_nil, List.length_append, List.length_set, List.length_replicate, List.set_cons_zero, cond_true, cond_false, Bool.false_eq_true, Bool.true_eq_false, forall_const, false_imp_iff, imp_self, implies_true, and_imp, Decidable.not_not, Bool.and_eq_true, Bool.or_eq_true, Bool.and_eq_false_iff, Bool.or_eq_false_iff, ← List.length_eq_zero_iff, or_self, or_false, false_or, Prod.forall, Int.reduceEq, Int.reduceLT, Int.reduceLE, List.nil_append, Nat.zero_add, Int.toNat_zero, List.drop_zero, List.length_drop, List.length_take, not_true_eq_false, not_false_eq_true,  pair_eta, thr_false]
  refine ⟨fun h => by rw [steps_w h]; exact ⟨rfl, rfl⟩, fun h => ⟨fun hl => by rw [steps_bad h (Or.inl hl)]; exact ⟨rfl, rfl⟩, fun hl => ⟨⟨by omega, rfl, rfl, rfl, rfl, by simp⟩, ?_⟩⟩⟩
  intro a b out sum had k hk0 hk1 hlen hab hal ho hs hh _ _ _ _ _ _ _ _ _ _ _ _
  obtain ⟨rfl, rfl⟩ := Prod.mk.inj hab
  obtain ⟨hn, hd⟩ := wrong_ok h
  refine ⟨fun hk => ⟨⟨hk0, hk⟩, fun hb => by rw [steps_bad h (Or.inr (all_false (by omega) (inS_bad hb)))]; exact ⟨rfl, rfl⟩, fun g1 g2 => ?_⟩, fun hk => ?_⟩
  · have hnx := stp_next (n := a) (d := b) hk0 hk
    have hr := stp_range a b _ hal
    rw [List.length_take] at hr
    have han := all_next hk0 hk hal g1 g2
    rw [hnx]
    generalize x.getD k.toNat 0 = t at *
    generalize stp a b (x.take k.toNat) = s at *
    have q1 : 0 ≤ sum + t ∧ sum + t ≤ 430570471424 := by omega
    have q2 := mul_le q1.1 q1.2 (show 0 ≤ a by omega) hn.2
    have q3 := div_le' q2.1 hd.1
    have q4 := mul_le (show 0 ≤ sum by omega) (show sum ≤ 430570471424 by omega) (show 0 ≤ a by omega) hn.2
    have q5 := div_le' q4.1 hd.1
    rw [← hh] at q5
    subst hs
    unfold sone
    rw [ho, hh]
    simp only []
    rw [hh] at q5
    rw [ho] at hlen
    refine ⟨by omega, ⟨by omega, by omega, by omega, by omega⟩, by omega, by omega, by omega, ⟨by omega, by omega, by omega, trivial, han, trivial, trivial⟩, by omega⟩
  · rw [takeI_all (by omega)] at ho hal
    rw [steps_ok h hl hal]
    exact ⟨ho, rfl⟩
theorem e_wscale (x : (Int × Int) × Int × Unit) (hpre : True) (hlens : LensL cScale.as x) : E_wscale x := by
  obtain ⟨⟨n, d⟩, t, u⟩ := x
  unfold E_wscale
  simp only [Bool.not_eq_true', Bool.not_eq_false', Bool.not_eq_true, Bool.not_eq_false, beq_self_eq_true, decide_eq_true_eq, decide_eq_false_iff_not, Bool.not_false, Bool.not_true, beq_iff_eq, beq_eq_false_iff_ne, bne_iff_ne, ne_eq, bne_eq_false_iff_eq, holds_iff, true_and, and_true, and_self, eq_self, List.length_cons, List.length_nil, List.length_append, List.length_set, List.length_replicate, List.set_cons_zero, cond_true, cond_false, Bool.false_eq_true, Bool.true_eq_false, forall_const, false_imp_iff, imp_self, implies_true, and_imp, Decidable.not_not, Bool.and_eq_true, Bool.or_eq_true, Bool.and_eq_false_iff, Bool.or_eq_false_iff, ← List.length_eq_zero_iff, or_self, or_false, false_or, Prod.forall, Int.reduceEq, Int.reduceLT, Int.reduceLE, List.nil_append, Nat.zero_add, Int.toNat_zero, List.drop_zero, List.length_drop, List.length_take, not_true_eq_false, not_false_eq_true,  pair_eta, thr_false]
  unfold scale
  refine ⟨fun h => by rw [if_pos (by grind)]; exact ⟨rfl, rfl⟩, fun h1 h2 h3 => ?_⟩
  rw [if_neg (by grind)]
  obtain ⟨hn, hd⟩ := wrong_ok h1
  have q2 := mul_le (show 0 ≤ t by omega) (show t ≤ 1099511627776 by omega) (show 0 ≤ n by omega) hn.2
  exact ⟨⟨by omega, by omega, by omega, by omega⟩, rfl, rfl⟩
theorem e_scales (x : (Int × Int) × Int × Int × List Int × Unit) (hpre : True) (hlens : LensL cLaw.as x) : E_scales x := by
  obtain ⟨⟨n, d⟩, a, b, x, u⟩ := x
  unfold E_scales
  simp only [Bool.not_eq_true', Bool.not_eq_false', Bool.not_eq_true, Bool.not_eq_false, beq_self_eq_true, decide_eq_true_eq, decide_eq_false_iff_not, Bool.not_false, Bool.not_true, beq_iff_eq, beq_eq_false_iff_ne, bne_iff_ne, ne_eq, bne_eq_false_iff_eq, holds_iff, true_and, and_true, and_self, eq_self, List.length_cons, List.length_nil, List.length_append, List.length_set, List.length_replicate, List.set_cons_zero, cond_true, cond_false, Bool.false_eq_true, Bool.true_eq_false, forall_const, false_imp_iff, imp_self, implies_true, and_imp, Decidable.not_not, Bool.and_eq_true, Bool.or_eq_true, Bool.and_eq_false_iff, Bool.or_eq_false_iff, ← List.length_eq_zero_iff, or_self, or_false, false_or, Prod.forall, Int.reduceEq, Int.reduceLT, Int.reduceLE, List.nil_append, Nat.zero_add, Int.toNat_zero, List.drop_zero, List.length_drop, List.length_take, not_true_eq_false, not_false_eq_true,  deq_iff, deq_false, pair_eta]
  unfold ticks
  refine ⟨fun h => by rw [if_pos (by grind)]; exact ⟨rfl, rfl⟩, fun h1 h2 h3 => ?_⟩
  rw [if_neg (by grind)]
  obtain ⟨hn, hd⟩ := wrong_ok h1
  have q2 := mul_le (show 0 ≤ b by omega) (show b ≤ 1099511627776 by omega) (show 0 ≤ d by omega) hd.2
  exact ⟨fun _ => ⟨rfl, by omega, by omega, by omega, by omega⟩, rfl, rfl⟩
theorem pre_scales (x : HL cLaw.as) (_ : GoodL cLaw.as x) (h : FitL cLaw.as x) : True := trivial

end Go.Proofs.Ytlkhpbjjimjhbaa.Clks
