/-
  BenchReads: a line as the document reads it.
-/
import Derived.Test.YtjafnenkgmbgaaaDoorBenchP5
namespace Go.Proofs.YtjafnenkgmbgaaaDoor.Bench
open Go.Sx
set_option maxRecDepth 100000
set_option maxHeartbeats 1000000
set_option linter.unusedSimpArgs false
set_option linter.unusedVariables false

theorem zst_1 {s w : List Int} {k L : Nat} {κ : Int} (hκ : 7 - ((k : Int) + 1) = κ) (hw : wordAt κ = w) (hL : w.length + 1 = L) (h : s.length ≤ L ∨ ¬ s.take L = w ++ [32]) : zreadO s (k + 1) = zreadO s k := by
  rw [zreadO, hκ, hw, hL, if_pos h]
theorem zst_2 {s w : List Int} {k L : Nat} {κ : Int} (hκ : 7 - ((k : Int) + 1) = κ) (hw : wordAt κ = w) (hL : w.length + 1 = L) (h : ¬ s.length ≤ L) (h' : s.take L = w ++ [32])
    (h2 : pu41E (s.drop L) = true ∨ 1099511627776 < pu41V (s.drop L) ∨ ¬ dec (pu41V (s.drop L)) = s.drop L ∨ (κ = 1 ∧ 255 < pu41V (s.drop L))) : zreadO s (k + 1) = ((0, 0, 0, 0), false) := by
  rw [zreadO, hκ, hw, hL, if_neg (fun e => e.elim h (fun e => e h'))]
  simp only []
  rw [if_pos h2]
theorem zst_3 {s w : List Int} {k L : Nat} {κ : Int} (hκ : 7 - ((k : Int) + 1) = κ) (hw : wordAt κ = w) (hL : w.length + 1 = L) (h : ¬ s.length ≤ L) (h' : s.take L = w ++ [32])
    (h2 : pu41E (s.drop L) = false) (h3 : ¬ 1099511627776 < pu41V (s.drop L)) (h4 : dec (pu41V (s.drop L)) = s.drop L) (h5 : κ = 1 → ¬ 255 < pu41V (s.drop L)) : zreadO s (k + 1) = (mkO κ (pu41V (s.drop L)), true) := by
  rw [zreadO, hκ, hw, hL, if_neg (fun e => e.elim h (fun e => e h'))]
  simp only []
  rw [if_neg]
  rintro (e | e | e | e)
  · rw [h2] at e
    cases e
  · exact h3 e
  · exact e h4
  · exact h5 e.1 e.2
theorem zc {s w : List Int} {k L : Nat} {κ : Int} (LI : Int) (hLI : LI = L) (hp : s.length ≤ 1048576) (hκ : 7 - ((k : Int) + 1) = κ) (h1 : ¬ κ = 1) (hw : wordAt κ = w) (hL : w.length + 1 = L) (hz : zreadB s = zreadO s (k + 1)) (o : KO) (ho : o = mkO κ (pu41V (s.drop L))) :
    (¬ (s.length : Int) ≤ LI → ¬ (s.length : Int) ≤ LI ∧ LI ≤ s.length) ∧ ((s.length : Int) ≤ LI ∨ ¬ s.take L = w ++ [32] → zreadB s = zreadO s k ∧ k < k + 1) ∧
    (¬ (s.length : Int) ≤ LI → s.take L = w ++ [32] → (LI ≤ s.length ∧ (s.length : Int) ≤ s.length) ∧ s.length - L ≤ 1048576 ∧
      (pu41E (s.drop L) = false → (¬ 1099511627776 < pu41V (s.drop L) → pu41V (s.drop L) ≤ 1099511627776 ∧ (LI ≤ s.length ∧ (s.length : Int) ≤ s.length) ∧
        (dec (pu41V (s.drop L)) = s.drop L → (-9223372036854775808 ≤ pu41V (s.drop L) ∧ pu41V (s.drop L) ≤ 9223372036854775807) ∧ o = (zreadB s).1 ∧ true = (zreadB s).2) ∧
        (¬ dec (pu41V (s.drop L)) = s.drop L → (0, 0, 0, 0) = (zreadB s).1 ∧ false = (zreadB s).2)) ∧ (1099511627776 < pu41V (s.drop L) → (0, 0, 0, 0) = (zreadB s).1 ∧ false = (zreadB s).2)) ∧
      (pu41E (s.drop L) = true → (0, 0, 0, 0) = (zreadB s).1 ∧ false = (zreadB s).2)) := by
  subst hLI
  have hV := pu41V_nn (s.drop L)
  rw [hz]
  refine ⟨fun h => ⟨h, by omega⟩, fun h => ⟨zst_1 hκ hw hL (h.imp_left (by omega)), by omega⟩, fun g1 g2 => ⟨⟨by omega, by omega⟩, by omega, fun g3 => ⟨fun g4 => ⟨by omega, ⟨by omega, by omega⟩, fun g5 => ⟨by omega, ?_⟩, fun g5 => ?_⟩, fun g4 => ?_⟩, fun g3 => ?_⟩⟩
  · rw [zst_3 hκ hw hL (by omega) g2 g3 g4 g5 (fun e => absurd e h1)]
    exact ⟨ho, rfl⟩
  · rw [zst_2 hκ hw hL (by omega) g2 (Or.inr (Or.inr (Or.inl g5)))]
    exact ⟨rfl, rfl⟩
  · rw [zst_2 hκ hw hL (by omega) g2 (Or.inr (Or.inl g4))]
    exact ⟨rfl, rfl⟩
  · rw [zst_2 hκ hw hL (by omega) g2 (Or.inl g3)]
    exact ⟨rfl, rfl⟩
theorem zc1 {s w : List Int} {k L : Nat} (LI : Int) (hLI : LI = L) (hp : s.length ≤ 1048576) (hκ : 7 - ((k : Int) + 1) = 1) (hw : wordAt 1 = w) (hL : w.length + 1 = L) (hz : zreadB s = zreadO s (k + 1)) :
    (¬ (s.length : Int) ≤ LI → ¬ (s.length : Int) ≤ LI ∧ LI ≤ s.length) ∧ ((s.length : Int) ≤ LI ∨ ¬ s.take L = w ++ [32] → zreadB s = zreadO s k ∧ k < k + 1) ∧
    (¬ (s.length : Int) ≤ LI → s.take L = w ++ [32] → (LI ≤ s.length ∧ (s.length : Int) ≤ s.length) ∧ s.length - L ≤ 1048576 ∧
      (pu41E (s.drop L) = false → (¬ 1099511627776 < pu41V (s.drop L) → pu41V (s.drop L) ≤ 1099511627776 ∧ (LI ≤ s.length ∧ (s.length : Int) ≤ s.length) ∧
        (dec (pu41V (s.drop L)) = s.drop L → (255 < pu41V (s.drop L) → (0, 0, 0, 0) = (zreadB s).1 ∧ false = (zreadB s).2) ∧ (¬ 255 < pu41V (s.drop L) → (-9223372036854775808 ≤ pu41V (s.drop L) ∧ pu41V (s.drop L) ≤ 9223372036854775807) ∧ (0 ≤ pu41V (s.drop L) ∧ pu41V (s.drop L) ≤ 255) ∧ (1, 0, 0, pu41V (s.drop L)) = (zreadB s).1 ∧ true = (zreadB s).2)) ∧
        (¬ dec (pu41V (s.drop L)) = s.drop L → (0, 0, 0, 0) = (zreadB s).1 ∧ false = (zreadB s).2)) ∧ (1099511627776 < pu41V (s.drop L) → (0, 0, 0, 0) = (zreadB s).1 ∧ false = (zreadB s).2)) ∧
      (pu41E (s.drop L) = true → (0, 0, 0, 0) = (zreadB s).1 ∧ false = (zreadB s).2)) := by
  subst hLI
  have hV := pu41V_nn (s.drop L)
  rw [hz]
  refine ⟨fun h => ⟨h, by omega⟩, fun h => ⟨zst_1 hκ hw hL (h.imp_left (by omega)), by omega⟩, fun g1 g2 => ⟨⟨by omega, by omega⟩, by omega, fun g3 => ⟨fun g4 => ⟨by omega, ⟨by omega, by omega⟩, fun g5 => ⟨fun g6 => ?_, fun g6 => ⟨by omega, by omega, ?_⟩⟩, fun g5 => ?_⟩, fun g4 => ?_⟩, fun g3 => ?_⟩⟩
  · rw [zst_2 hκ hw hL (by omega) g2 (Or.inr (Or.inr (Or.inr ⟨rfl, g6⟩)))]
    exact ⟨rfl, rfl⟩
  · rw [zst_3 hκ hw hL (by omega) g2 g3 g4 g5 (fun _ => g6), mkO, if_pos rfl, Int.emod_eq_of_lt hV (by omega)]
    exact ⟨rfl, rfl⟩
  · rw [zst_2 hκ hw hL (by omega) g2 (Or.inr (Or.inr (Or.inl g5)))]
    exact ⟨rfl, rfl⟩
  · rw [zst_2 hκ hw hL (by omega) g2 (Or.inr (Or.inl g4))]
    exact ⟨rfl, rfl⟩
  · rw [zst_2 hκ hw hL (by omega) g2 (Or.inl g3)]
    exact ⟨rfl, rfl⟩
theorem e_zread (x : List Int × Unit) (hp : x.1.length ≤ 1048576) (hl : LensL cZread.as x) : E_zread x := by
  obtain ⟨s, u⟩ := x
  have hp : s.length ≤ 1048576 := hp
  unfold E_zread
  simp only [Bool.not_eq_true', Bool.not_eq_false', Bool.not_eq_true, Bool.not_eq_false, beq_self_eq_true, decide_eq_true_eq, decide_eq_false_iff_not, Bool.not_false, Bool.not_true, beq_iff_eq, beq_eq_false_iff_ne, bne_iff_ne, ne_eq, bne_eq_false_iff_eq, holds_iff, true_and, and_true, and_self, eq_self, List.length_cons, List.length_nil, List.length_append, List.length_set, List.length_replicate, List.set_cons_zero, cond_true, cond_false, Bool.false_eq_true, Bool.true_eq_false, forall_const, false_imp_iff, imp_self, implies_true, and_imp, Decidable.not_not, Bool.and_eq_true, Bool.or_eq_true, Bool.and_eq_false_iff, Bool.or_eq_false_iff, ← List.length_eq_zero_iff, or_self, or_false, false_or, Prod.forall, Int.reduceEq, Int.reduceLT, Int.reduceLE, List.nil_append, Nat.zero_add, Int.toNat_zero, List.drop_zero, List.length_drop, List.length_take, not_true_eq_false, not_false_eq_true,  RR_eq, R8_eq, R32_eq, Int.toNat_natCast, List.take_length, Nat.reduceAdd, Nat.min_self, Int.cast_ofNat_Int, Int.reduceAdd, Int.reduceToNat]
  refine ⟨rfl, fun a h1 h7 hz _ _ => ⟨fun h6 => ⟨fun e => ?_, fun e1 => ⟨fun e => ?_, fun e2 => ⟨fun e => ?_, fun e3 => ⟨fun e => ?_, fun e4 => ⟨fun e => ?_, fun e5 => ⟨fun e => ?_, fun e6 => ?_⟩⟩⟩⟩⟩⟩, fun h6 => ?_⟩⟩
  all_goals try subst e
  all_goals try simp only [Int.reduceEq, true_and, false_imp_iff, and_true, imp_self, forall_const, not_true_eq_false, not_false_eq_true, Int.reduceAdd, Int.reduceLE, Int.reduceSub, Int.reduceToNat, and_self, Int.reduceNeg, Nat.reduceLeDiff] at hz ⊢
  · exact zc1 (w := [105, 110]) (k := 5) (L := 3) 3 rfl hp rfl rfl rfl hz
  · exact zc (w := [114, 117, 110]) (k := 4) (L := 4) (κ := 2) 4 rfl hp rfl (by decide) rfl rfl hz _ rfl
  · exact zc (w := [114, 101, 97, 100]) (k := 3) (L := 5) (κ := 3) 5 rfl hp rfl (by decide) rfl rfl hz _ rfl
  · exact zc (w := [115, 97, 118, 101]) (k := 2) (L := 5) (κ := 4) 5 rfl hp rfl (by decide) rfl rfl hz _ rfl
  · exact zc (w := [114, 101, 115, 116, 111, 114, 101]) (k := 1) (L := 8) (κ := 5) 8 rfl hp rfl (by decide) rfl rfl hz _ rfl
  · exact zc (w := [109, 111, 118, 101]) (k := 0) (L := 5) (κ := 6) 5 rfl hp rfl (by decide) rfl rfl hz _ rfl
  · exfalso
    omega
  · have : a = 7 := by omega
    subst this
    rw [hz]
    exact ⟨rfl, rfl⟩

end Go.Proofs.YtjafnenkgmbgaaaDoor.Bench
