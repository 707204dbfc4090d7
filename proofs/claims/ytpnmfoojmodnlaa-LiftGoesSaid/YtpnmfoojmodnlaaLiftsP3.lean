/-
  LiftGoes: the parts, and the law.
-/
import Derived.Test.YtpnmfoojmodnlaaLiftsP2
namespace Go.Proofs.Ytpnmfoojmodnlaa.Lifts
open Go.Sx
set_option maxRecDepth 100000
set_option maxHeartbeats 1000000
set_option linter.unusedSimpArgs false
set_option linter.unusedVariables false

theorem parts_next {p : Int → Bool} {l : List Int} {k : Int} (h0 : 0 ≤ k) (h1 : k < l.length) : (l.take (k + 1).toNat).filter p = (l.take k.toNat).filter p ++ (if p (l.getD k.toNat 0) = true then [l.getD k.toNat 0] else []) := by
  rw [takeI_succ 0 h0 h1, List.filter_append]
  congr 1
  by_cases h : p (l.getD k.toNat 0) = true
  · rw [if_pos h, List.filter_cons_of_pos h]; rfl
  · rw [if_neg h, List.filter_cons_of_neg h]; rfl
theorem part_len {p : Int → Bool} {l : List Int} {k : Nat} : ((l.take k).filter p).length ≤ l.length := by
  have := List.length_filter_le p (l.take k)
  rw [List.length_take] at this
  omega
theorem e_parts (x : Int × List Int × Unit) (hp : x.2.1.length ≤ 400) (hl : LensL cParts.as x) : E_parts x := by
  obtain ⟨h, l, u⟩ := x
  simp only [] at hp
  unfold E_parts
  simp only [Bool.not_eq_true', Bool.not_eq_false', Bool.not_eq_true, Bool.not_eq_false, beq_self_eq_true, decide_eq_true_eq, decide_eq_false_iff_not, Bool.not_false, Bool.not_true, beq_iff_eq, beq_eq_false_iff_ne, bne_iff_ne, ne_eq, bne_eq_false_iff_eq, holds_iff, true_and, and_true, and_self, eq_self, List.length_cons, List.length_nil, List.length_append, List.length_set, List.length_replicate, List.set_cons_zero, cond_true, cond_false, Bool.false_eq_true, Bool.true_eq_false, forall_const, false_imp_iff, imp_self, implies_true, and_imp, Decidable.not_not, Bool.and_eq_true, Bool.or_eq_true, Bool.and_eq_false_iff, Bool.or_eq_false_iff, ← List.length_eq_zero_iff, or_self, or_false, false_or, Prod.forall, Int.reduceEq, Int.reduceLT, Int.reduceLE, List.nil_append, Nat.zero_add, Int.toNat_zero, List.drop_zero, List.length_drop, List.length_take, not_true_eq_false, not_false_eq_true,  List.filter_nil, List.take_zero, Nat.le_eq]
  refine ⟨by omega, ?_⟩
  intro a b k k0 k1 ha hb _ _ _ _ _ _
  have hla := part_len (p := fun y => decide (h ≤ y)) (l := l) (k := k.toNat)
  have hlb := part_len (p := fun y => decide (y < h)) (l := l) (k := k.toNat)
  rw [← ha] at hla
  rw [← hb] at hlb
  refine ⟨fun hk => ?_, fun hk => ?_⟩
  · have n1 := parts_next (p := fun y => decide (h ≤ y)) k0 hk
    have n2 := parts_next (p := fun y => decide (y < h)) k0 hk
    rw [← ha] at n1
    rw [← hb] at n2
    generalize l.getD k.toNat 0 = c at n1 n2 ⊢
    refine ⟨by omega, fun hc => ⟨by omega, by omega, ⟨by omega, by omega, ?_, ?_⟩, by omega⟩, fun hc => ⟨by omega, by omega, ⟨by omega, by omega, ?_, ?_⟩, by omega⟩⟩
    · rw [n1, if_pos (by simpa using hc)]
    · rw [n2, if_neg (by simp; omega), List.append_nil]
    · rw [n1, if_neg (by simpa using hc), List.append_nil]
    · rw [n2, if_pos (by simp; omega)]
  · rw [takeI_all (by omega)] at ha hb
    refine ⟨by omega, by omega, by rw [ha]; rfl, by rw [hb]; rfl⟩
theorem e_sshort (x : Int × List Int × Unit) (hp : x.2.1.length ≤ 400 ∧ okB x.1 = true ∧ x.2.1.all okB = true) (hl : LensL cSshort.as x) : E_sshort x := by
  obtain ⟨h, l, u⟩ := x
  simp only [] at hp
  obtain ⟨hlen, hok, hall⟩ := hp
  have hho := okB_iff.1 hok
  unfold E_sshort
  simp only [Bool.not_eq_true', Bool.not_eq_false', Bool.not_eq_true, Bool.not_eq_false, beq_self_eq_true, decide_eq_true_eq, decide_eq_false_iff_not, Bool.not_false, Bool.not_true, beq_iff_eq, beq_eq_false_iff_ne, bne_iff_ne, ne_eq, bne_eq_false_iff_eq, holds_iff, true_and, and_true, and_self, eq_self, List.length_cons, List.length_nil, List.length_append, List.length_set, List.length_replicate, List.set_cons_zero, cond_true, cond_false, Bool.false_eq_true, Bool.true_eq_false, forall_const, false_imp_iff, imp_self, implies_true, and_imp, Decidable.not_not, Bool.and_eq_true, Bool.or_eq_true, Bool.and_eq_false_iff, Bool.or_eq_false_iff, ← List.length_eq_zero_iff, or_self, or_false, false_or, Prod.forall, Int.reduceEq, Int.reduceLT, Int.reduceLE, List.nil_append, Nat.zero_add, Int.toNat_zero, List.drop_zero, List.length_drop, List.length_take, not_true_eq_false, not_false_eq_true,  List.filter_nil, List.take_zero, Nat.le_eq]
  refine ⟨fun hz => ?_, fun hz => ?_⟩
  · rw [if_pos (by omega)]
  · have hmx := okB_mem hall (mx_spec (l := l) (by omega)).1
    have hmn := okB_mem hall (mn_spec (l := l) (by omega)).1
    refine ⟨by omega, ?_⟩
    intro a b k k0 k1 ha hb _ _ _ _ _ _
    have hla := part_len (p := fun y => decide (h ≤ y)) (l := l) (k := k.toNat)
    have hlb := part_len (p := fun y => decide (y < h)) (l := l) (k := k.toNat)
    rw [← ha] at hla
    rw [← hb] at hlb
    refine ⟨fun hk => ?_, fun hk => ?_⟩
    · have n1 := parts_next (p := fun y => decide (h ≤ y)) k0 hk
      have n2 := parts_next (p := fun y => decide (y < h)) k0 hk
      rw [← ha] at n1
      rw [← hb] at n2
      generalize l.getD k.toNat 0 = c at n1 n2 ⊢
      refine ⟨by omega, fun hc => ⟨by omega, by omega, ⟨by omega, by omega, ?_, ?_⟩, by omega⟩, fun hc => ⟨by omega, by omega, ⟨by omega, by omega, ?_, ?_⟩, by omega⟩⟩
      · rw [n1, if_pos (by simpa using hc)]
      · rw [n2, if_neg (by simp; omega), List.append_nil]
      · rw [n1, if_neg (by simpa using hc), List.append_nil]
      · rw [n2, if_pos (by simp; omega)]
    · rw [takeI_all (by omega)] at ha hb
      have hu : sortI a = up h l := by rw [ha]; rfl
      have hd : sortI b = down h l := by rw [hb]; rfl
      have h1 := up_len (h := h) (l := l)
      have h2 := down_len (h := h) (l := l)
      have hrl : (down h l).reverse.length = (down h l).length := List.length_reverse
      rw [hu, hd, if_neg (by omega)]
      repeat' (first | with_reducible apply And.intro | with_reducible intro _)
      all_goals first
        | assumption
        | omega
        | (unfold order; rw [if_pos (by omega)])
        | (unfold order; rw [if_neg (by omega)])
theorem walk_nn {h : Int} {l : List Int} : 0 ≤ (walk h l).1 := by
  unfold walk
  suffices hh : ∀ s : Int × Int, 0 ≤ s.1 → 0 ≤ (l.foldl stepW s).1 from hh _ (Int.le_refl _)
  induction l with
  | nil => intro s hs; exact hs
  | cons b l ih =>
    intro s hs
    rw [List.foldl_cons]
    apply ih
    unfold stepW
    simp only []
    omega
theorem wr_cases {l : List Int} : wr l = 0 ∨ wr l = 2 := by
  unfold wr
  split
  · exact Or.inr rfl
  · exact Or.inl rfl
theorem e_law (x : Int × List Int × Unit) (hp : True) (hl : LensL cLaw.as x) : E_law x := by
  obtain ⟨h, l, u⟩ := x
  have hz : wr [0] = 0 := rfl
  unfold E_law
  rcases wr_cases (l := l) with hw | hw
  · have s0 : sway 0 l = (walk 0 l).1 := by simp [sway, hw, hz]
    have hnn := walk_nn (h := 0) (l := l)
    by_cases hh : wr [h] = 0
    · have e1 : way h l = ((walk h l).1, 0) := by simp [way, hw, hh]
      have e2 : sway h l = (walk h l).1 := by simp [sway, hw, hh]
      have e3 : sweep h l = (up h l ++ down h l, 0) := by simp [sweep, e1]
      have e4 : short h l = (if l.length = 0 then [] else order h l, 0) := by
        by_cases hz : l.length = 0 <;> simp [short, e1, hz]
      have hn2 := walk_nn (h := h) (l := l)
      obtain ⟨hlen, hall⟩ := wr_zero hw
      have hok := wr_one.1 hh
      have u1 := up_len (h := h) (l := l)
      have u2 := down_len (h := h) (l := l)
      have d1 : decide (0 ≤ (walk 0 l).1) = true := by simpa using hnn
      have d2 : decide ((walk h l).1 < 0) = false := by simpa using hn2
      simp only [set_two, two_flat, hw, s0, e1, e2, e3, e4, d1, d2, holds_iff]
      have hul : (up h l ++ down h l).length ≤ 800 := by rw [List.length_append]; omega
      simp [hlen, hok, hall]
      omega
    · have e1 : way h l = (0, 2) := by simp [way, hh]
      have e2 : sway h l = -1 := by simp [sway, hh]
      have e3 : sweep h l = ([], 2) := by simp [sweep, e1]
      have e4 : short h l = ([], 2) := by simp [short, e1]
      have d1 : decide (0 ≤ (walk 0 l).1) = true := by simpa using hnn
      simp only [set_two, two_flat, hw, s0, e1, e2, e3, e4, d1, holds_iff]
      simp
  · have e0 : sway 0 l = -1 := by simp [sway, hw]
    have e1 : way h l = (0, 2) := by simp [way, hw]
    have e2 : sway h l = -1 := by simp [sway, hw]
    have e3 : sweep h l = ([], 2) := by simp [sweep, e1]
    have e4 : short h l = ([], 2) := by simp [short, e1]
    simp only [set_two, two_flat, hw, e0, e1, e2, e3, e4, holds_iff]
    simp
theorem pre_law (x : HL cLaw.as) (_ : GoodL cLaw.as x) (_ : FitL cLaw.as x) : True := trivial

end Go.Proofs.Ytpnmfoojmodnlaa.Lifts
