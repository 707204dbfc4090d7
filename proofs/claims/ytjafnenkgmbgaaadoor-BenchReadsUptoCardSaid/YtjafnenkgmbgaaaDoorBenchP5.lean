/-
  BenchReads: the document's text of what has happened, line by line.
-/
import Derived.Test.YtjafnenkgmbgaaaDoorBenchP4
namespace Go.Proofs.YtjafnenkgmbgaaaDoor.Bench
open Go.Sx
set_option maxRecDepth 100000
set_option maxHeartbeats 1000000
set_option linter.unusedSimpArgs false
set_option linter.unusedVariables false

theorem zp_bad {s : List KO} {k : Int} {o : KO} (h0 : 0 ≤ k) (h1 : k < s.length) (ho : s.getD k.toNat (0, 0, 0, 0) = o) (hn : okK o = false) : [] = (printB s).1 ∧ 2 = (printB s).2 := by
  have hm : o ∈ s := by
    have h2 : k.toNat < s.length := by omega
    have : s.getD k.toNat (0, 0, 0, 0) = s[k.toNat] := by simp [h2]
    rw [← ho, this]
    exact List.getElem_mem h2
  have : ¬ s.all okK = true := fun h => by
    have := List.all_eq_true.1 h o hm
    rw [hn] at this
    cases this
  unfold printB
  rw [if_neg this]
  exact ⟨rfl, rfl⟩
theorem txtK_len {o : KO} (h : okK o = true) : (txtK o ++ [10]).length ≤ 22 := by
  have h := of_decide_eq_true h
  have hw := word_len (k := o.1) (by omega) (by omega)
  have hd := dec_len (n := numK o) (by omega)
  unfold txtK
  simp only [List.length_append, List.length_singleton]
  omega
theorem flat_len : ∀ l : List KO, l.all okK = true → ((l.map fun o => txtK o ++ [10]).flatten).length ≤ 22 * l.length
  | [], _ => by simp
  | o :: l, h => by
    rw [List.all_cons, Bool.and_eq_true] at h
    have h1 := txtK_len h.1
    have h2 := flat_len l h.2
    rw [List.map_cons, List.flatten_cons, List.length_append, List.length_cons]
    omega
theorem zp_yes {s : List KO} {k : Int} {t : List Int} {o : KO} {m : Int} (w : List Int) (hp : s.length ≤ 1048576) (h0 : 0 ≤ k) (h1 : k < s.length) (ho : s.getD k.toNat (0, 0, 0, 0) = o)
    (hall : (s.take k.toNat).all okK = true) (ht : t = ((s.take k.toNat).map fun o => txtK o ++ [10]).flatten) (hk : 1 ≤ o.1 ∧ o.1 ≤ 6) (hm : numK o = m) (hm0 : ¬ m < 0) (hm1 : ¬ 1099511627776 < m) (hw : wordAt o.1 = w) :
    w.length + 1 ≤ 9223372036854775807 ∧ (0 ≤ m ∧ m ≤ 1099511627776) ∧ w.length + 1 + (dec m).length ≤ 9223372036854775807 ∧ w.length + 1 + (dec m).length + 1 ≤ 9223372036854775807 ∧
    t.length + (w.length + 1 + (dec m).length + 1) ≤ 9223372036854775807 ∧ (-9223372036854775808 ≤ k + 1 ∧ k + 1 ≤ 9223372036854775807) ∧
    (0 ≤ k + 1 ∧ k + 1 ≤ s.length ∧ (s.take (k + 1).toNat).all okK = true ∧ t ++ (w ++ [32] ++ dec m ++ [10]) = ((s.take (k + 1).toNat).map fun o => txtK o ++ [10]).flatten) ∧
    ((s.length : Int) - (k + 1)).toNat < ((s.length : Int) - k).toNat := by
  have hwl : w.length ≤ 7 := by rw [← hw]; exact word_len (by omega) (by omega)
  have hd := dec_len (n := m) (by omega)
  have hok : okK o = true := decide_eq_true ⟨hk.1, hk.2, by omega, by omega⟩
  have hfl := flat_len _ hall
  rw [← ht, List.length_take] at hfl
  have hs := takeI_succ (0, 0, 0, 0) h0 h1
  rw [ho] at hs
  refine ⟨by omega, by omega, by omega, by omega, by omega, by omega, ⟨by omega, by omega, ?_, ?_⟩, by omega⟩
  · rw [hs, List.all_append, hall, List.all_cons, hok]
    rfl
  · rw [hs, List.map_append, List.flatten_append, ← ht]
    have : txtK o = w ++ ([32] ++ dec m) := by rw [← hw, ← hm]; rfl
    rw [List.map_cons, this]
    simp
theorem e_zprint (x : List KO × Unit) (hp : x.1.length ≤ 1048576) (hl : LensL cPrint.as x) : E_zprint x := by
  obtain ⟨s, u⟩ := x
  have hp : s.length ≤ 1048576 := hp
  have hr : ∀ o ∈ s, (0 : Int) ≤ o.2.2.2 ∧ o.2.2.2 ≤ 255 := fun o ho => (hl.1.2 o ho).2.2.2
  unfold E_zprint
  simp only [pair_eta]
  simp only [Bool.not_eq_true', Bool.not_eq_false', Bool.not_eq_true, Bool.not_eq_false, beq_self_eq_true, decide_eq_true_eq, decide_eq_false_iff_not, Bool.not_false, Bool.not_true, beq_iff_eq, beq_eq_false_iff_ne, bne_iff_ne, ne_eq, bne_eq_false_iff_eq, holds_iff, true_and, and_true, and_self, eq_self, List.length_cons, List.length_nil, List.length_append, List.length_set, List.length_replicate, List.set_cons_zero, cond_true, cond_false, Bool.false_eq_true, Bool.true_eq_false, forall_const, false_imp_iff, imp_self, implies_true, and_imp, Decidable.not_not, Bool.and_eq_true, Bool.or_eq_true, Bool.and_eq_false_iff, Bool.or_eq_false_iff, ← List.length_eq_zero_iff, or_self, or_false, false_or, Prod.forall, Int.reduceEq, Int.reduceLT, Int.reduceLE, List.nil_append, Nat.zero_add, Int.toNat_zero, List.drop_zero, List.length_drop, List.length_take, not_true_eq_false, not_false_eq_true,  RR_eq, pair_eta]
  refine ⟨⟨by omega, rfl, rfl⟩, fun t k h0 h1 hall ht _ _ _ _ => ⟨fun h2 => ?_, fun h2 => ?_⟩⟩
  · have hb : (0 : Int) ≤ (s.getD k.toNat (0, 0, 0, 0)).2.2.2 ∧ (s.getD k.toNat (0, 0, 0, 0)).2.2.2 ≤ 255 := by
      have h3 : k.toNat < s.length := by omega
      have : s.getD k.toNat (0, 0, 0, 0) = s[k.toNat] := by simp [h3]
      rw [this]
      exact hr _ (List.getElem_mem h3)
    generalize ho : s.getD k.toNat (0, 0, 0, 0) = o at *
    obtain ⟨κ, c, n, b⟩ := o
    simp only [] at hb ⊢
    refine ⟨by omega, by omega, fun e => ⟨fun h => ?_, fun a1 a2 => ?_⟩, fun e1 => ⟨fun e => ⟨fun h => ?_, fun a1 a2 => ?_⟩, fun e2 => ⟨fun e => ⟨fun h => ?_, fun a1 a2 => ?_⟩, fun e3 => ⟨fun e => ⟨fun h => ?_, fun a1 a2 => ?_⟩, fun e4 => ⟨fun e => ⟨fun h => ?_, fun a1 a2 => ?_⟩, fun e5 => ⟨fun e => ⟨fun h => ?_, fun a1 a2 => ?_⟩, fun e6 => ?_⟩⟩⟩⟩⟩⟩
    · exact zp_bad h0 h2 ho (okK_no (m := b) (by simp [numK, e]) h)
    · exact zp_yes [105, 110] hp h0 h2 ho hall ht (by simp only []; omega) (m := b) (by simp [numK, e]) a1 a2 (by simp only [e]; rfl)
    · exact zp_bad h0 h2 ho (okK_no (m := c) (by simp [numK, e]) h)
    · exact zp_yes [114, 117, 110] hp h0 h2 ho hall ht (by simp only []; omega) (m := c) (by simp [numK, e]) a1 a2 (by simp only [e]; rfl)
    · exact zp_bad h0 h2 ho (okK_no (m := n) (by simp [numK, e]) h)
    · exact zp_yes [114, 101, 97, 100] hp h0 h2 ho hall ht (by simp only []; omega) (m := n) (by simp [numK, e]) a1 a2 (by simp only [e]; rfl)
    · exact zp_bad h0 h2 ho (okK_no (m := c) (by simp [numK, e]) h)
    · exact zp_yes [115, 97, 118, 101] hp h0 h2 ho hall ht (by simp only []; omega) (m := c) (by simp [numK, e]) a1 a2 (by simp only [e]; rfl)
    · exact zp_bad h0 h2 ho (okK_no (m := c) (by simp [numK, e]) h)
    · exact zp_yes [114, 101, 115, 116, 111, 114, 101] hp h0 h2 ho hall ht (by simp only []; omega) (m := c) (by simp [numK, e]) a1 a2 (by simp only [e]; rfl)
    · exact zp_bad h0 h2 ho (okK_no (m := c) (by simp [numK, e]) h)
    · exact zp_yes [109, 111, 118, 101] hp h0 h2 ho hall ht (by simp only []; omega) (m := c) (by simp [numK, e]) a1 a2 (by simp only [e]; rfl)
    · exact zp_bad h0 h2 ho (okK_bad (by omega))
  · have hk : k = s.length := by omega
    rw [hk, take_len] at hall ht
    unfold printB
    rw [if_pos hall, ht]
    exact ⟨rfl, rfl⟩

end Go.Proofs.YtjafnenkgmbgaaaDoor.Bench
