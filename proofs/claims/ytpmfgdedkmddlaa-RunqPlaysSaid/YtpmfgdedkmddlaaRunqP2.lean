/-
  RunqPlays: the reference keeps to its list.
-/
import Derived.Test.YtpmfgdedkmddlaaRunqP1
namespace Go.Proofs.Ytpmfgdedkmddlaa.Runq
open Go.Sx
set_option maxRecDepth 100000
set_option maxHeartbeats 1000000
set_option linter.unusedSimpArgs false
set_option linter.unusedVariables false

theorem e_mplay (x : List RO × Unit) (hp : x.1.length * 24 ≤ 140737488355328) (hl : LensL cPlay.as x) : E_mplay x := by
  obtain ⟨ops, u⟩ := x
  simp only [] at hp
  unfold E_mplay
  simp only [RR_eq, R8_eq, R32_eq]
  simp only [Bool.not_eq_true', Bool.not_eq_false', Bool.not_eq_true, Bool.not_eq_false, beq_self_eq_true, decide_eq_true_eq, decide_eq_false_iff_not, Bool.not_false, Bool.not_true, beq_iff_eq, beq_eq_false_iff_ne, bne_iff_ne, ne_eq, bne_eq_false_iff_eq, holds_iff, true_and, and_true, and_self, eq_self, List.length_cons, List.length_nil, List.length_append, List.length_set, List.length_replicate, List.set_cons_zero, cond_true, cond_false, Bool.false_eq_true, Bool.true_eq_false, forall_const, false_imp_iff, imp_self, implies_true, and_imp, Decidable.not_not, Bool.and_eq_true, Bool.or_eq_true, Bool.and_eq_false_iff, Bool.or_eq_false_iff, ← List.length_eq_zero_iff, or_self, or_false, false_or, Prod.forall, Int.reduceEq, Int.reduceLT, Int.reduceLE, List.nil_append, Nat.zero_add, Int.toNat_zero, List.drop_zero, List.length_drop, List.length_take, not_true_eq_false, not_false_eq_true,  take_len]
  refine ⟨⟨by omega, rfl, by omega⟩, ?_⟩
  intro l e t k k0 k1 hr hl1 he1 ht1 _ _ _ _ _ _ _ _
  refine ⟨fun k2 => ?_, fun k2 => ?_⟩
  · have hnx := runQ_next k0 k2 hr
    generalize opAt ops k = o at *
    obtain ⟨o1, o2, o3⟩ := o
    refine ⟨⟨k0, k2⟩, ?_⟩
    clear hr
    rw [hnx]
    clear hnx
    simp only [] at *
    have hin := inQ_le (l := l) (o := (o1, o2, o3))
    have hpos : ¬ posQ l o2 < 0 → posQ l o2 < l.length := fun h => by
      obtain ⟨j, hj, e, _⟩ := posQ_some (l := l) (id := o2) (by omega)
      omega
    repeat' (first | with_reducible apply And.intro | with_reducible intro _)
    all_goals try omega
    all_goals first
      | (rename_i hh; first | exact st_err (err5 hh) (by decide) | exact st_err (err2 (by assumption) hh) (by decide))
      | exact st_err (err6 (by assumption) (by show ¬ (o3 < 0 ∨ 31 < o3); omega) (by assumption)) (by decide)
      | (exact inQ_step (o := (o1, o2, o3)) (by assumption) (by assumption) (by assumption) (by first | (left; assumption) | (right; exact ⟨by assumption, by assumption⟩)))
      | (rw [ins_len (by assumption) (by omega)]; omega)
      | (exact st_add (by assumption) (by show ¬ (o3 < 0 ∨ 31 < o3); omega) (by show ¬ 0 ≤ posQ l o2; omega) (by
          first
          | (exact inQ_stop (o := (o1, o2, o3)) (by assumption) (by assumption) (by assumption) (by assumption) (by rintro ⟨q1, q2⟩; first | exact absurd q1 (by assumption) | exact absurd q2 (by assumption)))
          | omega))
      | exact st_err (err3 (.inl ⟨by assumption, List.length_eq_zero_iff.1 (by omega)⟩)) (by decide)
      | exact st_err (err3 (.inr ⟨by assumption, by assumption⟩)) (by decide)
      | exact st_take (by assumption) (fun h => by subst h; simp only [List.length_nil] at *; omega)
      | (have h4 : o1 = 4 := by omega
         have hp0 : 0 ≤ posQ l o2 := by omega
         have hp1 := hpos (by omega)
         rw [st_drop (o := (o1, o2, o3)) h4 hp0]
         show (l.take (posQ l o2).toNat ++ l.drop ((posQ l o2).toNat + 1), e ++ [0], t) = _
         rw [del_eq (by omega) (by omega) (by omega) (by omega)])
  · obtain rfl : k = ops.length := by omega
    rw [take_len] at hr
    refine ⟨⟨by omega, rfl⟩, ?_⟩
    intro o j j0 j1 hj _ _ _ _
    have hol : o.length = j.toNat := by rw [hj]; unfold ids; rw [List.length_map, List.length_take]; omega
    refine ⟨fun j2 => ⟨⟨j0, j2⟩, ⟨by omega, by omega⟩, by omega, ⟨by omega, by omega, ?_⟩, by omega⟩, fun j2 => ?_⟩
    · rw [ids_succ j0 j2, hj]
    · rw [takeI_all (by omega)] at hj
      unfold mplay
      rw [hr]
      exact ⟨rfl, rfl, hj⟩

end Go.Proofs.Ytpmfgdedkmddlaa.Runq
