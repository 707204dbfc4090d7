/-
  WheelPlays: the reference keeps to its steps.
-/
import Derived.Test.YtpnmfoojmodnlaaWheelP1
namespace Go.Proofs.Ytpnmfoojmodnlaa.Wheel
open Go.Sx
set_option maxRecDepth 100000
set_option maxHeartbeats 1000000
set_option linter.unusedSimpArgs false
set_option linter.unusedVariables false

theorem kOk_nil : kOk (0, [], []) 0 := ⟨⟨by decide, by decide⟩, fun e he => (by cases he), List.nodup_nil, by decide⟩
theorem perm_at : ∀ {r : SM} {i : Nat} {x : Int × Int}, r[i]? = some x → (x :: r.eraseIdx i).Perm r
  | a :: r, 0, x, h => by
    injection h with h
    subst h
    exact List.Perm.refl _
  | a :: r, i + 1, x, h => (List.Perm.swap a x (r.eraseIdx i)).trans ((perm_at (r := r) h).cons a)
theorem erase_len {r : SM} {i : Nat} {x : Int × Int} (h : r[i]? = some x) : (r.eraseIdx i).length < r.length := by
  have := (perm_at h).length_eq
  rw [List.length_cons] at this
  omega
theorem e_kplay (x : List TO × Unit) (hp : True) (hl : LensL cPlay.as x) : E_kplay x := by
  obtain ⟨ops, u⟩ := x
  have hlen : ops.length ≤ 9223372036854775807 := hl.1.1
  unfold E_kplay
  simp only [RR_eq, R8_eq, R32_eq]
  simp only [Bool.not_eq_true', Bool.not_eq_false', Bool.not_eq_true, Bool.not_eq_false, beq_self_eq_true, decide_eq_true_eq, decide_eq_false_iff_not, Bool.not_false, Bool.not_true, beq_iff_eq, beq_eq_false_iff_ne, bne_iff_ne, ne_eq, bne_eq_false_iff_eq, holds_iff, true_and, and_true, and_self, eq_self, List.length_cons, List.length_nil, List.length_append, List.length_set, List.length_replicate, List.set_cons_zero, cond_true, cond_false, Bool.false_eq_true, Bool.true_eq_false, forall_const, false_imp_iff, imp_self, implies_true, and_imp, Decidable.not_not, Bool.and_eq_true, Bool.or_eq_true, Bool.and_eq_false_iff, Bool.or_eq_false_iff, ← List.length_eq_zero_iff, or_self, or_false, false_or, Prod.forall, Int.reduceEq, Int.reduceLT, Int.reduceLE, List.nil_append, Nat.zero_add, Int.toNat_zero, List.drop_zero, List.length_drop, List.length_take, not_true_eq_false, not_false_eq_true,  take_len, deq_iff, deq_false, pair_eta]
  refine ⟨fun h => ?_, fun h4 => ⟨⟨by omega, rfl, kOk_nil, by decide⟩, ?_⟩⟩
  · have e : kplay ops = ([], [], 0, 2, ()) := by unfold kplay; rw [if_pos (by omega)]
    rw [e]
    exact ⟨rfl, rfl, rfl, rfl⟩
  intro now m e f k _ k0 k1 hr hok he _ _ _ _ _ _ _ _ _
  have hb := hok
  obtain ⟨⟨b0, b1⟩, b2, b3, b4⟩ := hb
  have b0 : 0 ≤ now := b0
  have b1 : now ≤ 2000 * k := b1
  have b4 : ((m.length + f.length : Nat) : Int) ≤ k := b4
  refine ⟨fun k2 => ?_, fun k2 => ?_⟩
  · have hnx := runK_next k0 k2 hr
    have hra : ∀ o : TO, o = opAt ops k → (-9223372036854775808 ≤ o.2.2 ∧ o.2.2 ≤ 9223372036854775807) := fun o ho => by
      have hm : opAt ops k ∈ ops := by
        unfold opAt
        rw [List.getD, List.getElem?_eq_getElem (by omega)]
        exact List.getElem_mem _
      have := (hl.1.2 _ hm).2.2
      rw [ho]; exact this
    generalize opAt ops k = o at *
    obtain ⟨o1, o2, o3⟩ := o
    have hra := hra _ rfl
    refine ⟨⟨k0, k2⟩, ?_⟩
    clear hr
    rw [hnx]
    clear hnx
    simp only [] at *
    have hsame := kOk_same hok
    refine ⟨fun h1 => ?_, fun g1 g2 => ⟨fun h => ⟨h, fun h2 => ⟨h, h2⟩⟩, fun h1 h2 => ?_, fun g3 => ⟨fun h => ⟨h, fun h2 => ⟨h, h2⟩⟩, fun h1 h2 => ?_, fun g4 => ⟨fun h1 h2 => ?_, fun g5 => ⟨fun h1 h2 => ?_, fun g6 => ⟨fun h1 => ?_, fun g7 => ⟨fun h1 => ?_, fun g8 => ?_⟩⟩⟩⟩⟩⟩⟩
    · have e5 := err5 (m := m) (o := (o1, o2, o3)) h1
      rw [next_err (by rw [e5]; decide), e5]
      exact ⟨by omega, by omega, ⟨by omega, by omega, rfl, hsame, by omega⟩, by omega⟩
    · have e5 := err2 (m := m) (o := (o1, o2, o3)) (.inl ⟨h1, h2⟩)
      rw [next_err (by rw [e5]; decide), e5]
      exact ⟨by omega, by omega, ⟨by omega, by omega, rfl, hsame, by omega⟩, by omega⟩
    · have e5 := err2 (m := m) (o := (o1, o2, o3)) (.inr ⟨h1, h2⟩)
      rw [next_err (by rw [e5]; decide), e5]
      exact ⟨by omega, by omega, ⟨by omega, by omega, rfl, hsame, by omega⟩, by omega⟩
    · have e5 := err6 (m := m) (o := (o1, o2, o3)) h1 (by show ¬ (o3 < 1 ∨ 511 < o3); omega) h2
      rw [next_err (by rw [e5]; decide), e5]
      exact ⟨by omega, by omega, ⟨by omega, by omega, rfl, hsame, by omega⟩, by omega⟩
    · have e5 := err3 (m := m) (o := (o1, o2, o3)) h1 h2
      rw [next_err (by rw [e5]; decide), e5]
      exact ⟨by omega, by omega, ⟨by omega, by omega, rfl, hsame, by omega⟩, by omega⟩
    · have h3 : ¬ (o3 < 1 ∨ 511 < o3) := by omega
      have h5 : mhas I64 m o2 = false := g5.resolve_left (by omega)
      rw [err_add (m := m) (o := (o1, o2, o3)) h1 h3 h5, next_add (s := (now, m, f)) (o := (o1, o2, o3)) h1 h3 h5]
      exact ⟨by omega, by omega, by omega, ⟨by omega, by omega, rfl, kOk_add (o := (o1, o2, o3)) hok h3, by omega⟩, by omega⟩
    · have h5 : mhas I64 m o2 = true := g6.resolve_left (by omega)
      rw [err_can (m := m) (o := (o1, o2, o3)) h1 h5, next_can (s := (now, m, f)) (o := (o1, o2, o3)) h1 h5]
      exact ⟨by omega, by omega, ⟨by omega, by omega, rfl, kOk_can hok, by omega⟩, by omega⟩
    · have h1 : o1 = 3 := by omega
      have h3 : ¬ (o3 < 0 ∨ 2000 < o3) := by omega
      rw [err_tick (m := m) (o := (o1, o2, o3)) h1 h3, next_tick (s := (now, m, f)) (o := (o1, o2, o3)) h1 h3]
      have hT := kOk_tick (s := (now, m, f)) (n := o3) hok (by omega) (by omega)
      simp only [] at hT
      refine ⟨⟨by omega, by omega⟩, ⟨[], by simp, rfl⟩, ?_⟩
      rintro d r ⟨a, ha, hd⟩ _ _ _
      have hal : a.length + r.length = m.length := by rw [← ha.length_eq, List.length_append]
      have hdl : d.length ≤ a.length := by rw [hd, List.length_map]; exact List.length_filter_le _ _
      have hper : ∀ (i : Nat) (x : Int × Int), r[i]? = some x → ((a ++ [x]) ++ r.eraseIdx i).Perm m := fun i x hi => by
        refine List.Perm.trans ?_ ha
        rw [List.append_assoc]
        exact (perm_at hi).append_left a
      refine ⟨fun hr0 => ?_, fun i id t hi => ⟨fun ht => ⟨?_, ⟨a ++ [(id, t)], hper i _ hi, ?_⟩, erase_len hi⟩, fun ht => ⟨⟨a ++ [(id, t)], hper i _ hi, ?_⟩, erase_len hi⟩⟩⟩
      · obtain rfl : r = [] := List.length_eq_zero_iff.1 hr0
        rw [List.append_nil] at ha
        have hdp : d.Perm (dueL m (now + o3)) := by rw [hd]; exact (ha.filter _).map _
        have hs : sortF d = sortF (dueL m (now + o3)) := sortF_congr hdp
        have hdr := due_rest (m := m) (now := now + o3)
        have hsl : (sortF d).length = d.length := sortF_len
        refine ⟨⟨by omega, ?_, hdp.nodup_iff.2 (due_nodup b3 _)⟩, ⟨by omega, rfl⟩, ?_⟩
        · rw [List.all_eq_true]
          intro t ht
          have h1 := b2 (t.2, t.1) (mem_dueL.1 (hdp.mem_iff.1 ht)).1
          unfold okF
          simp only [Bool.and_eq_true, decide_eq_true_eq]
          have h2 : now < t.1 := h1.1
          have h3 : t.1 ≤ now + 511 := h1.2
          omega
        · intro m2 j j0 j1 hm2 _ _ _
          refine ⟨fun j2 => ⟨⟨j0, j2⟩, by omega, ⟨by omega, by omega, ?_⟩, by omega⟩, fun j2 => ?_⟩
          · rw [takeI_succ (0, 0) j0 j2, List.foldl_append, ← hm2]
            rfl
          · rw [takeI_all (by omega), hs, dels_rest b3] at hm2
            subst hm2
            have h3 : d.length = (dueL m (now + o3)).length := hdp.length_eq
            rw [hs]
            have h4 : (sortF (dueL m (now + o3))).length = (dueL m (now + o3)).length := sortF_len
            exact ⟨by omega, by omega, by omega, ⟨by omega, by omega, rfl, hT, by omega⟩, by omega⟩
      · have := erase_len hi
        omega
      · rw [hd, List.filter_append, List.map_append]
        simp [ht]
      · rw [hd, List.filter_append, List.map_append]
        simp [ht]
  · have hk : k = ops.length := by omega
    subst hk
    rw [take_len] at hr
    have e : kplay ops = ((runK ops).2, (runK ops).1.2.2, ((runK ops).1.2.1.length : Int), 0, ()) := by unfold kplay; rw [if_neg (by omega)]
    rw [e, hr]
    exact ⟨by omega, rfl, rfl, rfl, rfl⟩

end Go.Proofs.Ytpnmfoojmodnlaa.Wheel
