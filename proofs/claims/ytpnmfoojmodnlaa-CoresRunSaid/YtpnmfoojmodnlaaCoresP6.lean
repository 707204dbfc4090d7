/-
  CoresRun: a tick, by the records.
-/
import Derived.Test.YtpnmfoojmodnlaaCoresP5
namespace Go.Proofs.Ytpnmfoojmodnlaa.Cores
open Go.Sx
set_option maxRecDepth 100000
set_option maxHeartbeats 1000000
set_option linter.unusedSimpArgs false
set_option linter.unusedVariables false

theorem mset_mset {m : PM} {i : Nat} {v w : TP} : mset (mset m i v) i w = mset m i w := by
  have e : mset (mset m i v) i w = (mset m i v).set i ((keys (mset m i v)).getD i 0, w) := rfl
  rw [e, mset_keys]
  unfold mset
  rw [List.set_set]
theorem RT_at {l : List Th} {sl turn : Int} {al : List Int} {m : PM} {q : NS} (h : RT l sl turn al m q) (hn : al.Nodup) {i : Nat} (hi : i < l.length) :
    thOf m (al.getD i 0) = rec m i ∧ mhas tythread m (al.getD i 0) = true ∧ ∀ v, mput tythread m (al.getD i 0) v = mset m i v := by
  have hml := RT_len h
  have hk := h.1.1
  subst hk
  exact ⟨th_key hn (by omega), has_key (by omega), fun v => put_key hn (by omega)⟩
theorem al_inj {al : List Int} (hn : al.Nodup) {i j : Nat} (hi : i < al.length) (hj : j < al.length) (h : al.getD i 0 = al.getD j 0) : i = j := by
  rw [List.getD_eq_getElem?_getD, List.getD_eq_getElem?_getD, List.getElem?_eq_getElem hi, List.getElem?_eq_getElem hj] at h
  exact (List.getElem_inj hn).1 h
theorem RT_come {l : List Th} {sl turn now : Int} {al : List Int} {m : PM} {q : NS} {k : Nat} (h : RT l sl turn al m (cq l now k q)) (hW : WF l now k (cq l now k q)) (hn : al.Nodup) (hk : k < l.length)
    {turn' : Int} {m' : PM} (he : (turn', m') = comeM now turn m (al.getD k 0)) :
    RT l sl turn' al m' (cq l now (k + 1) q) ∧ (turn ≤ turn' ∧ turn' ≤ turn + 1) ∧ keys m' = keys m ∧ ∀ i : Nat, (rec m' i).1 = (rec m i).1 := by
  obtain ⟨t1, t2, t3⟩ := RT_at h hn hk
  have hml := RT_len h
  unfold comeM at he
  rw [t1] at he
  have hc := (h.2.2.2.1 k hk).1.1
  rw [cq_succ]
  by_cases e : (th l (k : Int)).1 = now
  · rw [if_pos (hc.trans e), t3] at he
    rw [if_pos e]
    simp only [Prod.mk.injEq] at he
    obtain ⟨rfl, rfl⟩ := he
    have hnot : (k : Int) ∉ (cq l now k q).1 := by
      rw [hW.2.2.2 k hk]
      omega
    have hold := (h.2.2.2.1 k hk).2.2 hnot
    have hran : (cq l now k q).2.2 = q.2.2 := rfl
    rw [hran] at hold
    refine ⟨?_, ⟨by omega, by omega⟩, mset_keys, fun i => ?_⟩
    · refine RT_set h hk (by omega) (by rw [List.length_set]; exact h.1.2.2.1) h.1.2.2.2 (fun j hj => ⟨?_, rfl⟩) (fun y => by rw [List.mem_append, List.mem_singleton]) ?_ ⟨rfl, rfl, rfl⟩ ⟨?_, ?_, Int.le_refl _⟩ ?_
      · rw [getD_set' (by rw [h.1.2.2.1]; exact hk), if_neg (fun e => hj e.symm)]
      · rw [List.nodup_append]
        refine ⟨h.2.2.1, by simp, fun a ha b hb => ?_⟩
        rw [List.mem_singleton.1 hb]
        rintro rfl
        exact hnot ha
      · rw [getD_set' (by rw [h.1.2.2.1]; exact hk), if_pos rfl]
        exact hold.1
      · rw [hold.2.2, Int.zero_emod]
        exact hold.2.1
      · rw [List.pairwise_append]
        refine ⟨?_, List.pairwise_singleton _ _, fun a ha b hb => ?_⟩
        · refine List.Pairwise.imp_of_mem ?_ h.2.2.2.2
          intro a b ha hb hab
          have h1 := h.2.1 a ha
          have h2 := h.2.1 b hb
          have ea : a = ((a.toNat : Nat) : Int) := by omega
          have eb : b = ((b.toNat : Nat) : Int) := by omega
          rw [ea, eb] at hab ⊢
          rw [mset_rec (by omega), mset_rec (by omega), if_neg, if_neg]
          · exact hab
          · intro e; exact hnot ((show b = (k : Int) by omega) ▸ hb)
          · intro e; exact hnot ((show a = (k : Int) by omega) ▸ ha)
        · rw [List.mem_singleton.1 hb]
          have h1 := h.2.1 a ha
          have ea : a = ((a.toNat : Nat) : Int) := by omega
          have := ((h.2.2.2.1 a.toNat (by omega)).2.1 (by rw [← ea]; exact ha)).2.2
          rw [ea, mset_rec (by omega), mset_rec (by omega), if_pos rfl, if_neg]
          · show (rec m a.toNat).2.2.1 < turn + 1
            omega
          · intro e; exact hnot ((show a = (k : Int) by omega) ▸ ha)
    · rw [mset_rec (by omega)]
      split
      · rename_i e; subst e; rfl
      · rfl
  · rw [if_neg (fun e' => e (hc.symm.trans e'))] at he
    rw [if_neg e]
    simp only [Prod.mk.injEq] at he
    obtain ⟨rfl, rfl⟩ := he
    exact ⟨h, ⟨by omega, by omega⟩, rfl, fun _ => rfl⟩
theorem mod_up {a s : Int} (h0 : 0 ≤ a) (h1 : 1 ≤ s) : ((a + 1) % s = 0 ↔ a % s + 1 = s) ∧ (a % s + 1 ≠ s → (a + 1) % s = a % s + 1) := by
  have h2 := Int.emod_nonneg a (show s ≠ 0 by omega)
  have h3 := Int.emod_lt_of_pos a (show 0 < s by omega)
  have h4 := Int.emod_add_mul_ediv a s
  by_cases e : a % s + 1 = s
  · have : (a + 1) % s = 0 := by
      rw [show a + 1 = 0 + s * (a / s + 1) by rw [Int.mul_add]; omega, Int.add_mul_emod_self_left]
      rfl
    exact ⟨⟨fun _ => e, fun _ => this⟩, fun h => absurd e h⟩
  · have : (a + 1) % s = a % s + 1 := by
      rw [show a + 1 = (a % s + 1) + s * (a / s) by omega, Int.add_mul_emod_self_left]
      exact Int.emod_eq_of_lt (by omega) (by omega)
    exact ⟨⟨fun h => by omega, fun h => absurd h e⟩, fun _ => this⟩
theorem RT_run {l : List Th} {sl turn : Int} {al : List Int} {m : PM} {q : NS} {i : Nat} (h : RT l sl turn al m q) (hi : i < l.length) (hy : (i : Int) ∈ q.1) (hs : 1 ≤ sl) (hr : 0 ≤ q.2.2.getD i 0) :
    ((rec m i).2.2.2 + 1 = sl → RT l sl (turn + 1) al (mset m i (((rec m i).1.1, (rec m i).1.2.1, (rec m i).1.2.2 - 1), (rec m i).2.1, turn + 1, 0)) (stA sl q i)) ∧
    ((rec m i).2.2.2 + 1 ≠ sl → RT l sl turn al (mset m i (((rec m i).1.1, (rec m i).1.2.1, (rec m i).1.2.2 - 1), (rec m i).2.1, (rec m i).2.2.1, (rec m i).2.2.2 + 1)) (stA sl q i)) := by
  have hml := RT_len h
  have hold := (h.2.2.2.1 i hi).2.1 hy
  obtain ⟨w1, w2⟩ := mod_up hr hs
  have hstA : stA sl q (i : Int) = (if (q.2.2.getD i 0 + 1) % sl = 0 then q.1.filter (fun z => !decide (z = (i : Int))) ++ [(i : Int)] else q.1, q.2.1.set i (q.2.1.getD i 0 - 1), q.2.2.set i (q.2.2.getD i 0 + 1)) := rfl
  have ho : ∀ j, j ≠ i → (q.2.1.set i (q.2.1.getD i 0 - 1)).getD j 0 = q.2.1.getD j 0 ∧ (q.2.2.set i (q.2.2.getD i 0 + 1)).getD j 0 = q.2.2.getD j 0 := fun j hj => by
    rw [getD_set' (by rw [h.1.2.2.1]; exact hi), getD_set' (by rw [h.1.2.2.2]; exact hi), if_neg (fun e => hj e.symm), if_neg (fun e => hj e.symm)]
    exact ⟨rfl, rfl⟩
  have e1 : (q.2.1.set i (q.2.1.getD i 0 - 1)).getD i 0 = q.2.1.getD i 0 - 1 := by rw [getD_set' (by rw [h.1.2.2.1]; exact hi), if_pos rfl]
  have e2 : (q.2.2.set i (q.2.2.getD i 0 + 1)).getD i 0 = q.2.2.getD i 0 + 1 := by rw [getD_set' (by rw [h.1.2.2.2]; exact hi), if_pos rfl]
  refine ⟨fun hu => ?_, fun hu => ?_⟩
  · rw [hold.2.1] at hu
    have hz := w1.2 hu
    rw [hstA, if_pos hz]
    refine RT_set h hi (by omega) (by rw [List.length_set]; exact h.1.2.2.1) (by rw [List.length_set]; exact h.1.2.2.2) ho (fun y => ?_) ?_ ⟨rfl, rfl, rfl⟩ ⟨?_, ?_, Int.le_refl _⟩ ?_
    · rw [List.mem_append, List.mem_filter, List.mem_singleton]
      by_cases e : y = i
      · simp [e]
      · simp [e]
    · rw [List.nodup_append]
      refine ⟨h.2.2.1.sublist List.filter_sublist, by simp, fun a ha b hb => ?_⟩
      rw [List.mem_singleton.1 hb]
      have := (List.mem_filter.1 ha).2
      simpa using this
    · rw [e1, hold.1]
    · rw [e2, hz]
    · have hne : ∀ a ∈ q.1.filter (fun z => !decide (z = (i : Int))), a ∈ q.1 ∧ a ≠ i := fun a ha => by
        have := List.mem_filter.1 ha
        exact ⟨this.1, by simpa using this.2⟩
      have hrec : ∀ a ∈ q.1.filter (fun z => !decide (z = (i : Int))), ∀ v, rec (mset m i v) a = rec m a := fun a ha v => by
        obtain ⟨h1, h2⟩ := hne a ha
        have h3 := h.2.1 a h1
        have ea : a = ((a.toNat : Nat) : Int) := by omega
        rw [ea, mset_rec (by omega), if_neg (by omega)]
      rw [List.pairwise_append]
      refine ⟨?_, List.pairwise_singleton _ _, fun a ha b hb => ?_⟩
      · refine List.Pairwise.imp_of_mem ?_ (h.2.2.2.2.sublist List.filter_sublist)
        intro a b ha hb hab
        rw [hrec a ha, hrec b hb]
        exact hab
      · rw [List.mem_singleton.1 hb, hrec a ha, mset_rec (by omega), if_pos rfl]
        obtain ⟨h1, h2⟩ := hne a ha
        have h3 := h.2.1 a h1
        have ea : a = ((a.toNat : Nat) : Int) := by omega
        have := ((h.2.2.2.1 a.toNat (by omega)).2.1 (by rw [← ea]; exact h1)).2.2
        rw [← ea] at this
        show (rec m a).2.2.1 < turn + 1
        omega
  · rw [hold.2.1] at hu
    have hz : ¬ (q.2.2.getD i 0 + 1) % sl = 0 := fun e => hu (w1.1 e)
    rw [hstA, if_neg hz]
    refine RT_set h hi (Int.le_refl _) (by rw [List.length_set]; exact h.1.2.2.1) (by rw [List.length_set]; exact h.1.2.2.2) ho (fun y => ?_) h.2.2.1 ⟨rfl, rfl, rfl⟩ ⟨?_, ?_, hold.2.2⟩ ?_
    · constructor
      · exact .inl
      · rintro (e | e)
        · exact e
        · rw [e]; exact hy
    · rw [e1, hold.1]
    · rw [e2, w2 hu, hold.2.1]
    · refine List.Pairwise.imp_of_mem ?_ h.2.2.2.2
      intro a b ha hb hab
      have hrec : ∀ c ∈ q.1, (rec (mset m i (((rec m i).1.1, (rec m i).1.2.1, (rec m i).1.2.2 - 1), (rec m i).2.1, (rec m i).2.2.1, (rec m i).2.2.2 + 1)) c).2.2.1 = (rec m c).2.2.1 := fun c hc => by
        have h3 := h.2.1 c hc
        have ea : c = ((c.toNat : Nat) : Int) := by omega
        rw [ea, mset_rec (by omega)]
        split
        · rename_i e; rw [e]
        · rfl
      rw [hrec a ha, hrec b hb]
      exact hab

end Go.Proofs.Ytpnmfoojmodnlaa.Cores
