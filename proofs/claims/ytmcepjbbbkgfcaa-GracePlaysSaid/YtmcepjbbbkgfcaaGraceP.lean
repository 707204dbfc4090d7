/-
  GracePlays: the conditions hold.
-/
import Derived.Test.YtmcepjbbbkgfcaaGraceE
namespace Go.Proofs.Ytmcepjbbbkgfcaa.Grace
open Go.Sx
set_option maxRecDepth 100000
set_option maxHeartbeats 1000000
set_option linter.unusedSimpArgs false
set_option linter.unusedVariables false

theorem app_f {α : Type} (l m : List α) : (List.brecOn.go (motive := fun _ => List α → List α) l List.append._f).1 m = l ++ m := by
  induction l with
  | nil => rfl
  | cons a l ih => exact congrArg (a :: ·) ih
theorem set_f {α : Type} (l : List α) (n : Nat) (v : α) : (List.brecOn.go (motive := fun _ => Nat → α → List α) l List.set._f).1 n v = l.set n v := by
  induction l generalizing n with
  | nil => rfl
  | cons a l ih => cases n with
    | zero => rfl
    | succ n => exact congrArg (a :: ·) (ih n)
theorem cor_nob (si : List Int) (h : si.length = 8) (t : Int × Int) : decide ((cor si t).2 = nob) = !(seen si t.2) := by
  rcases si with _ | ⟨a, _ | ⟨b, _ | ⟨c, _ | ⟨d, _ | ⟨e, _ | ⟨f, _ | ⟨g, _ | ⟨i, _ | ⟨j, l⟩⟩⟩⟩⟩⟩⟩⟩⟩ <;> simp only [List.length_nil, List.length_cons] at h <;> try omega
  simp only [cor, nob, seen, List.map_cons, List.map_nil, List.any_cons, List.any_nil, List.cons.injEq, and_true, decide_eq_false_iff_not]
  rw [Bool.eq_iff_iff]
  simp only [decide_eq_true_eq, Bool.not_eq_true', Bool.or_eq_false_iff, decide_eq_false_iff_not, and_true]
theorem lf_cor (si : List Int) (h : si.length = 8) (li : List (Int × Int)) : lf (li.map (cor si)) = (xl si li).map (cor si) := by
  unfold lf xl
  rw [List.filter_map]
  congr 1
  apply List.filter_congr
  intro t _
  simp only [Function.comp, cor_nob si h t, Bool.not_not]
theorem ff_cor (si : List Int) (h : si.length = 8) (li : List (Int × Int)) : ff (li.map (cor si)) = xf si li := by
  unfold ff xf
  rw [List.filter_map, List.map_map]
  have : (fun r : Int × List Bool => r.1) ∘ cor si = fun t => t.1 := rfl
  rw [this]
  congr 1
  apply List.filter_congr
  intro t _
  simp only [Function.comp, cor_nob si h t]
theorem held_cor (si : List Int) (li : List (Int × Int)) (t : Int) : held (li.map (cor si)) t = heldx li t := by
  unfold held heldx; rw [List.any_map]; rfl
theorem xl_all (si : List Int) (li : List (Int × Int)) (h : ∀ t ∈ li, seen si t.2 = true) : xl si li = li := by
  unfold xl; rw [List.filter_eq_self]; exact h
theorem xf_all (si : List Int) (li : List (Int × Int)) (h : ∀ t ∈ li, seen si t.2 = true) : xf si li = [] := by
  unfold xf; rw [List.filter_eq_nil_iff.2, List.map_nil]; intro t ht; simp [h t ht]
theorem xl_mem (si : List Int) (li : List (Int × Int)) : ∀ t ∈ xl si li, seen si t.2 = true := by
  intro t ht; exact (List.mem_filter.1 ht).2
theorem getD_in (si : List Int) (c : Nat) (h : c < si.length) : (si.map (fun s => decide (0 ≤ s))).getD c false = decide (0 ≤ si.getD c 0) := by
  simp [List.getD, h]
theorem set_cor (si : List Int) (c : Nat) (v : Int) (t : Int × Int) : cor (si.set c v) t = (t.1, ((cor si t).2).set c (decide (0 ≤ v ∧ v < t.2))) := by
  simp only [cor, List.map_set]
theorem step (k : Int) (hk : 0 ≤ k) (st : GS) (si : List Int) (li : List (Int × Int)) (o : Int × Int × Int) (R : Rel k st si li) (si' : List Int) (li' : List (Int × Int)) (e : Int) (hx : (si', li', e) = xw si li o k) :
    (dst st o).2 = e ∧ Rel (k + 1) (dst st o).1 si' (xl si' li') ∧ (dst st o).1.2.2 = st.2.2 ++ xf si' li' := by
  obtain ⟨h8, hs, hl, hi, hw, hse⟩ := R
  obtain ⟨a, W, F⟩ := st
  simp only at hi hw
  have same : Rel (k + 1) (a, W, F) si (xl si li) ∧ F = F ++ xf si li := by
    refine ⟨⟨h8, fun s h => by have := hs s h; omega, fun t h => ?_, hi, ?_, xl_mem si li⟩, ?_⟩
    · rw [xl_all si li hse] at h; have := hl t h; omega
    · rw [xl_all si li hse]; exact hw
    · rw [xf_all si li hse, List.append_nil]
  unfold xw at hx
  unfold dst
  simp only []
  by_cases c1 : o.1 < 1 ∨ 3 < o.1
  · rw [if_pos c1] at hx ⊢
    obtain ⟨rfl, rfl, rfl⟩ : si' = si ∧ li' = li ∧ e = 5 := by simpa using hx
    exact ⟨rfl, same⟩
  rw [if_neg c1] at hx ⊢
  by_cases c2 : o.1 = 3
  · rw [if_pos c2]
    rw [hw, held_cor]
    by_cases c3 : heldx li o.2.2 = true
    · rw [if_pos ⟨c2, c3⟩] at hx; rw [if_pos c3]
      obtain ⟨rfl, rfl, rfl⟩ : si' = si ∧ li' = li ∧ e = 6 := by simpa using hx
      rw [← hw]
      exact ⟨rfl, same⟩
    · rw [if_neg (fun h => c3 h.2), if_pos c2] at hx; rw [if_neg c3]
      obtain ⟨rfl, rfl, rfl⟩ : si' = si ∧ li' = li ++ [(o.2.2, k)] ∧ e = 0 := by simpa using hx
      have e1 : li.map (cor si') ++ [(o.2.2, a)] = (li ++ [(o.2.2, k)]).map (cor si') := by
        rw [List.map_append, hi]
        simp only [List.map_cons, List.map_nil, cor]
        congr 3
        apply List.map_congr_left
        intro s h
        have := hs s h
        simp [this]
      unfold fr
      simp only []
      rw [e1, lf_cor si' h8, ff_cor si' h8]
      refine ⟨trivial, ⟨h8, fun s h => by have := hs s h; omega, fun t h => ?_, hi, rfl, xl_mem _ _⟩, rfl⟩
      have := (List.mem_filter.1 h).1
      rcases List.mem_append.1 this with h | h
      · have := hl t h; omega
      · simp at h; subst h; simp only []; omega
  rw [if_neg (fun h => c2 h.1), if_neg c2] at hx; rw [if_neg c2]
  by_cases c4 : o.2.1 < 0 ∨ 7 < o.2.1
  · rw [if_pos c4] at hx; rw [if_pos (by omega)]
    obtain ⟨rfl, rfl, rfl⟩ : si' = si ∧ li' = li ∧ e = 2 := by simpa using hx
    exact ⟨rfl, same⟩
  rw [if_neg c4] at hx; rw [if_neg (by omega)]
  have hc : o.2.1.toNat < si.length := by omega
  have hg : a.getD o.2.1.toNat false = decide (0 ≤ si.getD o.2.1.toNat 0) := by rw [hi, getD_in si _ hc]
  rw [hg]
  generalize hv : si.getD o.2.1.toNat 0 = v at hx ⊢
  have hset : ∀ (w : Int), w < k + 1 → ∀ s ∈ si.set o.2.1.toNat w, s < k + 1 := by
    intro w hw s h
    rcases List.mem_or_eq_of_mem_set h with h | h
    · have := hs s h; omega
    · omega
  by_cases c5 : o.1 = 1
  · rw [if_pos c5]
    by_cases c6 : 0 ≤ v
    · rw [if_pos ⟨c5, c6⟩] at hx; rw [if_pos (by simpa using c6)]
      obtain ⟨rfl, rfl, rfl⟩ : si' = si ∧ li' = li ∧ e = 6 := by simpa using hx
      exact ⟨rfl, same⟩
    · rw [if_neg (fun h => c6 h.2), if_pos c5] at hx; rw [if_neg (by simpa using c6)]
      obtain ⟨rfl, rfl, rfl⟩ : si' = si.set o.2.1.toNat k ∧ li' = li ∧ e = 0 := by simpa using hx
      have hcor : ∀ t ∈ li', cor (si.set o.2.1.toNat k) t = cor si t := by
        intro t ht
        have h1 := hl t ht
        rw [set_cor]
        have : (cor si t).2.set o.2.1.toNat (decide (0 ≤ k ∧ k < t.2)) = (cor si t).2 := by
          have hv2 : si[o.2.1.toNat]'hc = v := by rw [← hv]; simp [List.getD, hc]
          apply List.ext_getElem (by simp)
          intro n h2 h3
          rw [List.getElem_set]
          split
          · subst n; simp only [cor, List.getElem_map]; rw [hv2]; rw [decide_eq_decide]; omega
          · rfl
        rw [this]; rfl
      have hse' : ∀ t ∈ li', seen (si.set o.2.1.toNat k) t.2 = true := by
        intro t ht
        have h1 := hse t ht
        have h2 := hcor t ht
        have h3 := cor_nob si h8 t
        have h4 := cor_nob (si.set o.2.1.toNat k) (by rw [List.length_set]; exact h8) t
        rw [h2, h3] at h4
        simpa [h1] using h4
      refine ⟨rfl, ⟨by rw [List.length_set]; exact h8, hset k (by omega), fun t h => ?_, ?_, ?_, xl_mem _ _⟩, ?_⟩
      · rw [xl_all _ _ hse'] at h; have := hl t h; omega
      · simp only []; rw [List.map_set, hi]; congr 1; simp; omega
      · simp only []; rw [xl_all _ _ hse', hw]; apply List.map_congr_left; intro t ht; exact (hcor t ht).symm
      · simp only []; rw [xf_all _ _ hse', List.append_nil]
  rw [if_neg (fun h => c5 h.1), if_neg c5] at hx; rw [if_neg c5]
  by_cases c6 : v < 0
  · rw [if_pos c6] at hx; rw [if_pos (by simpa using c6)]
    obtain ⟨rfl, rfl, rfl⟩ : si' = si ∧ li' = li ∧ e = 3 := by simpa using hx
    exact ⟨rfl, same⟩
  rw [if_neg c6] at hx; rw [if_neg (by simp; omega)]
  obtain ⟨rfl, rfl, rfl⟩ : si' = si.set o.2.1.toNat (-1) ∧ li' = li ∧ e = 0 := by simpa using hx
  unfold fr
  simp only []
  have e1 : W.map (clr o.2.1) = li'.map (cor (si.set o.2.1.toNat (-1))) := by
    rw [hw, List.map_map]
    apply List.map_congr_left
    intro t _
    rw [set_cor]
    simp only [Function.comp, clr]
    rfl
  have h8' : (si.set o.2.1.toNat (-1)).length = 8 := by rw [List.length_set]; exact h8
  rw [e1, lf_cor _ h8', ff_cor _ h8']
  refine ⟨trivial, ⟨h8', hset (-1) (by omega), fun t h => ?_, ?_, rfl, xl_mem _ _⟩, rfl⟩
  · have := hl t (List.mem_filter.1 h).1; omega
  · simp only []; rw [List.map_set, hi]; congr 1

theorem pl_next {l : List (Int × Int × Int)} {k : Int} (h0 : 0 ≤ k) (hk : k < l.length) : pl (l.take (k + 1).toNat) = one (pl (l.take k.toNat)) (l.getD k.toNat (0, 0, 0)) := by
  unfold pl
  exact foldl_takeI (f := one) (b := ((nob, [], []), [], [])) (0, 0, 0) h0 hk
theorem ff_snoc (l : List (Int × List Bool)) (r : Int × List Bool) : ff (l ++ [r]) = ff l ++ (if r.2 = nob then [r.1] else []) := by
  unfold ff
  rw [List.filter_append, List.map_append]
  congr 1
  by_cases h : r.2 = nob
  · simp [h]
  · simp [h]
theorem lf_snoc (l : List (Int × List Bool)) (r : Int × List Bool) : lf (l ++ [r]) = lf l ++ (if r.2 = nob then [] else [r]) := by
  unfold lf
  rw [List.filter_append]
  congr 1
  by_cases h : r.2 = nob
  · simp [h]
  · simp [h]
theorem ff_len (l : List (Int × List Bool)) : (lf l).length + (ff l).length = l.length := by
  unfold lf ff
  rw [List.length_map]
  induction l with
  | nil => rfl
  | cons a l ih => by_cases h : a.2 = nob <;> simp [h] <;> omega
theorem held_snoc (l : List (Int × List Bool)) (r : Int × List Bool) (t : Int) : held (l ++ [r]) t = (held l t || decide (r.1 = t)) := by
  unfold held; rw [List.any_append]; simp
theorem held_in (l : List (Int × List Bool)) (t : Int) (d : Int × List Bool) {j : Int} (h0 : 0 ≤ j) (h1 : j < l.length) (h : (l.getD j.toNat d).1 = t) : held l t = true := by
  unfold held
  rw [List.any_eq_true]
  have hj : j.toNat < l.length := by omega
  refine ⟨l.getD j.toNat d, ?_, by simpa using h⟩
  simp [List.getD, hj]
theorem clr_step (l : List (Int × List Bool)) (c : Int) (d : Int × List Bool) {j : Int} (h0 : 0 ≤ j) (h1 : j < l.length) :
    ((l.take j.toNat).map (clr c) ++ l.drop j.toNat).set j.toNat ((((l.take j.toNat).map (clr c) ++ l.drop j.toNat).getD j.toNat d).1, (((l.take j.toNat).map (clr c) ++ l.drop j.toNat).getD j.toNat d).2.set c.toNat false) =
      (l.take (j + 1).toNat).map (clr c) ++ l.drop (j + 1).toNat := by
  have hj : j.toNat < l.length := by omega
  have e : (j + 1).toNat = j.toNat + 1 := by omega
  rw [e]
  generalize j.toNat = n at hj
  have hl : ((l.take n).map (clr c)).length = n := by rw [List.length_map, List.length_take]; omega
  have hd : l.drop n = l[n] :: l.drop (n + 1) := List.drop_eq_getElem_cons hj
  rw [hd]
  have hg : ((l.take n).map (clr c) ++ l[n] :: l.drop (n + 1)).getD n d = l[n] := by
    unfold List.getD
    rw [List.getElem?_append_right (by omega), hl, Nat.sub_self]; rfl
  rw [hg, List.take_succ_eq_append_getElem hj, List.map_append, List.set_append_right _ _ (by omega), hl, Nat.sub_self, List.append_assoc]
  rfl
theorem clr_len (l : List (Int × List Bool)) (c j : Int) : ((l.take j.toNat).map (clr c) ++ l.drop j.toNat).length = l.length := by
  rw [List.length_append, List.length_map, List.length_take, List.length_drop]; omega

theorem ff_in {V : List (Int × List Bool)} {i : Int} (h0 : 0 ≤ i) (h1 : i < V.length) (h : (V.getD i.toNat (0, [false, false, false, false, false, false, false, false])).2 = [false, false, false, false, false, false, false, false]) :
    ff (V.take (i + 1).toNat) = ff (V.take i.toNat) ++ [(V.getD i.toNat (0, [false, false, false, false, false, false, false, false])).1] ∧ lf (V.take (i + 1).toNat) = lf (V.take i.toNat) := by
  have h : (V.getD i.toNat (0, nob)).2 = nob := h
  rw [takeI_succ (0, nob) h0 h1, ff_snoc, lf_snoc, if_pos h, if_pos h, List.append_nil]; exact ⟨rfl, rfl⟩
theorem ff_out {V : List (Int × List Bool)} {i : Int} (h0 : 0 ≤ i) (h1 : i < V.length) (h : ¬(V.getD i.toNat (0, [false, false, false, false, false, false, false, false])).2 = [false, false, false, false, false, false, false, false]) :
    ff (V.take (i + 1).toNat) = ff (V.take i.toNat) ∧ lf (V.take (i + 1).toNat) = lf (V.take i.toNat) ++ [V.getD i.toNat (0, [false, false, false, false, false, false, false, false])] := by
  have h : ¬(V.getD i.toNat (0, nob)).2 = nob := h
  rw [takeI_succ (0, nob) h0 h1, ff_snoc, lf_snoc, if_neg h, if_neg h, List.append_nil]; exact ⟨rfl, rfl⟩
theorem heldx_snoc (l : List (Int × Int)) (r : Int × Int) (t : Int) : heldx (l ++ [r]) t = (heldx l t || decide (r.1 = t)) := by
  unfold heldx; rw [List.any_append]; simp
theorem seen_snoc (l : List Int) (s : Int) (a : Int) : seen (l ++ [s]) a = (seen l a || (decide (0 ≤ s) && decide (s < a))) := by
  unfold seen; rw [List.any_append]; simp
theorem xf_snoc (si : List Int) (l : List (Int × Int)) (r : Int × Int) : xf si (l ++ [r]) = xf si l ++ (if seen si r.2 = true then [] else [r.1]) := by
  unfold xf
  rw [List.filter_append, List.map_append]
  congr 1
  by_cases h : seen si r.2 = true
  · simp [h]
  · simp [h]
theorem xl_snoc (si : List Int) (l : List (Int × Int)) (r : Int × Int) : xl si (l ++ [r]) = xl si l ++ (if seen si r.2 = true then [r] else []) := by
  unfold xl
  rw [List.filter_append]
  congr 1
  by_cases h : seen si r.2 = true
  · simp [h]
  · simp [h]
theorem xf_len (si : List Int) (l : List (Int × Int)) : (xl si l).length + (xf si l).length = l.length := by
  unfold xl xf
  rw [List.length_map]
  induction l with
  | nil => rfl
  | cons a l ih => by_cases h : seen si a.2 = true <;> simp [h] <;> omega
theorem xw_len {si si' : List Int} {li li' : List (Int × Int)} {o : Int × Int × Int} {k e : Int} (h : (si', li', e) = xw si li o k) : li'.length ≤ li.length + 1 := by
  have : li' = (xw si li o k).2.1 := by rw [← h]
  rw [this]
  unfold xw
  repeat' split
  all_goals simp
theorem e_xplay (x : List (Int × Int × Int) × Unit) (hp : x.1.length * 24 ≤ 140737488355328) (_ : LensL cPlay.as x) : E_xplay x := by
  obtain ⟨l, u⟩ := x
  have hp : l.length * 24 ≤ 140737488355328 := hp
  unfold E_xplay
  simp only [Bool.not_eq_true', Bool.not_eq_false', Bool.not_eq_true, Bool.not_eq_false, beq_self_eq_true, decide_eq_true_eq, decide_eq_false_iff_not, Bool.not_false, Bool.not_true, beq_iff_eq, beq_eq_false_iff_ne, bne_iff_ne, ne_eq, bne_eq_false_iff_eq, holds_iff, true_and, and_true, and_self, eq_self, List.length_cons, List.length_nil, List.length_append, List.length_set, List.length_replicate, List.set_cons_zero, cond_true, cond_false, Bool.false_eq_true, Bool.true_eq_false, forall_const, false_imp_iff, imp_self, implies_true, and_imp, Decidable.not_not, Bool.and_eq_true, Bool.or_eq_true, Bool.and_eq_false_iff, Bool.or_eq_false_iff, ← List.length_eq_zero_iff, or_self, or_false, false_or, Prod.forall, Int.reduceEq, Int.reduceLT, Int.reduceLE, List.nil_append, Nat.zero_add, Int.toNat_zero, List.drop_zero, List.length_drop, List.length_take, not_true_eq_false, not_false_eq_true,  deq_iff, deq_false, pair_eta]
  refine ⟨⟨by omega, rfl, rfl, ⟨rfl, ?_, ?_, rfl, rfl, ?_⟩, by omega⟩, ?_⟩
  · intro s h; simp at h; omega
  · intro t h; cases h
  · intro t h; cases h
  intro si li e m f k k0 k1 hpl hf hR hl1 hl2 hl3 h8 _ _ _ _ _ _ _ _ _ _ _
  refine ⟨fun k2 => ?_, fun k2 => ?_⟩
  · have hn := pl_next k0 k2
    rw [hn]
    generalize l.getD k.toNat (0, 0, 0) = o
    generalize pl (l.take k.toNat) = S at hpl hf hR
    clear hn
    refine ⟨⟨k0, k2⟩, ⟨by omega, rfl⟩, ?_⟩
    intro b j j0 j1 hb _ _
    refine ⟨fun j2 => ⟨⟨j0, j2⟩, by omega, ⟨by omega, by omega, ?_⟩, by omega⟩, fun j2 => ?_⟩
    · rw [takeI_succ _ j0 j2, heldx_snoc, hb]; try rfl
    · rw [takeI_all (by omega)] at hb
      refine ⟨?_, ?_⟩
      · obtain ⟨kd, c, t⟩ := o
        simp only [] at hb ⊢
        unfold xw
        simp only []
        refine ⟨fun h => by rw [if_pos h], fun h1 h2 => ⟨fun h3 h4 => ?_, fun h3 => ⟨fun h4 => ⟨by omega, ?_⟩, fun h4 => ?_⟩⟩⟩
        · rw [if_neg (by omega), if_pos ⟨h3, by rw [← hb]; exact h4⟩]
        · have : b = false := by rcases h3 with h3 | h3; exact absurd h4 h3; exact h3
          rw [if_neg (by omega), if_neg (by rw [← hb, this]; simp), if_pos h4]
        · rw [if_neg (by omega), if_neg (fun h => h4 h.1), if_neg h4]
          refine ⟨fun h5 => by rw [if_pos h5], fun h5 h6 => ?_⟩
          rw [if_neg (by omega)]
          refine ⟨fun h7 => by omega, fun h7 h8 => by rw [if_pos ⟨h7, h8⟩], fun h7 => ⟨fun h8 => ⟨by omega, ?_⟩, fun h8 => ⟨by omega, fun h9 => ?_, fun h9 => ⟨by omega, ?_⟩⟩⟩⟩
          · rw [if_neg (by omega), if_pos h8]
          · rw [if_neg (by omega), if_neg h8, if_pos h9]
          · rw [if_neg (by omega), if_neg h8, if_neg h9]
      · intro si' li' e' u' hx h8' _ _ _ _ _
        have hst := step k k0 S.1 si li o hR si' li' e' hx
        have hxl := xw_len hx
        obtain ⟨hs1, hs2, hs3⟩ := hst
        clear hx hb
        refine ⟨⟨by omega, by simp [xf], by simp [xl]⟩, ?_⟩
        intro f2 l2 i u2 i0 i1 ef el _ _ _ _ _ _
        have hxf := xf_len si' (li'.take i.toNat)
        have hlt : (li'.take i.toNat).length ≤ li'.length := by rw [List.length_take]; omega
        refine ⟨fun i2 => ⟨⟨i0, i2⟩, rfl, ?_⟩, fun i2 => ?_⟩
        · intro b n u3 n0 n1 hb _ _
          refine ⟨fun n2 => ⟨by omega, fun h => ⟨h, fun h' => ⟨h, h'⟩⟩, by omega, ⟨by omega, by omega, ?_⟩, by omega⟩, fun n2 => ?_⟩
          · rw [takeI_succ 0 n0 (by omega), seen_snoc, hb]
          · rw [takeI_all (by omega)] at hb
            rw [takeI_succ (0, 0) i0 i2, xf_snoc, xl_snoc, ← hb]
            subst ef el
            rw [List.length_append] at *
            refine ⟨fun h => ⟨by omega, by omega, ⟨by omega, by omega, ?_, ?_⟩, by omega⟩, fun h => ⟨by omega, by omega, ⟨by omega, by omega, ?_, ?_⟩, by omega⟩⟩
            · rw [if_pos h, List.append_nil]
            · rw [if_pos h]
            · rw [if_neg (by rw [h]; simp), List.append_assoc]
            · rw [if_neg (by rw [h]; simp), List.append_nil]
        · rw [takeI_all (by omega)] at ef el hxf
          subst ef el
          refine ⟨by omega, by omega, by omega, ⟨by omega, by omega, ?_, ?_, hs2, ?_, by omega, by omega⟩, by omega⟩
          · show (S.2.1 ++ [(dst S.1 o).2], S.2.2 ++ [((dst S.1 o).1.2.2.length : Int)]) = _
            rw [hs1, hs3, hf, hpl]
          · show (dst S.1 o).1.2.2 = _
            rw [hs3, hf]
          · rw [List.length_append]; omega
  · rw [takeI_all (by omega)] at hpl hf hR
    refine ⟨⟨by omega, rfl⟩, ?_⟩
    intro w j j0 j1 hw _ _ _ _
    have hlt : (li.take j.toNat).length ≤ li.length := by rw [List.length_take]; omega
    have hwl : w.length = (li.take j.toNat).length := by rw [hw, List.length_map]
    refine ⟨fun j2 => ⟨⟨j0, j2⟩, by omega, by omega, ⟨by omega, by omega, ?_⟩, by omega⟩, fun j2 => ?_⟩
    · rw [takeI_succ _ j0 j2, List.map_append, hw]; rfl
    · unfold play; rw [hpl, hf, hR.2.2.2.2.1]
      rw [takeI_all (by omega)] at hw
      refine ⟨rfl, rfl, rfl, ?_⟩
      rw [hw, List.map_map]; rfl
theorem e_equal (x : List Int × List Int × Unit) (_ : True) (hl : LensL cEqual.as x) : E_equal x := by
  obtain ⟨xs, ys, u⟩ := x
  have hlx : xs.length ≤ 9223372036854775807 := hl.1.1
  unfold E_equal
  simp only [Bool.not_eq_true', Bool.not_eq_false', Bool.not_eq_true, Bool.not_eq_false, beq_self_eq_true, decide_eq_true_eq, decide_eq_false_iff_not, Bool.not_false, Bool.not_true, beq_iff_eq, beq_eq_false_iff_ne, bne_iff_ne, ne_eq, bne_eq_false_iff_eq, holds_iff, true_and, and_true, and_self, eq_self, List.length_cons, List.length_nil, List.length_append, List.length_set, List.length_replicate, List.set_cons_zero, cond_true, cond_false, Bool.false_eq_true, Bool.true_eq_false, forall_const, false_imp_iff, imp_self, implies_true, and_imp, Decidable.not_not, Bool.and_eq_true, Bool.or_eq_true, Bool.and_eq_false_iff, Bool.or_eq_false_iff, ← List.length_eq_zero_iff, or_self, or_false, false_or, Prod.forall, Int.reduceEq, Int.reduceLT, Int.reduceLE, List.nil_append, Nat.zero_add, Int.toNat_zero, List.drop_zero, List.length_drop, List.length_take, not_true_eq_false, not_false_eq_true]
  try simp only [flip_f, flip_t, decide_eq_true_eq, decide_eq_false_iff_not]
  repeat' (first | with_reducible apply And.intro | with_reducible intro _)
  all_goals try omega
  all_goals grind [takeI_succ, takeI_all]
theorem e_equale (x : List Int × List Int × Unit) (_ : True) (hl : LensL cEqual.as x) : E_equale x := by
  obtain ⟨xs, ys, u⟩ := x
  have hlx : xs.length ≤ 9223372036854775807 := hl.1.1
  unfold E_equale
  simp only [Bool.not_eq_true', Bool.not_eq_false', Bool.not_eq_true, Bool.not_eq_false, beq_self_eq_true, decide_eq_true_eq, decide_eq_false_iff_not, Bool.not_false, Bool.not_true, beq_iff_eq, beq_eq_false_iff_ne, bne_iff_ne, ne_eq, bne_eq_false_iff_eq, holds_iff, true_and, and_true, and_self, eq_self, List.length_cons, List.length_nil, List.length_append, List.length_set, List.length_replicate, List.set_cons_zero, cond_true, cond_false, Bool.false_eq_true, Bool.true_eq_false, forall_const, false_imp_iff, imp_self, implies_true, and_imp, Decidable.not_not, Bool.and_eq_true, Bool.or_eq_true, Bool.and_eq_false_iff, Bool.or_eq_false_iff, ← List.length_eq_zero_iff, or_self, or_false, false_or, Prod.forall, Int.reduceEq, Int.reduceLT, Int.reduceLE, List.nil_append, Nat.zero_add, Int.toNat_zero, List.drop_zero, List.length_drop, List.length_take, not_true_eq_false, not_false_eq_true]
  try simp only [flip_f, flip_t, decide_eq_true_eq, decide_eq_false_iff_not]
  repeat' (first | with_reducible apply And.intro | with_reducible intro _)
  all_goals try omega
  all_goals grind [takeI_succ, takeI_all]
theorem e_plays (x : List (Int × Int × Int) × Unit) (hp : x.1.length * 24 ≤ 140737488355328) (_ : LensL cLaw.as x) : E_plays x := by
  unfold E_plays
  simp only [Bool.not_eq_true', Bool.not_eq_false', Bool.not_eq_true, Bool.not_eq_false, beq_self_eq_true, decide_eq_true_eq, decide_eq_false_iff_not, Bool.not_false, Bool.not_true, beq_iff_eq, beq_eq_false_iff_ne, bne_iff_ne, ne_eq, bne_eq_false_iff_eq, holds_iff, true_and, and_true, and_self, eq_self, List.length_cons, List.length_nil, List.length_append, List.length_set, List.length_replicate, List.set_cons_zero, cond_true, cond_false, Bool.false_eq_true, Bool.true_eq_false, forall_const, false_imp_iff, imp_self, implies_true, and_imp, Decidable.not_not, Bool.and_eq_true, Bool.or_eq_true, Bool.and_eq_false_iff, Bool.or_eq_false_iff, ← List.length_eq_zero_iff, or_self, or_false, false_or, Prod.forall, Int.reduceEq, Int.reduceLT, Int.reduceLE, List.nil_append, Nat.zero_add, Int.toNat_zero, List.drop_zero, List.length_drop, List.length_take, not_true_eq_false, not_false_eq_true,  deq_iff, deq_false, pair_eta]
  exact hp
theorem e_play (x : List (Int × Int × Int) × Unit) (hp : x.1.length * 24 ≤ 140737488355328) (_ : LensL cPlay.as x) : E_play x := by
  obtain ⟨l, u⟩ := x
  have hp : l.length * 24 ≤ 140737488355328 := hp
  unfold E_play
  simp only [app_f, set_f]
  simp only [Bool.not_eq_true', Bool.not_eq_false', Bool.not_eq_true, Bool.not_eq_false, beq_self_eq_true, decide_eq_true_eq, decide_eq_false_iff_not, Bool.not_false, Bool.not_true, beq_iff_eq, beq_eq_false_iff_ne, bne_iff_ne, ne_eq, bne_eq_false_iff_eq, holds_iff, true_and, and_true, and_self, eq_self, List.length_cons, List.length_nil, List.length_append, List.length_set, List.length_replicate, List.set_cons_zero, cond_true, cond_false, Bool.false_eq_true, Bool.true_eq_false, forall_const, false_imp_iff, imp_self, implies_true, and_imp, Decidable.not_not, Bool.and_eq_true, Bool.or_eq_true, Bool.and_eq_false_iff, Bool.or_eq_false_iff, ← List.length_eq_zero_iff, or_self, or_false, false_or, Prod.forall, Int.reduceEq, Int.reduceLT, Int.reduceLE, List.nil_append, Nat.zero_add, Int.toNat_zero, List.drop_zero, List.length_drop, List.length_take, not_true_eq_false, not_false_eq_true,  deq_iff, deq_false, pair_eta]
  refine ⟨⟨by omega, rfl, by omega⟩, ?_⟩
  intro a W b e m k k0 k1 hpl hl1 hl2 hl3 ha _ _ _ _ _ _ _ _ _ _
  refine ⟨?_, ?_⟩
  · intro k2
    have hn := pl_next k0 k2
    rw [hpl] at hn
    rw [hn]
    generalize l.getD k.toNat (0, 0, 0) = o
    clear hpl hn
    obtain ⟨kd, c, t⟩ := o
    unfold one dst
    simp only []
    refine ⟨⟨k0, k2⟩, fun h => ?_, fun h1 h2 => ⟨fun h3 => ?_, fun h3 => ?_⟩⟩
    · rw [if_pos h]; refine ⟨by omega, by omega, by omega, ⟨by omega, by omega, rfl, by omega⟩, by omega⟩
    · rw [if_neg (by omega), if_pos h3]
      refine ⟨⟨by omega, rfl⟩, ?_⟩
      intro j j0 j1 hh _ _
      refine ⟨fun j2 => ⟨⟨j0, j2⟩, fun h4 => ?_, fun h4 => ?_⟩, fun j2 => ?_⟩
      · rw [if_pos (held_in W t _ j0 j2 h4)]; refine ⟨by omega, by omega, by omega, ⟨by omega, by omega, rfl, by omega⟩, by omega⟩
      · refine ⟨by omega, ⟨by omega, by omega, ?_⟩, by omega⟩
        rw [takeI_succ _ j0 j2, held_snoc, hh]; simpa using h4
      · have e1 : W.take j.toNat = W := takeI_all (by omega)
        rw [e1] at hh
        rw [if_neg (by rw [hh]; simp)]
        have hlen : (W ++ [(t, a)]).length = W.length + 1 := by simp
        refine ⟨by omega, ⟨by omega, by simp [ff], by simp [lf]⟩, ?_⟩
        generalize hV : W ++ [(t, a)] = V at *
        intro a2 b2 w2 i i0 i1 ea eb ew _ _ _ _ _ _ _
        have hlf := ff_len (V.take i.toNat)
        have hlt : (V.take i.toNat).length ≤ V.length := by rw [List.length_take]; omega
        refine ⟨fun i2 => ⟨⟨i0, i2⟩, fun h5 => ?_, fun h5 => ?_⟩, fun i2 => ?_⟩
        · obtain ⟨f1, f2⟩ := ff_in i0 (by omega) h5
          rw [f1, f2]
          subst ea eb ew
          rw [List.length_append] at *
          exact ⟨by omega, by omega, ⟨by omega, by omega, rfl, List.append_assoc _ _ _, rfl⟩, by omega⟩
        · obtain ⟨f1, f2⟩ := ff_out i0 (by omega) h5
          rw [f1, f2]
          subst ea eb ew
          rw [List.length_append] at *
          exact ⟨by omega, by omega, ⟨by omega, by omega, rfl, rfl, rfl⟩, by omega⟩
        · have e2 : V.take i.toNat = V := takeI_all (by omega)
          rw [e2] at eb ew hlf
          subst ea eb ew
          refine ⟨by omega, by omega, by omega, ⟨by omega, by omega, ?_, ?_, by omega⟩, by omega⟩
          · unfold fr; rw [← hV]
          · rw [List.length_append]; omega
    · rw [if_neg (by omega), if_neg h3]
      refine ⟨fun h4 => ?_, fun h4 h5 => ⟨fun h6 => ?_, fun h6 => ?_⟩⟩
      · rw [if_pos h4]; refine ⟨by omega, by omega, by omega, ⟨by omega, by omega, rfl, by omega⟩, by omega⟩
      · rw [if_neg (by omega), if_pos h6]
        refine ⟨by omega, fun h7 => ?_, fun h7 => ⟨fun h8 => absurd h8 (by omega), fun h8 => ⟨by omega, fun h9 => absurd h9 h8, fun _ => ?_⟩⟩⟩
        · rw [if_pos h7]; refine ⟨by omega, by omega, by omega, ⟨by omega, by omega, rfl, by omega⟩, by omega⟩
        · rw [if_neg (by rw [h7]; simp)]
          refine ⟨by omega, by omega, by omega, ⟨by omega, by omega, ?_, by omega⟩, by omega⟩
          rw [h6]; rfl
      · rw [if_neg (by omega), if_neg h6]
        have h8 : kd = 2 := by omega
        refine ⟨fun _ => ⟨by omega, fun h7 => ?_, fun h7 => ⟨by omega, fun _ => ?_, fun h => absurd h8 h⟩⟩, fun h => absurd h8 h⟩
        · rw [if_pos h7]; refine ⟨by omega, by omega, by omega, ⟨by omega, by omega, rfl, by omega⟩, by omega⟩
        · rw [if_neg (by rw [h7]; simp)]
          have hk : (kd == 1) = false := by simpa using h6
          rw [hk]
          refine ⟨⟨by omega, rfl⟩, ?_⟩
          intro a1 V j j0 j1 ea ev _ _ _ _ _
          have hvl : V.length = W.length := by rw [ev]; exact clr_len W c j
          refine ⟨fun j2 => ⟨by omega, by omega, by omega, ⟨by omega, by omega, ea, ?_⟩, by omega⟩, fun j2 => ?_⟩
          · rw [ev]; exact clr_step W c _ j0 j2
          · have ev : V = W.map (clr c) := by
              rw [ev, takeI_all (by omega), List.drop_of_length_le (by omega), List.append_nil]
            subst ea
            refine ⟨⟨by omega, by simp [ff], by simp [lf]⟩, ?_⟩
            intro a2 b2 w2 i i0 i1 ea eb ew _ _ _ _ _ _ _
            have hlf := ff_len (V.take i.toNat)
            have hlt : (V.take i.toNat).length ≤ V.length := by rw [List.length_take]; omega
            refine ⟨fun i2 => ⟨⟨i0, i2⟩, fun h5 => ?_, fun h5 => ?_⟩, fun i2 => ?_⟩
            · obtain ⟨f1, f2⟩ := ff_in i0 (by omega) h5
              rw [f1, f2]
              subst ea eb ew
              rw [List.length_append] at *
              exact ⟨by omega, by omega, ⟨by omega, by omega, rfl, List.append_assoc _ _ _, rfl⟩, by omega⟩
            · obtain ⟨f1, f2⟩ := ff_out i0 (by omega) h5
              rw [f1, f2]
              subst ea eb ew
              rw [List.length_append] at *
              exact ⟨by omega, by omega, ⟨by omega, by omega, rfl, rfl, rfl⟩, by omega⟩
            · have e2 : V.take i.toNat = V := takeI_all (by omega)
              rw [e2] at eb ew hlf
              subst ea eb ew
              refine ⟨by omega, by omega, by omega, ⟨by omega, by omega, ?_, ?_, by omega⟩, by omega⟩
              · unfold fr; rw [← ev]
              · rw [List.length_append]; omega
  · intro k2
    have e1 : l.take k.toNat = l := takeI_all (by omega)
    rw [e1] at hpl
    refine ⟨⟨by omega, rfl⟩, ?_⟩
    intro w j j0 j1 hw _ _ _ _
    have hlt : (W.take j.toNat).length ≤ W.length := by rw [List.length_take]; omega
    have hwl : w.length = (W.take j.toNat).length := by rw [hw, List.length_map]
    refine ⟨fun j2 => ⟨⟨j0, j2⟩, by omega, by omega, ⟨by omega, by omega, ?_⟩, by omega⟩, fun j2 => ?_⟩
    · rw [takeI_succ _ j0 j2, List.map_append, hw]; rfl
    · unfold play; rw [hpl]
      rw [takeI_all (by omega)] at hw
      exact ⟨rfl, rfl, rfl, hw⟩
theorem pre_plays (x : HL cLaw.as) (_ : GoodL cLaw.as x) (h : FitL cLaw.as x) : x.1.length * 24 ≤ 140737488355328 := by
  have h : x.1.length * 24 ≤ 140737488351232 := h.1.1
  omega

end Go.Proofs.Ytmcepjbbbkgfcaa.Grace
