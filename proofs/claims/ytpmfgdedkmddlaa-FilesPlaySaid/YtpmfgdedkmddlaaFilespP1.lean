/-
  FilesPlay: the openings in memory and in the reference.
-/
import Derived.Test.YtpmfgdedkmddlaaFilespP0
namespace Go.Proofs.Ytpmfgdedkmddlaa.Filesp
open Go.Sx
set_option maxRecDepth 100000
set_option maxHeartbeats 1000000
set_option linter.unusedSimpArgs false
set_option linter.unusedVariables false

theorem mget_put {t : Ty} (m : List (Int × t.D)) (k : Int) (v : t.D) (j : Int) : mget? t (mput t m k v) j = if k = j then some v else mget? t m j := by
  induction m with
  | nil => by_cases h : k = j <;> simp [mput, mget?, h]
  | cons a r ih =>
    by_cases h : a.1 = k
    · by_cases h2 : k = j <;> simp [mput, mget?, h, h2]
    · by_cases h2 : k = j
      · subst h2; simp [mput, mget?, h, ih]
      · simp [mput, mget?, h, ih, h2]
theorem mval_put {t : Ty} (m : List (Int × t.D)) (k : Int) (v : t.D) (j : Int) : mval t (mput t m k v) j = if k = j then v else mval t m j := by
  unfold mval
  rw [mget_put]
  by_cases h : k = j <;> simp [h]
theorem mhas_put {t : Ty} (m : List (Int × t.D)) (k : Int) (v : t.D) (j : Int) : mhas t (mput t m k v) j = (decide (k = j) || mhas t m j) := by
  unfold mhas
  rw [mget_put]
  by_cases h : k = j <;> simp [h]
theorem mget_at {t : Ty} : ∀ {m : List (Int × t.D)} {i : Nat} (h : i < m.length), (m.map Prod.fst).Nodup → mget? t m m[i].1 = some m[i].2
  | [], _, h, _ => by simp at h
  | a :: r, 0, _, _ => by simp [mget?]
  | a :: r, i + 1, h, hn => by
    simp only [List.map_cons, List.nodup_cons] at hn
    have hi : i < r.length := by simpa using h
    have hne : ¬ a.1 = r[i].1 := fun e => hn.1 (by rw [e]; exact List.mem_map.2 ⟨_, List.getElem_mem hi, rfl⟩)
    have ih := mget_at (t := t) hi hn.2
    simp only [List.getElem_cons_succ, mget?, hne, decide_false, cond_false]
    exact ih
theorem mput_at {t : Ty} {v : t.D} : ∀ {m : List (Int × t.D)} {i : Nat} (h : i < m.length), (m.map Prod.fst).Nodup → mput t m m[i].1 v = m.set i (m[i].1, v)
  | [], _, h, _ => by simp at h
  | a :: r, 0, _, _ => by simp [mput]
  | a :: r, i + 1, h, hn => by
    simp only [List.map_cons, List.nodup_cons] at hn
    have hi : i < r.length := by simpa using h
    have hne : ¬ a.1 = r[i].1 := fun e => hn.1 (by rw [e]; exact List.mem_map.2 ⟨_, List.getElem_mem hi, rfl⟩)
    have ih := mput_at (t := t) (v := v) hi hn.2
    simp only [List.getElem_cons_succ, mput, hne, decide_false, cond_false, List.set_cons_succ, ih]
theorem mput_new {t : Ty} {a : Int} {v : t.D} : ∀ {m : List (Int × t.D)}, mhas t m a = false → mput t m a v = m ++ [(a, v)]
  | [], _ => rfl
  | e :: r, h => by
    by_cases h1 : e.1 = a
    · simp [mhas, mget?, h1] at h
    · have h2 : mhas t r a = false := by simpa [mhas, mget?, h1] using h
      simp only [mput, h1, decide_false, cond_false, mput_new h2, List.cons_append]
theorem has_mem {t : Ty} {a : Int} : ∀ {m : List (Int × t.D)}, mhas t m a = true ↔ a ∈ m.map Prod.fst
  | [] => by simp [mhas, mget?]
  | e :: r => by
    have ih := has_mem (t := t) (a := a) (m := r)
    by_cases h1 : e.1 = a
    · simp [mhas, mget?, h1]
    · have h2 : ¬ a = e.1 := fun q => h1 q.symm
      simp only [List.map_cons, List.mem_cons, h2, false_or, ← ih]
      simp [mhas, mget?, h1]
/- The place of opening number i + 1. -/
theorem key_get {m : OM} {i : Nat} (h : i < m.length) : (keys m).getD i 0 = m[i].1 := by
  unfold keys
  simp [List.getD, h]
theorem op_get {m : OM} {i : Nat} (hn : (keys m).Nodup) (h : i < m.length) : opOf m ((keys m).getD i 0) = (m.getD i (0, 0, 0, 0, 0)).2 ∧ mhas tyopen m ((keys m).getD i 0) = true := by
  have := mget_at (t := tyopen) h hn
  rw [key_get h]
  unfold opOf mval mhas
  rw [this]
  exact ⟨by simp [List.getD, h], rfl⟩
theorem op_put {m : OM} {i : Nat} {v : Int × Int × Int × Int} (hn : (keys m).Nodup) (h : i < m.length) : mput tyopen m ((keys m).getD i 0) v = m.set i ((keys m).getD i 0, v) := by
  rw [key_get h]
  exact mput_at (t := tyopen) h hn
theorem keys_set {m : OM} {i : Nat} {v : Int × Int × Int × Int} (h : i < m.length) : keys (m.set i ((keys m).getD i 0, v)) = keys m := by
  rw [key_get h]
  unfold keys
  rw [List.map_set]
  refine List.ext_getElem? fun j => ?_
  by_cases e : i = j
  · subst e; simp [h]
  · rw [List.getElem?_set_ne e]
theorem same_keys {m m' : OM} {c x : Int} (h : keys m' = keys m) : same m' c x ↔ same m c x := by
  have : m'.length = m.length := by
    have := congrArg List.length h
    simpa [keys] using this
  unfold same
  rw [h, this]
theorem same_app {m : OM} {e : Int × Int × Int × Int × Int} {c x : Int} (h : same m c x) : same (m ++ [e]) c x := by
  rcases h with h | ⟨h1, h2, h3⟩
  · exact .inl h
  · refine .inr ⟨h1, by simp; omega, ?_⟩
    have hi : (x - 1).toNat < (keys m).length := by simp [keys]; omega
    rw [h3]
    unfold keys at hi ⊢
    rw [List.map_append]
    simp only [List.getD, List.getElem?_append_left hi]
theorem same_neg {m : OM} {c x : Int} (hk : ∀ e ∈ m, 0 ≤ e.1) (h : same m c x) : (c < 0 ↔ x = 0) ∧ 0 ≤ x ∧ x ≤ m.length ∧ (c < 0 → c = -1) := by
  rcases h with ⟨rfl, rfl⟩ | ⟨h1, h2, h3⟩
  · simp
  · have hi : (x - 1).toNat < m.length := by omega
    rw [key_get hi] at h3
    have := hk m[(x - 1).toNat] (List.getElem_mem hi)
    omega
theorem getD_set' {α : Type} {l : List α} {i j : Nat} {v d : α} (h : i < l.length) : (l.set i v).getD j d = if i = j then v else l.getD j d := by
  by_cases e : i = j
  · subst e; simp [List.getD, h]
  · simp [List.getD, List.getElem?_set_ne e, e]
def okD (s : FS) : Prop := ∀ i : Nat, i < s.2.2.2.1.length → 0 ≤ s.2.2.2.1.getD i 0 ∧ s.2.2.2.1.getD i 0 ≤ 1099511627776 ∧ 0 ≤ s.2.2.2.2.getD i 0 ∧ s.2.2.2.2.getD i 0 ≤ 1099511627776
theorem FR_upd {s s' : FS} {tabs : List Int} {m0 : TM} {m1 m1' : OM} {p fd : Nat} {c x : Int} (h : FR s tabs m0 m1) (hp : p < 4) (hfd : fd < 16) (hal : s.2.1.getD p false = true)
    (hext : ∀ c x, same m1 c x → same m1' c x) (hB : okOps m1' s') (hD : okD s') (hm : s'.1 = s.1.set p ((s.1.getD p []).set fd x)) (ha : s'.2.1 = s.2.1) (hs : same m1' c x) :
    FR s' tabs (mput TB m0 (tabs.getD p 0) ((tbOf m0 (tabs.getD p 0)).set fd c)) m1' := by
  obtain ⟨⟨h1, h2, h3⟩, _, hC, _⟩ := h
  have hCp := hC p hp
  have ht0 := hCp.2.1.1 hal
  obtain ⟨hh, htl, htj⟩ := hCp.2.2.2.1 hal
  have hml : p < s.1.length := by omega
  refine ⟨⟨h1, by rw [hm]; simpa using h2, by rw [ha]; exact h3⟩, hB, fun q hq => ?_, hD⟩
  obtain ⟨g1, g2, g3, g4, g5⟩ := hC q hq
  rw [hm, ha, getD_set' hml]
  by_cases e : p = q
  · subst e
    rw [if_pos rfl]
    refine ⟨by simpa using g1, g2, fun hf => ?_, fun _ => ?_, g5⟩
    · rw [hal] at hf; cases hf
    · refine ⟨by rw [mhas_put]; simp, ?_, fun j hj => ?_⟩
      · show (mval TB (mput TB m0 _ _) _).length = 16
        rw [mval_put, if_pos rfl]
        simpa using htl
      · show same m1' ((mval TB (mput TB m0 _ _) _).getD j 0) _
        rw [mval_put, if_pos rfl, getD_set' (by rw [htl]; exact hfd), getD_set' (by rw [g1]; exact hfd)]
        by_cases e2 : fd = j
        · rw [if_pos e2, if_pos e2]; exact hs
        · rw [if_neg e2, if_neg e2]; exact hext _ _ (htj j hj)
  · rw [if_neg e]
    refine ⟨g1, g2, g3, fun ha => ?_, g5⟩
    obtain ⟨k1, k2, k3⟩ := g4 ha
    have hne : ¬ tabs.getD p 0 = tabs.getD q 0 := fun e2 => e (hCp.2.2.2.2 q hq e2 ht0)
    refine ⟨by rw [mhas_put, k1]; simp, ?_, fun j hj => ?_⟩
    · show (mval TB (mput TB m0 _ _) _).length = 16
      rw [mval_put, if_neg hne]; exact k2
    · show same m1' ((mval TB (mput TB m0 _ _) _).getD j 0) _
      rw [mval_put, if_neg hne]; exact hext _ _ (k3 j hj)
/- An opening's record given anew. -/
theorem ops_set {s s' : FS} {m1 : OM} {i : Nat} {y : Int × Int × Int × Int} (hn : (keys m1).Nodup) (h : okOps m1 s) (hi : i < m1.length)
    (h1 : s'.2.2.1.length = s.2.2.1.length ∧ s'.2.2.2.1.length = s.2.2.2.1.length ∧ s'.2.2.2.2.length = s.2.2.2.2.length)
    (h2 : ∀ j : Nat, j ≠ i → s'.2.2.1.getD j 0 = s.2.2.1.getD j 0 ∧ s'.2.2.2.1.getD j 0 = s.2.2.2.1.getD j 0 ∧ s'.2.2.2.2.getD j 0 = s.2.2.2.2.getD j 0 ∧ cntM (j + 1) s'.1 = cntM (j + 1) s.1)
    (h3 : y = (s'.2.2.1.getD i 0, s'.2.2.2.1.getD i 0, s'.2.2.2.2.getD i 0, cntM (i + 1) s'.1)) : okOps (mput tyopen m1 ((keys m1).getD i 0) y) s' := by
  obtain ⟨g1, g2, g3, g4⟩ := h
  rw [op_put hn hi]
  refine ⟨by rw [List.length_set]; omega, by omega, by omega, fun j hj => ?_⟩
  rw [List.length_set] at hj
  rw [getD_set' hi]
  by_cases e : i = j
  · subst e; rw [if_pos rfl]; exact h3
  · rw [if_neg e, g4 j hj]
    obtain ⟨k1, k2, k3, k4⟩ := h2 j (fun q => e q.symm)
    rw [k1, k2, k3, k4]
theorem FR_ops {s s' : FS} {tabs : List Int} {m0 : TM} {m1 m1' : OM} (h : FR s tabs m0 m1) (hk : keys m1' = keys m1) (hB : okOps m1' s') (hD : okD s') (hm : s'.1 = s.1) (ha : s'.2.1 = s.2.1) : FR s' tabs m0 m1' := by
  obtain ⟨⟨h1, h2, h3⟩, _, hC, _⟩ := h
  refine ⟨⟨h1, by rw [hm]; exact h2, by rw [ha]; exact h3⟩, hB, fun q hq => ?_, hD⟩
  obtain ⟨g1, g2, g3, g4, g5⟩ := hC q hq
  rw [hm, ha]
  refine ⟨g1, g2, g3, fun ha => ?_, g5⟩
  obtain ⟨k1, k2, k3⟩ := g4 ha
  exact ⟨k1, k2, fun j hj => (same_keys hk).2 (k3 j hj)⟩
theorem mput_same {t : Ty} {a : Int} {v : t.D} : ∀ {m : List (Int × t.D)}, mget? t m a = some v → mput t m a v = m
  | [], h => by cases h
  | e :: r, h => by
    by_cases h1 : e.1 = a
    · have h2 : e.2 = v := by simpa [mget?, h1] using h
      simp only [mput, h1, decide_true, cond_true, ← h2]
      rw [← h1]
    · have h2 : mget? t r a = some v := by simpa [mget?, h1] using h
      simp only [mput, h1, decide_false, cond_false, mput_same h2]
theorem inc_at {m1 : OM} (hn : (keys m1).Nodup) (hk : ∀ e ∈ m1, 0 ≤ e.1) {c x : Int} (h : same m1 c x) : keys (inc m1 c) = keys m1 ∧ (inc m1 c).length = m1.length ∧
    ∀ i : Nat, i < m1.length → ((inc m1 c).getD i (0, 0, 0, 0, 0)).2 = ((m1.getD i (0, 0, 0, 0, 0)).2.1, (m1.getD i (0, 0, 0, 0, 0)).2.2.1, (m1.getD i (0, 0, 0, 0, 0)).2.2.2.1, (m1.getD i (0, 0, 0, 0, 0)).2.2.2.2 + if x = (i : Int) + 1 then 1 else 0) := by
  rcases h with ⟨rfl, rfl⟩ | ⟨h1, h2, h3⟩
  · refine ⟨by simp [inc], by simp [inc], fun i hi => ?_⟩
    have : ¬ (0 : Int) = (i : Int) + 1 := by omega
    rw [if_neg this]
    simp [inc]
  · have hi0 : (x - 1).toNat < m1.length := by omega
    have hc : ¬ c = -1 := by
      rw [h3, key_get hi0]
      have := hk _ (List.getElem_mem hi0)
      omega
    have hop := (op_get hn hi0).1
    rw [← h3] at hop
    unfold inc
    rw [if_neg hc, hop]
    rw [h3, op_put hn hi0]
    refine ⟨keys_set hi0, by rw [List.length_set], fun i hi => ?_⟩
    rw [getD_set' hi0]
    by_cases e : (x - 1).toNat = i
    · rw [if_pos e, if_pos (by omega), e]
    · rw [if_neg e, if_neg (by omega)]
      simp
theorem keys_mem {m1 m1' : OM} (h : keys m1' = keys m1) (hk : ∀ e ∈ m1, 0 ≤ e.1) : ∀ e ∈ m1', 0 ≤ e.1 := fun e he => by
  have : e.1 ∈ keys m1 := by rw [← h]; exact List.mem_map_of_mem he
  obtain ⟨e2, h2, h3⟩ := List.mem_map.1 this
  rw [← h3]; exact hk e2 h2
theorem incs_at : ∀ {l xs : List Int} {m1 : OM}, (keys m1).Nodup → (∀ e ∈ m1, 0 ≤ e.1) → l.length = xs.length → (∀ j : Nat, j < l.length → same m1 (l.getD j 0) (xs.getD j 0)) →
    keys (incs m1 l) = keys m1 ∧ (incs m1 l).length = m1.length ∧
    ∀ i : Nat, i < m1.length → ((incs m1 l).getD i (0, 0, 0, 0, 0)).2 = ((m1.getD i (0, 0, 0, 0, 0)).2.1, (m1.getD i (0, 0, 0, 0, 0)).2.2.1, (m1.getD i (0, 0, 0, 0, 0)).2.2.2.1, (m1.getD i (0, 0, 0, 0, 0)).2.2.2.2 + cnt ((i : Int) + 1) xs)
  | [], xs, m1, _, _, hl, _ => by
    have : xs = [] := List.length_eq_zero_iff.1 hl.symm
    subst this
    refine ⟨rfl, rfl, fun i hi => ?_⟩
    simp [incs, cnt_nil]
  | c :: l, [], m1, _, _, hl, _ => by simp at hl
  | c :: l, x :: xs, m1, hn, hk, hl, hs => by
    have h0 := hs 0 (by simp)
    simp only [List.getD_cons_zero] at h0
    obtain ⟨a1, a2, a3⟩ := inc_at hn hk h0
    obtain ⟨b1, b2, b3⟩ := incs_at (l := l) (xs := xs) (m1 := inc m1 c) (by rw [a1]; exact hn) (keys_mem a1 hk) (by simpa using hl) (fun j hj => by
      have := hs (j + 1) (by simpa using hj)
      simp only [List.getD_cons_succ] at this
      exact (same_keys a1).2 this)
    have e : incs m1 (c :: l) = incs (inc m1 c) l := rfl
    rw [e]
    refine ⟨b1.trans a1, b2.trans a2, fun i hi => ?_⟩
    rw [b3 i (by rw [a2]; exact hi), a3 i hi, cnt_cons]
    simp only [Prod.mk.injEq, true_and]
    omega
theorem incs_snoc (m1 : OM) (l : List Int) (c : Int) : incs m1 (l ++ [c]) = inc (incs m1 l) c := by
  unfold incs
  rw [List.foldl_append]
  rfl
theorem mput_put {t : Ty} {a : Int} {v w : t.D} : ∀ {m : List (Int × t.D)}, mput t (mput t m a v) a w = mput t m a w
  | [] => by simp [mput]
  | e :: r => by
    by_cases h1 : e.1 = a
    · simp [mput, h1]
    · simp only [mput, h1, decide_false, cond_false, mput_put]
theorem FR_fork {s s' : FS} {tabs : List Int} {m0 : TM} {m1 : OM} {p t : Nat} {a : Int} (h : FR s tabs m0 m1) (hn : (keys m1).Nodup) (hk : ∀ e ∈ m1, 0 ≤ e.1) (hp : p < 4) (ht : t < 4)
    (hal : s.2.1.getD p false = true) (hat : s.2.1.getD t false = false) (ha0 : 0 ≤ a) (hna : mhas TB m0 a = false) (hs' : s' = (s.1.set t (s.1.getD p []), s.2.1.set t true, s.2.2)) :
    FR s' (tabs.set t a) (mput TB m0 a (tbOf m0 (tabs.getD p 0))) (incs m1 (tbOf m0 (tabs.getD p 0))) := by
  subst hs'
  obtain ⟨⟨h1, h2, h3⟩, ⟨o1, o2, o3, o4⟩, hC, hD⟩ := h
  obtain ⟨p1, p2, p3, p4, p5⟩ := hC p hp
  obtain ⟨q1, q2, q3⟩ := p4 hal
  have hne : ∀ q : Nat, q < 4 → s.2.1.getD q false = true → ¬ a = tabs.getD q 0 := fun q hq hal2 e => by
    have := ((hC q hq).2.2.2.1 hal2).1
    rw [← e, hna] at this
    cases this
  obtain ⟨i1, i2, i3⟩ := incs_at (l := tbOf m0 (tabs.getD p 0)) (xs := s.1.getD p []) hn hk (by rw [q2, p1]) (fun j hj => q3 j (by omega))
  have hz := (hC t ht).2.2.1 hat
  refine ⟨⟨by simpa using h1, by simpa using h2, by simpa using h3⟩, ⟨by rw [i2]; exact o1, o2, o3, fun i hi => ?_⟩, fun q hq => ?_, hD⟩
  · rw [i2] at hi
    rw [i3 i hi, o4 i hi]
    have hc := cntM_set (y := (i : Int) + 1) (r := s.1.getD p []) (m := s.1) (p := t) (by omega)
    rw [hz.2, cnt_rep (by omega)] at hc
    simp only [Prod.mk.injEq, true_and]
    omega
  · show ((s.1.set t (s.1.getD p [])).getD q []).length = 16 ∧ ((s.2.1.set t true).getD q false = true ↔ 0 ≤ (tabs.set t a).getD q 0) ∧ _
    rw [getD_set' (by omega), getD_set' (by omega), getD_set' (by omega)]
    obtain ⟨g1, g2, g3, g4, g5⟩ := hC q hq
    have hdis : ∀ r : Nat, r < 4 → (if t = q then a else tabs.getD q 0) = (tabs.set t a).getD r 0 → 0 ≤ (if t = q then a else tabs.getD q 0) → q = r := fun r hr e1 e2 => by
      rw [getD_set' (by omega)] at e1
      by_cases c1 : t = q
      · by_cases c2 : t = r
        · omega
        · rw [if_pos c1, if_neg c2] at e1
          have := (hC r hr).2.1
          rcases Bool.eq_false_or_eq_true (s.2.1.getD r false) with c3 | c3
          · exact absurd e1 (hne r hr c3)
          · have := ((hC r hr).2.2.1 c3).1
            omega
      · rw [if_neg c1] at e1 e2
        by_cases c2 : t = r
        · rw [if_pos c2] at e1
          exact absurd e1.symm (hne q hq (g2.2 e2))
        · rw [if_neg c2] at e1
          exact g5 r hr e1 e2
    by_cases e : t = q
    · subst e
      simp only [if_true] at hdis ⊢
      refine ⟨p1, ⟨fun _ => ha0, fun _ => trivial⟩, fun hf => (by cases hf), fun _ => ⟨by rw [mhas_put]; simp, ?_, fun j hj => ?_⟩, hdis⟩
      · show (mval TB (mput TB m0 _ _) _).length = 16
        rw [mval_put, if_pos rfl]; exact q2
      · show same _ ((mval TB (mput TB m0 _ _) _).getD j 0) _
        rw [mval_put, if_pos rfl]
        exact (same_keys i1).2 (q3 j hj)
    · simp only [if_neg e] at hdis ⊢
      refine ⟨g1, g2, g3, fun hal2 => ?_, hdis⟩
      obtain ⟨k1, k2, k3⟩ := g4 hal2
      refine ⟨by rw [mhas_put, k1]; simp, ?_, fun j hj => ?_⟩
      · show (mval TB (mput TB m0 _ _) _).length = 16
        rw [mval_put, if_neg (hne q hq hal2)]; exact k2
      · show same _ ((mval TB (mput TB m0 _ _) _).getD j 0) _
        rw [mval_put, if_neg (hne q hq hal2)]
        exact (same_keys i1).2 (k3 j hj)
def putS (s : FS) (p j : Nat) (x : Int) : FS := (s.1.set p ((s.1.getD p []).set j x), s.2)
theorem FR_row {s : FS} {tabs : List Int} {m0 : TM} {m1 : OM} {p : Nat} (h : FR s tabs m0 m1) (hp : p < 4) : p < s.1.length ∧ (s.1.getD p []).length = 16 := by
  obtain ⟨⟨h1, h2, h3⟩, _, hC, _⟩ := h
  exact ⟨by omega, (hC p hp).1⟩
theorem cnt_put {s : FS} {tabs : List Int} {m0 : TM} {m1 : OM} {p j : Nat} {x y : Int} (h : FR s tabs m0 m1) (hp : p < 4) (hj : j < 16) :
    cntM y (putS s p j x).1 = cntM y s.1 - (if (s.1.getD p []).getD j 0 = y then 1 else 0) + (if x = y then 1 else 0) := by
  obtain ⟨a1, a2⟩ := FR_row h hp
  exact cntM_put a1 (by omega)
theorem FR_set {s : FS} {tabs : List Int} {m0 : TM} {m1 : OM} {p fd : Nat} {c x : Int} (h : FR s tabs m0 m1) (hn : (keys m1).Nodup) (hk : ∀ e ∈ m1, 0 ≤ e.1) (hp : p < 4) (hfd : fd < 16)
    (hal : s.2.1.getD p false = true) (h0 : (s.1.getD p []).getD fd 0 = 0) (hs : same m1 c x) (hc : 0 ≤ c) :
    FR (putS s p fd x) tabs (mput TB m0 (tabs.getD p 0) ((tbOf m0 (tabs.getD p 0)).set fd c)) (mput tyopen m1 c ((opOf m1 c).1, (opOf m1 c).2.1, (opOf m1 c).2.2.1, (opOf m1 c).2.2.2 + 1)) := by
  have hB := h.2.1
  have hD := h.2.2.2
  rcases hs with ⟨_, h2⟩ | ⟨h1, h2, h3⟩
  · omega
  have hi : (x - 1).toNat < m1.length := by omega
  have hop := (op_get hn hi).1
  rw [← h3] at hop
  have hx : ((x - 1).toNat : Int) + 1 = x := by omega
  have hks : keys (mput tyopen m1 c ((opOf m1 c).1, (opOf m1 c).2.1, (opOf m1 c).2.2.1, (opOf m1 c).2.2.2 + 1)) = keys m1 := by
    rw [h3, op_put hn hi]; exact keys_set hi
  refine FR_upd h hp hfd hal (fun c' x' q => (same_keys hks).2 q) ?_ hD rfl rfl ((same_keys hks).2 (.inr ⟨h1, h2, h3⟩))
  rw [h3]
  rw [h3] at hop
  refine ops_set hn hB hi ⟨rfl, rfl, rfl⟩ (fun j hj => ⟨rfl, rfl, rfl, ?_⟩) ?_
  · rw [cnt_put h hp hfd, h0, if_neg (by omega), if_neg (by omega)]
    omega
  · rw [hop, hB.2.2.2 _ hi, cnt_put h hp hfd, h0, if_neg (by omega), if_pos (by omega)]
    simp only [putS, Int.sub_zero]
theorem FR_drop {s : FS} {tabs : List Int} {m0 : TM} {m1 : OM} {p fd : Nat} {c x : Int} (h : FR s tabs m0 m1) (hn : (keys m1).Nodup) (hk : ∀ e ∈ m1, 0 ≤ e.1) (hp : p < 4) (hfd : fd < 16)
    (hal : s.2.1.getD p false = true) (h0 : (s.1.getD p []).getD fd 0 = x) (hs : same m1 c x) (hc : 0 ≤ c) :
    FR (putS s p fd 0) tabs (mput TB m0 (tabs.getD p 0) ((tbOf m0 (tabs.getD p 0)).set fd (-1))) (mput tyopen m1 c ((opOf m1 c).1, (opOf m1 c).2.1, (opOf m1 c).2.2.1, (opOf m1 c).2.2.2 - 1)) ∧
      (opOf m1 c).2.2.2 - 1 = cntM x (putS s p fd 0).1 := by
  have hB := h.2.1
  have hD := h.2.2.2
  rcases hs with ⟨_, h2⟩ | ⟨h1, h2, h3⟩
  · omega
  have hi : (x - 1).toNat < m1.length := by omega
  have hop := (op_get hn hi).1
  rw [← h3] at hop
  have hks : keys (mput tyopen m1 c ((opOf m1 c).1, (opOf m1 c).2.1, (opOf m1 c).2.2.1, (opOf m1 c).2.2.2 - 1)) = keys m1 := by
    rw [h3, op_put hn hi]; exact keys_set hi
  have hx : ((x - 1).toNat : Int) + 1 = x := by omega
  have hcc : (opOf m1 c).2.2.2 - 1 = cntM x (putS s p fd 0).1 := by
    rw [hop, hB.2.2.2 _ hi, cnt_put h hp hfd, h0, hx, if_pos rfl, if_neg (by omega)]
    show cntM x s.1 - 1 = _
    omega
  refine ⟨FR_upd h hp hfd hal (fun c' x' q => (same_keys hks).2 q) ?_ hD rfl rfl (.inl ⟨rfl, rfl⟩), hcc⟩
  rw [hcc]
  rw [h3]
  rw [h3] at hop
  refine ops_set hn hB hi ⟨rfl, rfl, rfl⟩ (fun j hj => ⟨rfl, rfl, rfl, ?_⟩) ?_
  · rw [cnt_put h hp hfd, h0, if_neg (by omega), if_neg (by omega)]
    omega
  · rw [hop, hB.2.2.2 _ hi, hx]
    rfl
theorem rep_get (n j : Nat) : (List.replicate n (0 : Int)).getD j 0 = 0 := by
  unfold List.getD
  rw [List.getElem?_replicate]
  split <;> rfl
theorem cnt_none {y : Int} {l : List Int} (h : ∀ j : Nat, j < l.length → l.getD j 0 ≠ y) : cnt y l = 0 := by
  unfold cnt
  rw [List.countP_eq_zero.2]
  · rfl
  · intro a ha
    obtain ⟨j, hj, rfl⟩ := List.getElem_of_mem ha
    have := h j hj
    simp only [List.getD, List.getElem?_eq_getElem hj, Option.getD_some] at this
    simpa using this
theorem cntM_none {y : Int} {m : List (List Int)} (h : ∀ p : Nat, p < m.length → cnt y (m.getD p []) = 0) : cntM y m = 0 := by
  induction m with
  | nil => rfl
  | cons r m ih =>
    rw [cntM_cons, ih (fun p hp => by simpa using h (p + 1) (by simpa using hp))]
    have := h 0 (by simp)
    simp only [List.getD_cons_zero] at this
    omega
theorem FR_big {s : FS} {tabs : List Int} {m0 : TM} {m1 : OM} (h : FR s tabs m0 m1) {y : Int} (hy : (m1.length : Int) < y) : cntM y s.1 = 0 := by
  obtain ⟨⟨h1, h2, h3⟩, _, hC, _⟩ := h
  refine cntM_none fun p hp => cnt_none fun j hj e => ?_
  obtain ⟨g1, g2, g3, g4, g5⟩ := hC p (by omega)
  rcases Bool.eq_false_or_eq_true (s.2.1.getD p false) with c3 | c3
  · have := (g4 c3).2.2 j (by omega)
    rw [e] at this
    rcases this with ⟨h5, _⟩ | ⟨_, h5, _⟩ <;> omega
  · rw [(g3 c3).2] at e
    rw [rep_get] at e
    omega
theorem getD_app {l : List Int} {v : Int} {i : Nat} (h : i ≤ l.length) : (l ++ [v]).getD i 0 = if i = l.length then v else l.getD i 0 := by
  by_cases e : i = l.length
  · subst e; simp [List.getD]
  · rw [if_neg e]
    simp only [List.getD, List.getElem?_append_left (show i < l.length by omega)]
theorem FR_open {s : FS} {tabs : List Int} {m0 : TM} {m1 : OM} {p fd : Nat} {a name size : Int} (h : FR s tabs m0 m1) (hp : p < 4) (hfd : fd < 16)
    (hal : s.2.1.getD p false = true) (h0 : (s.1.getD p []).getD fd 0 = 0) (ha : 0 ≤ a) (hna : mhas tyopen m1 a = false) (hz : 0 ≤ size ∧ size ≤ 1099511627776) :
    FR ((putS s p fd (s.2.2.1.length + 1)).1, s.2.1, s.2.2.1 ++ [name], s.2.2.2.1 ++ [size], s.2.2.2.2 ++ [0]) tabs (mput TB m0 (tabs.getD p 0) ((tbOf m0 (tabs.getD p 0)).set fd a)) (mput tyopen m1 a (name, size, 0, 1)) := by
  have hB := h.2.1
  have hD := h.2.2.2
  have hm : mput tyopen m1 a (name, size, 0, 1) = m1 ++ [(a, name, size, 0, 1)] := mput_new (t := tyopen) hna
  rw [hm]
  obtain ⟨b1, b2, b3, b4⟩ := hB
  refine FR_upd h hp hfd hal (fun c x q => same_app q) ?_ ?_ rfl rfl ?_
  · refine ⟨by simp [b1], by simp [b2], by simp [b3], fun i hi => ?_⟩
    have hi' : i ≤ m1.length := by simpa [Nat.lt_succ_iff] using hi
    show ((m1 ++ [(a, name, size, 0, 1)]).getD i (0, 0, 0, 0, 0)).2 = ((s.2.2.1 ++ [name]).getD i 0, (s.2.2.2.1 ++ [size]).getD i 0, (s.2.2.2.2 ++ [(0 : Int)]).getD i 0, cntM ((i : Int) + 1) (putS s p fd (s.2.2.1.length + 1)).1)
    rw [getD_app (by omega), getD_app (by omega), getD_app (by omega), cnt_put h hp hfd, h0, if_neg (show ¬ (0 : Int) = (i : Int) + 1 by omega)]
    by_cases e : i = m1.length
    · subst e
      have hbig := FR_big h (y := (m1.length : Int) + 1) (by omega)
      rw [if_pos b1, if_pos (by omega), if_pos (by omega), if_pos (by omega), hbig]
      simp [List.getD]
    · rw [if_neg (by omega), if_neg (by omega), if_neg (by omega), if_neg (by omega)]
      have hlt : i < m1.length := by omega
      have e2 : (m1 ++ [(a, name, size, (0 : Int), (1 : Int))]).getD i (0, 0, 0, 0, 0) = m1.getD i (0, 0, 0, 0, 0) := by
        simp only [List.getD, List.getElem?_append_left hlt]
      rw [e2, b4 i hlt]
      simp
  · intro i hi
    have hi' : i ≤ s.2.2.2.1.length := by simpa [Nat.lt_succ_iff] using hi
    show 0 ≤ (s.2.2.2.1 ++ [size]).getD i 0 ∧ (s.2.2.2.1 ++ [size]).getD i 0 ≤ 1099511627776 ∧ 0 ≤ (s.2.2.2.2 ++ [(0 : Int)]).getD i 0 ∧ (s.2.2.2.2 ++ [(0 : Int)]).getD i 0 ≤ 1099511627776
    rw [getD_app (by omega), getD_app (by omega)]
    by_cases e : i = s.2.2.2.1.length
    · rw [if_pos e, if_pos (by omega)]; omega
    · rw [if_neg e, if_neg (by omega)]; exact hD i (by omega)
  · refine .inr ⟨by omega, by simp; omega, ?_⟩
    have e : ((s.2.2.1.length : Int) + 1 - 1).toNat = (keys m1).length := by simp [keys]; omega
    rw [e]
    simp [keys, List.getD]
theorem getD_ext {l m : List Int} (hl : l.length = m.length) (h : ∀ j : Nat, j < l.length → l.getD j 0 = m.getD j 0) : l = m := by
  refine List.ext_getElem hl fun j h1 h2 => ?_
  have := h j h1
  simpa [List.getD, h1, h2] using this
theorem FR_hold {s : FS} {tabs : List Int} {m0 : TM} {m1 : OM} (h : FR s tabs m0 m1) (hn : (keys m1).Nodup) (hk : ∀ e ∈ m1, 0 ≤ e.1) : holdI tabs m0 m1 = hold s := by
  obtain ⟨⟨h1, h2, h3⟩, ⟨b1, b2, b3, b4⟩, hC, _⟩ := h
  unfold holdI hold holdV
  refine List.ext_getElem (by simp; omega) fun p g1 g2 => ?_
  simp only [List.length_map] at g1 g2
  rw [List.getElem_map, List.getElem_map]
  obtain ⟨c1, c2, c3, c4, c5⟩ := hC p (by omega)
  have et : tabs.getD p 0 = tabs[p] := by simp [List.getD, g1]
  have er : s.1.getD p [] = s.1[p] := by simp [List.getD, g2]
  rw [et] at c2 c3 c4
  rw [er] at c1 c3 c4
  rcases Bool.eq_false_or_eq_true (s.2.1.getD p false) with c6 | c6
  · obtain ⟨d1, d2, d3⟩ := c4 c6
    have d4 := c2.1 c6
    rw [if_neg (by omega)]
    unfold holdT
    refine getD_ext (by simp; omega) fun j hj => ?_
    rw [List.length_map, d2] at hj
    have hs := d3 j hj
    have e1 : ∀ (f : Int → Int) (l : List Int), j < l.length → (l.map f).getD j 0 = f (l.getD j 0) := fun f l hl => by simp [List.getD, hl]
    rw [e1 _ _ (by omega), e1 _ _ (by omega)]
    rcases hs with ⟨h5, h6⟩ | ⟨h5, h6, h7⟩
    · rw [h5, h6]; rfl
    · have hi : ((s.1[p].getD j 0) - 1).toNat < m1.length := by omega
      have hop := (op_get hn hi).1
      rw [← h7] at hop
      have hc : ¬ (tbOf m0 tabs[p]).getD j 0 = -1 := by
        rw [h7, key_get hi]
        have := hk _ (List.getElem_mem hi)
        omega
      rw [if_neg hc, if_pos (by omega), hop, b4 _ hi]
  · obtain ⟨d1, d2⟩ := c3 c6
    rw [d1, d2]
    rfl
theorem frun_next {ops : List FO} {s s' : FS} {e : List FA} {a : FA} {k : Int} (h0 : 0 ≤ k) (h1 : k < ops.length) (hr : frun (ops.take k.toNat) = (s, e))
    (hs : fone s (opAt ops k) = (s', a)) : frun (ops.take (k + 1).toNat) = (s', e ++ [a]) := by
  rw [takeI_succ (0, 0, 0, 0, 0, 0, 0) h0 h1]
  unfold frun at hr ⊢
  rw [List.foldl_append, hr]
  have hs : fone s (ops.getD k.toNat (0, 0, 0, 0, 0, 0, 0)) = (s', a) := hs
  simp only [List.foldl_cons, List.foldl_nil, fst', hs]
theorem frun_len : ∀ (ops : List FO) (s : FS × List FA), (ops.foldl fst' s).2.length = s.2.length + ops.length
  | [], s => rfl
  | o :: r, s => by
    rw [List.foldl_cons, frun_len r]
    simp only [fst', List.length_append, List.length_cons, List.length_nil]
    omega
theorem frun_e {ops : List FO} {s : FS} {e : List FA} (h : frun ops = (s, e)) : e.length = ops.length := by
  have := frun_len ops (f0, [])
  unfold frun at h
  rw [h] at this
  simpa using this
theorem cntM_le {y : Int} {s : FS} {tabs : List Int} {m0 : TM} {m1 : OM} (h : FR s tabs m0 m1) : cntM y s.1 ≤ 64 := by
  obtain ⟨⟨h1, h2, h3⟩, _, hC, _⟩ := h
  have key : ∀ (m : List (List Int)), (∀ p : Nat, p < m.length → (m.getD p []).length = 16) → cntM y m ≤ 16 * m.length := fun m => by
    induction m with
    | nil => intro _; simp [cntM_nil]
    | cons r m ih =>
      intro hm
      have h0 := hm 0 (by simp)
      simp only [List.getD_cons_zero] at h0
      have := ih (fun p hp => by simpa using hm (p + 1) (by simpa using hp))
      have := cnt_pos y r
      rw [cntM_cons]
      simp only [List.length_cons]
      omega
  have := key s.1 (fun p hp => (hC p (by omega)).1)
  omega
theorem FR_start {a : Int} (ha : 0 ≤ a) : FR f0 [a, -1, -1, -1] [(a, List.replicate 16 (-1))] [] := by
  refine ⟨⟨rfl, rfl, rfl⟩, ⟨rfl, rfl, rfl, fun i hi => by simp at hi⟩, fun p hp => ?_, fun i hi => by simp [f0] at hi⟩
  have hp' : p = 0 ∨ p = 1 ∨ p = 2 ∨ p = 3 := by omega
  have hm : mget? TB [(a, List.replicate 16 (-1))] a = some (List.replicate 16 (-1)) := by simp [mget?]
  have ht : tbOf [(a, List.replicate 16 (-1))] a = List.replicate 16 (-1) := by unfold tbOf mval; rw [hm]
  have hj : ∀ j : Nat, j < 16 → (List.replicate 16 (-1 : Int)).getD j 0 = -1 := fun j hj => by
    unfold List.getD
    rw [List.getElem?_replicate, if_pos hj]; rfl
  have dis : ∀ q : Nat, q < 4 → [a, -1, -1, -1].getD p 0 = [a, -1, -1, -1].getD q 0 → 0 ≤ [a, -1, -1, -1].getD p 0 → p = q := fun q hq e1 e2 => by
    have hq' : q = 0 ∨ q = 1 ∨ q = 2 ∨ q = 3 := by omega
    rcases hp' with rfl | rfl | rfl | rfl <;> rcases hq' with rfl | rfl | rfl | rfl <;> simp at e1 e2 ⊢ <;> omega
  rcases hp' with rfl | rfl | rfl | rfl
  · refine ⟨rfl, ⟨fun _ => ha, fun _ => rfl⟩, fun hf => (by cases hf), fun _ => ⟨?_, ?_, fun j hj' => ?_⟩, dis⟩
    · show mhas TB _ a = true
      unfold mhas; rw [hm]; rfl
    · show (tbOf _ a).length = 16
      rw [ht]; rfl
    · show same [] ((tbOf _ a).getD j 0) ((List.replicate 16 (0 : Int)).getD j 0)
      rw [ht, hj j hj', rep_get]
      exact .inl ⟨rfl, rfl⟩
  all_goals exact ⟨rfl, ⟨fun hf => (by cases hf), fun hf => (by simp at hf)⟩, fun _ => ⟨rfl, rfl⟩, fun hf => (by cases hf), dis⟩

end Go.Proofs.Ytpmfgdedkmddlaa.Filesp
