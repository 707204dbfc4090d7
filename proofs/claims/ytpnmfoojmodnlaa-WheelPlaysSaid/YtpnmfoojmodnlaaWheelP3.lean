/-
  WheelPlays: the wheels, put, moved on, and fired.
-/
import Derived.Test.YtpnmfoojmodnlaaWheelP2
namespace Go.Proofs.Ytpnmfoojmodnlaa.Wheel
open Go.Sx
set_option maxRecDepth 100000
set_option maxHeartbeats 1000000
set_option linter.unusedSimpArgs false
set_option linter.unusedVariables false

theorem plc_lt {now t : Int} : plc now t < 24 := by
  unfold plc
  split
  · omega
  · split <;> omega
theorem tot_set : ∀ {on : List (List TI2)} {i : Nat} {ys : List TI2}, i < on.length → tot (on.set i ys) + (on.getD i []).length = tot on + ys.length
  | a :: r, 0, ys, _ => by
    show ((ys :: r).map List.length).sum + a.length = ((a :: r).map List.length).sum + ys.length
    simp only [List.map_cons, List.sum_cons]; omega
  | a :: r, i + 1, ys, h => by
    have ih := tot_set (on := r) (i := i) (ys := ys) (by simpa using h)
    unfold tot at ih ⊢
    show ((a :: r.set i ys).map List.length).sum + (r.getD i []).length = ((a :: r).map List.length).sum + ys.length
    simp only [List.map_cons, List.sum_cons]; omega
theorem tot_le {on : List (List TI2)} {i : Nat} (h : i < on.length) : (on.getD i []).length ≤ tot on := by
  have := tot_set (ys := []) h
  simp only [List.length_nil] at this
  omega
theorem put_lenW {now : Int} {on : List (List TI2)} {t : TI2} : (putW now on t).length = on.length := by unfold putW; rw [List.length_set]
theorem put_tot {now : Int} {on : List (List TI2)} {t : TI2} (h : on.length = 24) : tot (putW now on t) = tot on + 1 := by
  have h1 := tot_set (on := on) (i := plc now t.1) (ys := on.getD (plc now t.1) [] ++ [t]) (by rw [h]; exact plc_lt)
  rw [List.length_append, List.length_singleton] at h1
  unfold putW
  omega
theorem put_mem {now : Int} {on : List (List TI2)} {t u : TI2} {i : Nat} (h : on.length = 24) : u ∈ (putW now on t).getD i [] ↔ u ∈ on.getD i [] ∨ (u = t ∧ i = plc now t.1) := by
  unfold putW
  rw [getD_setN]
  by_cases e : plc now t.1 = i
  · subst e
    rw [if_pos rfl, if_pos (by rw [h]; exact plc_lt), List.mem_append, List.mem_singleton]
    simp
  · rw [if_neg e]
    constructor
    · exact fun g => .inl g
    · rintro (g | ⟨_, g⟩)
      · exact g
      · exact absurd g.symm e
theorem okE_put {now l0 l1 l2 : Int} {t : TI2} (h0 : now + l0 ≤ t.1) (h1 : t.1 ≤ now + 510 + l0) (g0 : 0 ≤ now) (g1 : 0 ≤ l0) (g2 : l1 ≤ 1) (g3 : l2 ≤ 1) : okE now l0 l1 l2 (plc now t.1) t := by
  unfold okE plc
  by_cases e1 : t.1 - now < 8
  · rw [if_pos e1]
    exact ⟨fun _ => ⟨by omega, by omega, rfl⟩, fun g => by omega, fun g => by omega⟩
  · rw [if_neg e1]
    by_cases e2 : t.1 / 8 - now / 8 < 8
    · rw [if_pos e2]
      exact ⟨fun g => by omega, fun _ _ => ⟨by omega, by omega, rfl⟩, fun g => by omega⟩
    · rw [if_neg e2]
      exact ⟨fun g => by omega, fun _ g => by omega, fun _ => ⟨by omega, by omega, rfl⟩⟩
theorem okW_put {now l0 l1 l2 : Int} {on : List (List TI2)} {t : TI2} (h : okW now l0 l1 l2 on) (h0 : now + l0 ≤ t.1) (h1 : t.1 ≤ now + 510 + l0) (g0 : 0 ≤ now) (g1 : 0 ≤ l0) (g2 : l1 ≤ 1) (g3 : l2 ≤ 1) : okW now l0 l1 l2 (putW now on t) := by
  refine ⟨put_lenW.trans h.1, fun i hi u hu => ?_⟩
  rcases (put_mem h.1).1 hu with g | ⟨rfl, rfl⟩
  · exact h.2 i hi u g
  · exact okE_put h0 h1 g0 g1 g2 g3
theorem isIn_put {now : Int} {on : List (List TI2)} {t u : TI2} (h : on.length = 24) : isIn (putW now on t) u ↔ isIn on u ∨ u = t := by
  constructor
  · rintro ⟨i, hi, hu⟩
    rcases (put_mem h).1 hu with g | ⟨g, _⟩
    · exact .inl ⟨i, hi, g⟩
    · exact .inr g
  · rintro (⟨i, hi, hu⟩ | rfl)
    · exact ⟨i, hi, (put_mem h).2 (.inl hu)⟩
    · exact ⟨_, plc_lt, (put_mem h).2 (.inr ⟨rfl, rfl⟩)⟩
/- All of a spoke are put again. -/
theorem fold_put {now l0 l1 l2 : Int} (g0 : 0 ≤ now) (g1 : 0 ≤ l0) (g2 : l1 ≤ 1) (g3 : l2 ≤ 1) : ∀ {l : List TI2} {on : List (List TI2)}, okW now l0 l1 l2 on → (∀ t ∈ l, now + l0 ≤ t.1 ∧ t.1 ≤ now + 510 + l0) →
    okW now l0 l1 l2 (l.foldl (putW now) on) ∧ tot (l.foldl (putW now) on) = tot on + l.length ∧ ∀ u, isIn (l.foldl (putW now) on) u ↔ isIn on u ∨ u ∈ l
  | [], on, h, _ => ⟨h, rfl, fun u => by simp⟩
  | t :: l, on, h, ht => by
    obtain ⟨t0, t1⟩ := ht t (List.mem_cons_self ..)
    obtain ⟨a1, a2, a3⟩ := fold_put g0 g1 g2 g3 (okW_put h t0 t1 g0 g1 g2 g3) (fun u hu => ht u (List.mem_cons_of_mem _ hu)) (l := l)
    refine ⟨a1, ?_, fun u => ?_⟩
    · show tot (l.foldl (putW now) (putW now on t)) = _
      rw [a2, put_tot h.1, List.length_cons]; omega
    · show isIn (l.foldl (putW now) (putW now on t)) u ↔ _
      rw [a3 u, isIn_put h.1, List.mem_cons, or_assoc]
theorem set_mem {on : List (List TI2)} {i j : Nat} {u : TI2} (hi : i < on.length) : u ∈ (on.set i []).getD j [] ↔ j ≠ i ∧ u ∈ on.getD j [] := by
  rw [getD_setN]
  by_cases e : i = j
  · subst e
    rw [if_pos rfl, if_pos hi]
    simp
  · rw [if_neg e]
    exact ⟨fun g => ⟨fun q => e q.symm, g⟩, fun g => g.2⟩
theorem okW_on {n : Int} {on : List (List TI2)} (h : okW n 1 1 1 on) : okW (n + 1) 0 (if (n + 1) % 8 = 0 then 0 else 1) (if (n + 1) % 64 = 0 then 0 else 1) on := by
  refine ⟨h.1, fun i hi t ht => ?_⟩
  obtain ⟨a1, a2, a3⟩ := h.2 i hi t ht
  refine ⟨fun g => ?_, fun g g' => ?_, fun g => ?_⟩
  · obtain ⟨b1, b2, b3⟩ := a1 g
    exact ⟨by omega, by omega, b3⟩
  · obtain ⟨b1, b2, b3⟩ := a2 g g'
    refine ⟨?_, by omega, b3⟩
    split <;> omega
  · obtain ⟨b1, b2, b3⟩ := a3 g
    refine ⟨?_, by omega, b3⟩
    split <;> omega
/- A spoke that comes round is taken and put again. -/
theorem casc_ok {n size k l1 l2 m1 m2 : Int} {on : List (List TI2)} (h : okW n 0 l1 l2 on) (g0 : 0 ≤ n) (g2 : m1 ≤ 1) (g3 : m2 ≤ 1) (hk : spk n size k < 24)
    (hne : n % size ≠ 0 → okW n 0 m1 m2 on) (hset : n % size = 0 → okW n 0 m1 m2 (on.set (spk n size k) []))
    (hl : n % size = 0 → ∀ t ∈ on.getD (spk n size k) [], n + 0 ≤ t.1 ∧ t.1 ≤ n + 510 + 0) :
    okW n 0 m1 m2 (casc n size k on) ∧ tot (casc n size k on) = tot on ∧ ∀ u, isIn (casc n size k on) u ↔ isIn on u := by
  unfold casc
  by_cases e : n % size = 0
  · rw [if_pos e]
    obtain ⟨a1, a2, a3⟩ := fold_put g0 (Int.le_refl 0) g2 g3 (hset e) (hl e)
    have hs := tot_set (on := on) (i := spk n size k) (ys := []) (by rw [h.1]; exact hk)
    rw [List.length_nil] at hs
    refine ⟨a1, by omega, fun u => (a3 u).trans ?_⟩
    constructor
    · rintro (⟨i, hi, hu⟩ | hu)
      · exact ⟨i, hi, ((set_mem (by rw [h.1]; exact hk)).1 hu).2⟩
      · exact ⟨_, hk, hu⟩
    · rintro ⟨i, hi, hu⟩
      by_cases ei : i = spk n size k
      · exact .inr (ei ▸ hu)
      · exact .inl ⟨i, hi, (set_mem (by rw [h.1]; exact hk)).2 ⟨ei, hu⟩⟩
  · rw [if_neg e]
    exact ⟨hne e, rfl, fun u => Iff.rfl⟩
theorem spk_lt {n size k : Int} (h1 : k ≤ 2) : spk n size k < 24 := by unfold spk; omega
theorem spoke2 {n l1 l2 : Int} {on : List (List TI2)} (h : okW n 0 l1 l2 on) (g0 : 0 ≤ n) (h2 : 0 ≤ l2) (e : n % 64 = 0) : ∀ t ∈ on.getD (spk n 64 2) [], n + 0 ≤ t.1 ∧ t.1 ≤ n + 510 + 0 := fun t ht => by
  obtain ⟨b1, b2, b3⟩ := (h.2 _ (spk_lt (by omega)) t ht).2.2 (by unfold spk; omega)
  unfold spk at b3
  omega
theorem spoke1 {n l1 l2 : Int} {on : List (List TI2)} (h : okW n 0 l1 l2 on) (g0 : 0 ≤ n) (h2 : 0 ≤ l1) (e : n % 8 = 0) : ∀ t ∈ on.getD (spk n 8 1) [], n + 0 ≤ t.1 ∧ t.1 ≤ n + 510 + 0 := fun t ht => by
  obtain ⟨b1, b2, b3⟩ := (h.2 _ (spk_lt (by omega)) t ht).2.1 (by unfold spk; omega) (by unfold spk; omega)
  unfold spk at b3
  omega
theorem casc2 {n l1 : Int} {on : List (List TI2)} (h : okW n 0 l1 (if n % 64 = 0 then 0 else 1) on) (g0 : 0 ≤ n) (g1 : l1 ≤ 1) :
    okW n 0 l1 1 (casc n 64 2 on) ∧ tot (casc n 64 2 on) = tot on ∧ ∀ u, isIn (casc n 64 2 on) u ↔ isIn on u := by
  refine casc_ok h g0 g1 (Int.le_refl 1) (spk_lt (by omega)) (fun e => ?_) (fun e => ?_) (fun e => ?_)
  · rw [if_neg e] at h; exact h
  · rw [if_pos e] at h
    refine ⟨by rw [List.length_set]; exact h.1, fun i hi t ht => ?_⟩
    obtain ⟨c1, c2⟩ := (set_mem (by rw [h.1]; exact spk_lt (by omega))).1 ht
    obtain ⟨a1, a2, a3⟩ := h.2 i hi t c2
    refine ⟨a1, a2, fun g => ?_⟩
    obtain ⟨b1, b2, b3⟩ := a3 g
    refine ⟨?_, b2, b3⟩
    unfold spk at c1
    omega
  · rw [if_pos e] at h
    exact spoke2 h g0 (Int.le_refl 0) e
theorem casc1 {n : Int} {on : List (List TI2)} (h : okW n 0 (if n % 8 = 0 then 0 else 1) 1 on) (g0 : 0 ≤ n) :
    okW n 0 1 1 (casc n 8 1 on) ∧ tot (casc n 8 1 on) = tot on ∧ ∀ u, isIn (casc n 8 1 on) u ↔ isIn on u := by
  refine casc_ok h g0 (Int.le_refl 1) (Int.le_refl 1) (spk_lt (by omega)) (fun e => ?_) (fun e => ?_) (fun e => ?_)
  · rw [if_neg e] at h; exact h
  · rw [if_pos e] at h
    refine ⟨by rw [List.length_set]; exact h.1, fun i hi t ht => ?_⟩
    obtain ⟨c1, c2⟩ := (set_mem (by rw [h.1]; exact spk_lt (by omega))).1 ht
    obtain ⟨a1, a2, a3⟩ := h.2 i hi t c2
    refine ⟨a1, fun g g' => ?_, a3⟩
    obtain ⟨b1, b2, b3⟩ := a2 g g'
    refine ⟨?_, b2, b3⟩
    unfold spk at c1
    omega
  · rw [if_pos e] at h
    exact spoke1 h g0 (Int.le_refl 0) e
theorem tickOn_ok {n : Int} {on : List (List TI2)} (h : okW n 1 1 1 on) (g0 : 0 ≤ n) :
    okW (n + 1) 0 1 1 (tickOn (n + 1) on) ∧ tot (tickOn (n + 1) on) = tot on ∧ ∀ u, isIn (tickOn (n + 1) on) u ↔ isIn on u := by
  obtain ⟨a1, a2, a3⟩ := casc2 (okW_on h) (by omega) (by split <;> omega)
  obtain ⟨b1, b2, b3⟩ := casc1 a1 (by omega)
  exact ⟨b1, b2.trans a2, fun u => (b3 u).trans (a3 u)⟩
/- Those that are due are in the first wheel's spoke. -/
theorem due_spoke {n : Int} {on : List (List TI2)} (h : okW n 0 1 1 on) (g0 : 0 ≤ n) (u : TI2) : u ∈ on.getD (spk n 1 0) [] ↔ isIn on u ∧ u.1 = n := by
  constructor
  · intro hu
    obtain ⟨b1, b2, b3⟩ := (h.2 _ (spk_lt (by omega)) u hu).1 (by unfold spk; omega)
    refine ⟨⟨_, spk_lt (by omega), hu⟩, ?_⟩
    unfold spk at b3
    omega
  · rintro ⟨⟨i, hi, hu⟩, e⟩
    obtain ⟨a1, a2, a3⟩ := h.2 i hi u hu
    have hi8 : i < 8 := by
      rcases Nat.lt_or_ge i 8 with g | g
      · exact g
      · rcases Nat.lt_or_ge i 16 with g' | g'
        · have := (a2 g g').1
          rw [e] at this; omega
        · have := (a3 g').1
          rw [e] at this; omega
    have e2 : spk n 1 0 = i := by
      have := (a1 hi8).2.2
      unfold spk
      omega
    rw [e2]; exact hu
theorem fired_ok {n : Int} {on : List (List TI2)} (h : okW n 0 1 1 on) (g0 : 0 ≤ n) :
    okW n 1 1 1 (on.set (spk n 1 0) []) ∧ tot (on.set (spk n 1 0) []) ≤ tot on ∧ ∀ u, isIn on u → u.1 ≠ n → isIn (on.set (spk n 1 0) []) u := by
  have hk : spk n 1 0 < on.length := by rw [h.1]; exact spk_lt (by omega)
  refine ⟨⟨by rw [List.length_set]; exact h.1, fun i hi t ht => ?_⟩, ?_, fun u ⟨i, hi, hu⟩ hne => ⟨i, hi, (set_mem hk).2 ⟨fun e => ?_, hu⟩⟩⟩
  · obtain ⟨c1, c2⟩ := (set_mem hk).1 ht
    obtain ⟨a1, a2, a3⟩ := h.2 i hi t c2
    refine ⟨fun g => ?_, a2, fun g => ?_⟩
    · obtain ⟨b1, b2, b3⟩ := a1 g
      refine ⟨?_, b2, b3⟩
      unfold spk at c1
      omega
    · obtain ⟨b1, b2, b3⟩ := a3 g
      exact ⟨b1, by omega, b3⟩
  · have := tot_set (ys := []) hk
    rw [List.length_nil] at this
    omega
  · subst e
    exact hne ((due_spoke h g0 u).1 hu).2

end Go.Proofs.Ytpnmfoojmodnlaa.Wheel
