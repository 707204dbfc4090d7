/-
  RingPlays: the conditions hold.
-/
import Derived.Test.YtmcepjbbbkgfcaaRingpRingP
namespace Go.Proofs.Ytmcepjbbbkgfcaa.Ringp
open Go.Sx
set_option maxRecDepth 100000
set_option maxHeartbeats 1000000
set_option linter.unusedSimpArgs false
set_option linter.unusedVariables false

theorem cellsF_len {n t : Int} {F : Int → CE} (h : 0 ≤ n) : ((cellsF n t F).length : Int) = n := by
  unfold cellsF; rw [List.length_map, List.length_range]; omega
theorem cellsF_get {n t : Int} {F : Int → CE} {p : Nat} (h : (p : Int) < n) : (cellsF n t F)[p]? = some (F (ah n t p)) := by
  unfold cellsF
  have : p < n.toNat := by omega
  rw [List.getElem?_map, List.getElem?_range this]; rfl
theorem ce_cellsF {n t k : Int} {F : Int → CE} (h0 : 0 ≤ k) (h1 : k < n) : ce (cellsF n t F) k = F (ah n t k) := by
  unfold ce List.getD
  rw [cellsF_get (by omega), Option.getD_some]
  congr 2; omega
theorem ah_pos {n t j : Int} (ht : 0 ≤ t) (ht' : t < n) (h0 : 0 ≤ j) (h1 : j < n) : ah n t (pos n t j) = j := by
  unfold ah pos; split <;> split <;> omega
theorem pos_b {n t j : Int} (ht : 0 ≤ t) (ht' : t < n) (h0 : 0 ≤ j) (h1 : j < n) : 0 ≤ pos n t j ∧ pos n t j < n := by
  unfold pos; split <;> omega
theorem ah_eq {n t j k : Int} (ht : 0 ≤ t) (ht' : t < n) (h0 : 0 ≤ j) (h1 : j < n) (k0 : 0 ≤ k) (k1 : k < n) : ah n t k = j ↔ k = pos n t j := by
  unfold ah pos; split <;> split <;> omega
theorem ah_bd {n t k : Int} (ht : 0 ≤ t) (ht' : t < n) (k0 : 0 ≤ k) (k1 : k < n) : 0 ≤ ah n t k ∧ ah n t k < n := by
  unfold ah; split <;> omega
theorem cellsF_congr {n t : Int} {F G : Int → CE} (ht : 0 ≤ t) (ht' : t < n) (h : ∀ j, 0 ≤ j → j < n → F j = G j) : cellsF n t F = cellsF n t G := by
  unfold cellsF
  apply List.map_congr_left
  intro p hp
  have hp := List.mem_range.1 hp
  have := ah_bd ht ht' (k := (p : Int)) (by omega) (by omega)
  exact h _ this.1 this.2
theorem cellsF_set {n t j : Int} {F : Int → CE} {v : CE} (ht : 0 ≤ t) (ht' : t < n) (h0 : 0 ≤ j) (h1 : j < n) : (cellsF n t F).set (pos n t j).toNat v = cellsF n t (fun i => if i = j then v else F i) := by
  have hp := pos_b ht ht' h0 h1
  have hl : (cellsF n t F).length = n.toNat := by have := cellsF_len (n := n) (t := t) (F := F) (by omega); omega
  apply List.ext_getElem?
  intro p
  by_cases hpn : (p : Int) < n
  · rw [cellsF_get hpn, List.getElem?_set, hl, cellsF_get hpn]
    by_cases e : (pos n t j).toNat = p
    · rw [if_pos e, if_pos (by omega)]
      have : ah n t p = j := (ah_eq ht ht' h0 h1 (by omega) hpn).2 (by omega)
      rw [if_pos this]
    · rw [if_neg e]
      have : ¬ ah n t p = j := fun e2 => e (by have := (ah_eq ht ht' h0 h1 (by omega) hpn).1 e2; omega)
      rw [if_neg this]
  · have hl2 : (cellsF n t (fun i => if i = j then v else F i)).length = n.toNat := by have := cellsF_len (n := n) (t := t) (F := fun i => if i = j then v else F i) (by omega); omega
    rw [List.getElem?_eq_none (by rw [List.length_set]; omega), List.getElem?_eq_none (by omega)]
theorem cellsF_shift {n t : Int} {F : Int → CE} (ht : 0 ≤ t) (ht' : t < n) : cellsF n t F = cellsF n (if t + 1 = n then 0 else t + 1) (fun j => F (if j + 1 = n then 0 else j + 1)) := by
  unfold cellsF
  apply List.map_congr_left
  intro p hp
  have hp := List.mem_range.1 hp
  congr 1
  unfold ah
  split <;> split <;> split <;> split <;> omega
theorem succ_mod {T n : Int} (hn : 0 < n) : (T + 1) % n = if T % n + 1 = n then 0 else T % n + 1 := by
  have h1 := Int.emod_nonneg T (by omega : n ≠ 0)
  have h2 := Int.emod_lt_of_pos T hn
  rw [← Int.emod_add_emod]
  by_cases h : T % n + 1 = n
  · rw [if_pos h, h, Int.emod_self]
  · rw [if_neg h, Int.emod_eq_of_lt (by omega) (by omega)]
theorem add_mod {T j n : Int} (hn : 0 < n) (h0 : 0 ≤ j) (h1 : j < n) : (T + j) % n = pos n (T % n) j := by
  have g1 := Int.emod_nonneg T (by omega : n ≠ 0)
  have g2 := Int.emod_lt_of_pos T hn
  rw [← Int.emod_add_emod, emod_two (by omega) (by omega)]; rfl
theorem getD0_cons {w : List Int} (h : ¬ w = []) : ∃ y r, w = y :: r := by
  cases w with
  | nil => exact absurd rfl h
  | cons y r => exact ⟨y, r, rfl⟩
theorem Fq_give {w v : List Int} {d : Int} (j : Int) (h0 : 0 ≤ j) : (if j = w.length + v.length then (true, d) else Fq w v j) = Fq w (v ++ [d]) j := by
  unfold Fq
  simp only [List.length_append, List.length_cons, List.length_nil]
  by_cases h1 : j = w.length + v.length
  · rw [if_pos h1, if_neg (by omega), if_pos (by omega)]
    have : (j - w.length).toNat = v.length := by omega
    rw [this]; simp [List.getD]
  · rw [if_neg h1]
    by_cases h2 : j < w.length
    · rw [if_pos h2, if_pos h2]
    · rw [if_neg h2, if_neg h2]
      by_cases h3 : j < w.length + v.length
      · rw [if_pos h3, if_pos (by omega)]
        have : (j - w.length).toNat < v.length := by omega
        unfold List.getD
        rw [List.getElem?_append_left this]
      · rw [if_neg h3, if_neg (by omega)]
theorem Fq_work {w v : List Int} {y d : Int} (j : Int) (h0 : 0 ≤ j) : (if j = w.length then (false, d) else Fq w (y :: v) j) = Fq (w ++ [d]) v j := by
  unfold Fq
  simp only [List.length_append, List.length_cons, List.length_nil]
  by_cases h1 : j = w.length
  · rw [if_pos h1, if_pos (by omega)]
    have : j.toNat = w.length := by omega
    rw [this]; simp [List.getD]
  · rw [if_neg h1]
    by_cases h2 : j < w.length
    · rw [if_pos h2, if_pos (by omega)]
      have : j.toNat < w.length := by omega
      unfold List.getD
      rw [List.getElem?_append_left this]
    · rw [if_neg h2, if_neg (show ¬ j < ((w.length + (0 + 1) : Nat) : Int) by omega)]
      by_cases h3 : j < w.length + v.length + 1
      · rw [if_pos (by omega), if_pos (by omega)]
        have : (j - w.length).toNat = (j - ((w.length + (0 + 1) : Nat) : Int)).toNat + 1 := by omega
        rw [this]; rfl
      · rw [if_neg (by omega), if_neg (by omega)]
theorem Fq_take {n : Int} {w v : List Int} {y : Int} (hn : (w.length + 1 + v.length : Int) ≤ n - 1) (j : Int) (h0 : 0 ≤ j) (h1 : j < n) :
    (if (if j + 1 = n then (0 : Int) else j + 1) = 0 then (false, 0) else Fq (y :: w) v (if j + 1 = n then 0 else j + 1)) = Fq w v j := by
  by_cases h2 : j + 1 = n
  · rw [if_pos h2, if_pos rfl]
    unfold Fq
    rw [if_neg (by omega), if_neg (by omega)]
  · rw [if_neg h2, if_neg (by omega)]
    unfold Fq
    simp only [List.length_cons]
    by_cases h3 : j < w.length
    · rw [if_pos (by omega), if_pos h3]
      have : (j + 1).toNat = j.toNat + 1 := by omega
      rw [this]; rfl
    · rw [if_neg (by omega), if_neg h3]
      by_cases h4 : j < w.length + v.length
      · rw [if_pos (by omega), if_pos h4]
        have : (j + 1 - ((w.length + 1 : Nat) : Int)).toNat = (j - w.length).toNat := by omega
        rw [this]
      · rw [if_neg (by omega), if_neg h4]
theorem ringOf_right {n : Int} {e a w v : List Int} (h2 : 2 ≤ n) (h64 : n ≤ 64) (hb : (w.length + v.length : Int) ≤ n - 1) : right (ringOf n (e, a, w, v)) = true := by
  rw [right_iff]
  have ht := Int.emod_nonneg (a.length : Int) (by omega : n ≠ 0)
  have ht' := Int.emod_lt_of_pos (a.length : Int) (by omega : 0 < n)
  unfold ringOf
  simp only []
  generalize (a.length : Int) % n = t at ht ht'
  have hl : ((cellsF n t (Fq w v)).length : Int) = n := cellsF_len (by omega)
  have p1 := pos_b (n := n) (t := t) (j := w.length + v.length) ht ht' (by omega) (by omega)
  have p2 := pos_b (n := n) (t := t) (j := w.length) ht ht' (by omega) (by omega)
  refine ⟨⟨by simp only []; omega, by simp only []; omega, p1.1, by simp only []; omega, ht, by simp only []; omega, p2.1, by simp only []; omega⟩, ?_, ?_⟩
  · simp only [hl]
    rw [ah_pos ht ht' (by omega) (by omega), ah_pos ht ht' (by omega) (by omega)]; omega
  · intro k k0 k1
    simp only [hl] at k1
    unfold okC
    simp only [hl]
    rw [ah_pos ht ht' (by omega) (by omega), ah_pos ht ht' (by omega) (by omega), ce_cellsF k0 k1]
    have hk := ah_bd ht ht' k0 k1
    generalize ah n t k = j at hk
    unfold Fq
    by_cases g1 : j < w.length
    · rw [if_pos g1]; exact ⟨⟨fun h => (by cases h), fun h => (by omega)⟩, fun h => (by omega)⟩
    · rw [if_neg g1]
      by_cases g2 : j < w.length + v.length
      · rw [if_pos g2]; exact ⟨⟨fun _ => (by omega), fun _ => rfl⟩, fun h => (by omega)⟩
      · rw [if_neg g2]; exact ⟨⟨fun h => (by cases h), fun h => (by omega)⟩, fun _ => rfl⟩
theorem step_q {n k d : Int} {e a w v : List Int} (h2 : 2 ≤ n) (h64 : n ≤ 64) (hb : (w.length + v.length : Int) ≤ n - 1) :
    (step (ringOf n (e, a, w, v)) k d).2.2.1 = (qst n (e, a, w, v) (k, d)).2 ∧
    ((qst n (e, a, w, v) (k, d)).2 = 0 → (step (ringOf n (e, a, w, v)) k d).1 = ringOf n (qst n (e, a, w, v) (k, d)).1 ∧ (k = 3 → (step (ringOf n (e, a, w, v)) k d).2.1 = w.getD 0 0)) ∧
    (((qst n (e, a, w, v) (k, d)).1.2.2.1.length + (qst n (e, a, w, v) (k, d)).1.2.2.2.length : Int) ≤ n - 1) := by
  have hr := ringOf_right (n := n) (e := e) (a := a) (w := w) (v := v) h2 h64 hb
  unfold step
  rw [if_pos hr]
  clear hr
  have ht := Int.emod_nonneg (a.length : Int) (by omega : n ≠ 0)
  have ht' := Int.emod_lt_of_pos (a.length : Int) (by omega : 0 < n)
  have hs := succ_mod (T := (a.length : Int)) (n := n) (by omega)
  have hl : ((cellsF n ((a.length : Int) % n) (Fq w v)).length : Int) = n := cellsF_len (by omega)
  unfold qst ringOf
  simp only [hl]
  rw [ah_pos ht ht' (by omega) (by omega)]
  by_cases c1 : k = 1
  · rw [if_pos c1, if_pos c1]
    by_cases c2 : (v.length + w.length : Int) = n - 1
    · rw [if_pos (by omega), if_pos c2]
      exact ⟨rfl, fun h => (by cases h), by omega⟩
    · rw [if_neg (by omega), if_neg c2]
      refine ⟨rfl, fun _ => ⟨?_, fun h => by omega⟩, by simp only [List.length_append, List.length_cons, List.length_nil]; omega⟩
      simp only []
      rw [cellsF_set ht ht' (by omega) (by omega), cellsF_congr ht ht' (fun j h0 _ => Fq_give (w := w) (v := v) (d := d) j h0)]
      congr 2
      unfold pos
      simp only [List.length_append, List.length_cons, List.length_nil]
      split <;> split <;> split <;> omega
  · rw [if_neg c1, if_neg c1]
    by_cases c2 : k = 2
    · rw [if_pos c2, if_pos c2]
      by_cases c3 : v = []
      · subst c3
        rw [if_pos (show pos n ((a.length : Int) % n) w.length = pos n ((a.length : Int) % n) (w.length + (([] : List Int).length : Int)) by simp), if_pos (show ([] : List Int) = [] from rfl)]
        exact ⟨rfl, fun h => (by cases h), hb⟩
      · obtain ⟨y, r, rfl⟩ := getD0_cons c3
        simp only [List.length_cons] at hb ⊢
        have hne : ¬ pos n ((a.length : Int) % n) w.length = pos n ((a.length : Int) % n) (w.length + ((r.length + 1 : Nat) : Int)) := by
          unfold pos; split <;> split <;> omega
        rw [if_neg hne, if_neg (show ¬ (y :: r) = [] by simp)]
        refine ⟨rfl, fun _ => ⟨?_, fun h => by omega⟩, by simp only [List.length_append, List.length_cons, List.length_nil, List.drop_succ_cons, List.drop_zero]; omega⟩
        simp only [List.getD_cons_zero, List.drop_succ_cons, List.drop_zero]
        have hp := pos_b (n := n) (t := (a.length : Int) % n) (j := w.length) ht ht' (by omega) (by omega)
        have hce : (ce (cellsF n ((a.length : Int) % n) (Fq w (y :: r))) (pos n ((a.length : Int) % n) w.length)).2 = y := by
          rw [ce_cellsF hp.1 hp.2, ah_pos ht ht' (by omega) (by omega)]
          unfold Fq
          rw [if_neg (by omega), if_pos (by simp only [List.length_cons]; omega), show ((w.length : Int) - w.length).toNat = 0 by omega]; rfl
        rw [hce, cellsF_set ht ht' (by omega) (by omega), cellsF_congr ht ht' (fun j h0 _ => Fq_work (w := w) (v := r) (y := y) (d := -1 - y) j h0)]
        simp only [List.length_append, List.length_cons, List.length_nil]
        refine Prod.ext rfl (Prod.ext ?_ (Prod.ext rfl ?_))
        · show pos _ _ _ = pos _ _ _
          congr 1; omega
        · show (if pos _ _ _ + 1 = n then 0 else pos _ _ _ + 1) = pos _ _ _
          unfold pos; split <;> split <;> split <;> omega
    · rw [if_neg c2, if_neg c2]
      by_cases c3 : k = 3
      · rw [if_pos c3, if_pos c3]
        by_cases c4 : w = []
        · subst c4
          have : pos n ((a.length : Int) % n) (([] : List Int).length : Int) = (a.length : Int) % n := by unfold pos; simp only [List.length_nil]; split <;> omega
          rw [if_pos this.symm, if_pos rfl]
          exact ⟨rfl, fun h => (by cases h), hb⟩
        · obtain ⟨y, r, rfl⟩ := getD0_cons c4
          simp only [List.length_cons] at hb ⊢
          have hne : ¬ (a.length : Int) % n = pos n ((a.length : Int) % n) ((r.length + 1 : Nat) : Int) := by
            unfold pos; split <;> omega
          rw [if_neg hne, if_neg (show ¬ (y :: r) = [] by simp)]
          have h0 : (a.length : Int) % n = pos n ((a.length : Int) % n) 0 := by unfold pos; split <;> omega
          refine ⟨rfl, fun _ => ⟨?_, fun _ => ?_⟩, by simp only [List.drop_succ_cons, List.drop_zero]; omega⟩
          · simp only [List.getD_cons_zero, List.drop_succ_cons, List.drop_zero, List.length_append, List.length_cons, List.length_nil]
            have hcell : (cellsF n ((a.length : Int) % n) (Fq (y :: r) v)).set ((a.length : Int) % n).toNat (false, 0) = cellsF n (((a.length + (0 + 1) : Nat) : Int) % n) (Fq r v) := by
              conv => lhs; rw [show ((a.length : Int) % n).toNat = (pos n ((a.length : Int) % n) 0).toNat by rw [← h0]]
              rw [cellsF_set ht ht' (by omega) (by omega), cellsF_shift ht ht', show ((a.length + (0 + 1) : Nat) : Int) = (a.length : Int) + 1 by omega, hs]
              have ht1 : 0 ≤ (if (a.length : Int) % n + 1 = n then 0 else (a.length : Int) % n + 1) := by split <;> omega
              have ht2 : (if (a.length : Int) % n + 1 = n then 0 else (a.length : Int) % n + 1) < n := by split <;> omega
              exact cellsF_congr ht1 ht2 (fun j h0 h1 => Fq_take (w := r) (v := v) (y := y) (by omega) j h0 h1)
            rw [hcell]
            rw [show ((a.length + (0 + 1) : Nat) : Int) = (a.length : Int) + 1 by omega, hs]
            refine Prod.ext rfl (Prod.ext ?_ (Prod.ext rfl ?_))
            · show pos _ _ _ = pos _ _ _
              unfold pos; split <;> split <;> split <;> omega
            · show pos _ _ _ = pos _ _ _
              unfold pos; split <;> split <;> split <;> omega
          · simp only [List.getD_cons_zero]
            rw [ce_cellsF ht ht', show ah n ((a.length : Int) % n) ((a.length : Int) % n) = 0 by unfold ah; split <;> omega]
            unfold Fq
            rw [if_pos (by simp only [List.length_cons]; omega)]; rfl
      · rw [if_neg c3, if_neg c3]
        exact ⟨rfl, fun h => (by cases h), hb⟩
theorem take_all {l : List Int} : l.take (l.length : Int).toNat = l := by simp
theorem toNat1 : Int.toNat 1 = 1 := rfl
theorem qpl_next {n : Int} {l : List (Int × Int)} {k : Int} (h0 : 0 ≤ k) (hk : k < l.length) : qpl n (l.take (k + 1).toNat) = qone n (qpl n (l.take k.toNat)) (l.getD k.toNat (0, 0)) := by
  unfold qpl
  exact foldl_takeI (f := qone n) (b := ([], [], [], [])) (0, 0) h0 hk
theorem cells_zero {n t : Int} : List.replicate n.toNat (false, (0 : Int)) = cellsF n t (Fq [] []) := by
  unfold cellsF
  apply List.ext_getElem?
  intro p
  by_cases h : p < n.toNat
  · rw [List.getElem?_map, List.getElem?_range h, List.getElem?_replicate, if_pos h]
    unfold Fq; simp only [List.length_nil, Option.map_some]
    by_cases h2 : ah n t (p : Int) < ((0 : Nat) : Int)
    · rw [if_pos h2]; simp
    · rw [if_neg h2, if_neg (by omega)]
  · rw [List.getElem?_eq_none (by simp; omega), List.getElem?_eq_none (by simp; omega)]
theorem Fq_w {w : List Int} {k : Int} (k0 : 0 ≤ k) (hk : k < w.length) (j : Int) (h0 : 0 ≤ j) : (if j = k then (false, w.getD k.toNat 0) else Fq (w.take k.toNat) [] j) = Fq (w.take (k + 1).toNat) [] j := by
  have hl : (w.take k.toNat).length = k.toNat := by rw [List.length_take]; omega
  have := Fq_work (w := w.take k.toNat) (v := []) (y := 0) (d := w.getD k.toNat 0) j h0
  rw [takeI_succ 0 k0 hk, ← this, hl]
  have hkk : ((k.toNat : Nat) : Int) = k := by omega
  rw [hkk]
  by_cases h : j = k
  · rw [if_pos h, if_pos h]
  · rw [if_neg h, if_neg h]
    unfold Fq
    rw [hl]
    by_cases h1 : j < (k.toNat : Int)
    · rw [if_pos h1, if_pos h1]
    · rw [if_neg h1, if_neg h1]
      simp only [List.length_nil, List.length_cons]
      rw [if_neg (by omega), if_neg (by omega)]
theorem Fq_v {w v : List Int} {k : Int} (k0 : 0 ≤ k) (hk : k < v.length) (j : Int) (h0 : 0 ≤ j) : (if j = w.length + k then (true, v.getD k.toNat 0) else Fq w (v.take k.toNat) j) = Fq w (v.take (k + 1).toNat) j := by
  have hl : (v.take k.toNat).length = k.toNat := by rw [List.length_take]; omega
  have := Fq_give (w := w) (v := v.take k.toNat) (d := v.getD k.toNat 0) j h0
  rw [takeI_succ 0 k0 hk, ← this, hl]
  have hkk : ((k.toNat : Nat) : Int) = k := by omega
  rw [hkk]
theorem rplay_in {n : Int} {l : List (Int × Int)} (h2 : 2 ≤ n) (h64 : n ≤ 64) : rplay n l = ((qpl n l).1, (qpl n l).2.1, ringOf n (qpl n l), 0, ()) := by
  unfold rplay; rw [if_neg (by omega)]
theorem rplay_out {n : Int} {l : List (Int × Int)} (h : n < 2 ∨ 64 < n) : rplay n l = ([], [], ([], 0, 0, 0), 2, ()) := by
  unfold rplay; rw [if_pos h]
theorem getD_rng {l : List Int} {lo hi : Int} (h : ∀ x ∈ l, lo ≤ x ∧ x ≤ hi) (hl : 0 < (l.length : Int)) : lo ≤ l.getD 0 0 ∧ l.getD 0 0 ≤ hi := by
  cases l with
  | nil => simp at hl
  | cons a r => exact h a (by simp)
theorem e_rplay (x : Int × List (Int × Int) × Unit) (hp : x.2.1.length * 16 ≤ 140737488355328) (_ : LensL cRPlay.as x) : E_rplay x := by
  obtain ⟨n, l, u⟩ := x
  have hp : l.length * 16 ≤ 140737488355328 := hp
  unfold E_rplay
  simp only [Bool.not_eq_true', Bool.not_eq_false', Bool.not_eq_true, Bool.not_eq_false, beq_self_eq_true, decide_eq_true_eq, decide_eq_false_iff_not, Bool.not_false, Bool.not_true, beq_iff_eq, beq_eq_false_iff_ne, bne_iff_ne, ne_eq, bne_eq_false_iff_eq, holds_iff, true_and, and_true, and_self, eq_self, List.length_cons, List.length_nil, List.length_append, List.length_set, List.length_replicate, List.set_cons_zero, cond_true, cond_false, Bool.false_eq_true, Bool.true_eq_false, forall_const, false_imp_iff, imp_self, implies_true, and_imp, Decidable.not_not, Bool.and_eq_true, Bool.or_eq_true, Bool.and_eq_false_iff, Bool.or_eq_false_iff, ← List.length_eq_zero_iff, or_self, or_false, false_or, Prod.forall, Int.reduceEq, Int.reduceLT, Int.reduceLE, List.nil_append, Nat.zero_add, Int.toNat_zero, List.drop_zero, List.length_drop, List.length_take, not_true_eq_false, not_false_eq_true,  pair_eta, take_all, toNat1]
  refine ⟨fun h => by rw [rplay_out h]; exact ⟨rfl, rfl, rfl, rfl⟩, fun h2 h64 => ⟨⟨by omega, by omega, rfl, by omega, by omega, by omega⟩, ?_⟩⟩
  intro e v w a g k k0 k1 _ _ hpl he hg1 hg2 hb _ _ _ hv _ hw _ ha _ _ _ _
  refine ⟨?_, ?_⟩
  · intro k2
    have hn := qpl_next (n := n) k0 k2
    rw [hpl] at hn
    rw [hn]
    generalize l.getD k.toNat (0, 0) = o
    obtain ⟨ok, od⟩ := o
    have gv : 0 < (v.length : Int) → -9223372036854775808 ≤ v.getD 0 0 ∧ v.getD 0 0 ≤ 9223372036854775807 := fun h => getD_rng hv h
    clear hpl hn hv hw ha
    unfold qone qst
    simp only [← List.length_eq_zero_iff]
    repeat' (first | with_reducible apply And.intro | with_reducible intro _)
    all_goals try omega
    all_goals (repeat' split)
    all_goals first | rfl | omega
  · intro k2
    rw [takeI_all (by omega)] at hpl
    have ht := Int.emod_nonneg (a.length : Int) (by omega : n ≠ 0)
    have ht' := Int.emod_lt_of_pos (a.length : Int) (by omega : 0 < n)
    rw [rplay_in (by omega) (by omega), hpl]
    have hring : ringOf n (e, a, w, v) = (cellsF n (a.length % n) (Fq w v), pos n (a.length % n) (w.length + v.length), a.length % n, pos n (a.length % n) w.length) := rfl
    have hpos1 := add_mod (T := a.length) (j := w.length + v.length) (n := n) (by omega) (by omega) (by omega)
    have hpos2 := add_mod (T := a.length) (j := w.length) (n := n) (by omega) (by omega) (by omega)
    refine ⟨⟨by omega, by omega, by omega⟩, by omega, by omega, by omega, by omega, ⟨by omega, ?_, ?_⟩, ?_⟩
    · rw [hring, ← hpos1, ← hpos2, hg1]
      refine Prod.ext ?_ (Prod.ext rfl ?_)
      · show _ % n = _ % n; congr 1; omega
      · show _ % n = _ % n; congr 1; omega
    · rw [List.take_zero]; exact cells_zero
    rw [hring]
    intro C G T W j j0 j1 hf hC _ _ _ _ _ _ _ _ _ _
    simp only [Prod.mk.injEq] at hf
    obtain ⟨rfl, rfl, rfl⟩ := hf
    generalize (a.length : Int) % n = t at *
    have hlC : (C.length : Int) = n := by rw [hC]; exact cellsF_len (by omega)
    refine ⟨fun j2 => ?_, fun j2 => ?_⟩
    · have hm : (t + j) % n = pos n t j := by rw [emod_two (by omega) (by omega)]; rfl
      have hpb := pos_b (n := n) (t := t) (j := j) ht ht' (by omega) (by omega)
      rw [hm]
      refine ⟨⟨j0, j2⟩, by omega, by omega, by omega, by omega, ⟨by omega, by omega, rfl, ?_⟩, by omega⟩
      have hc0 : C.getD (pos n t j).toNat (false, 0) = (false, 0) := by
        have := ce_cellsF (n := n) (t := t) (F := Fq (w.take j.toNat) []) hpb.1 hpb.2
        rw [← hC, ah_pos ht ht' (by omega) (by omega)] at this
        unfold ce at this
        rw [this]
        have hl : (w.take j.toNat).length = j.toNat := by rw [List.length_take]; omega
        unfold Fq
        rw [hl, if_neg (by omega), if_neg (by simp only [List.length_nil]; omega)]
      rw [hc0, hC]
      simp only []
      rw [cellsF_set ht ht' (by omega) (by omega)]
      exact cellsF_congr ht ht' (fun i i0 _ => Fq_w j0 j2 i i0)
    · rw [takeI_all (by omega)] at hC
      refine ⟨⟨by omega, rfl, by rw [List.take_zero]; exact hC⟩, ?_⟩
      intro D G2 T2 W2 i i0 i1 hf2 hD _ _ _ _ _ _ _ _ _ _
      simp only [Prod.mk.injEq] at hf2
      obtain ⟨rfl, rfl, rfl⟩ := hf2
      have hlD : (D.length : Int) = n := by rw [hD]; exact cellsF_len (by omega)
      refine ⟨fun i2 => ?_, fun i2 => ?_⟩
      · have hm : (pos n T2 w.length + i) % n = pos n T2 (w.length + i) := by
          have : (pos n T2 w.length + i) % n = (T2 + (w.length + i)) % n := by
            unfold pos
            split
            · congr 1; omega
            · rw [show T2 + (w.length : Int) - n + i = (T2 + (w.length + i)) - n by omega, Int.sub_emod_right]
          rw [this, emod_two (by omega) (by omega)]; rfl
        have hpb := pos_b (n := n) (t := T2) (j := w.length) ht ht' (by omega) (by omega)
        have hpb2 := pos_b (n := n) (t := T2) (j := w.length + i) ht ht' (by omega) (by omega)
        rw [hm]
        refine ⟨⟨i0, i2⟩, by omega, by omega, by omega, by omega, ⟨by omega, by omega, rfl, ?_⟩, by omega⟩
        rw [hD, cellsF_set ht ht' (by omega) (by omega)]
        exact cellsF_congr ht ht' (fun c c0 _ => Fq_v i0 i2 c c0)
      · rw [takeI_all (by omega)] at hD
        exact ⟨rfl, rfl, by rw [hD], rfl⟩
theorem new_in {n : Int} (h : (new n).2.1 = 0) : (2 ≤ n ∧ n ≤ 64) ∧ (new n).1 = (List.replicate n.toNat (false, 0), 0, 0, 0) := by
  unfold new at h ⊢
  by_cases c : n < 2 ∨ 64 < n
  · rw [if_pos c] at h; cases h
  · rw [if_neg c]; exact ⟨by omega, rfl⟩
theorem new_out {n : Int} (h : ¬ (new n).2.1 = 0) : (n < 2 ∨ 64 < n) ∧ (new n).2.1 = 2 := by
  unfold new at h ⊢
  by_cases c : n < 2 ∨ 64 < n
  · rw [if_pos c]; exact ⟨c, rfl⟩
  · rw [if_neg c] at h; exact absurd rfl h
theorem qpl_b {n : Int} (h2 : 2 ≤ n) (h64 : n ≤ 64) (l : List (Int × Int)) : ∀ (m : Nat), ((qpl n (l.take m)).2.2.1.length + (qpl n (l.take m)).2.2.2.length : Int) ≤ n - 1
  | 0 => by simp [qpl]; omega
  | m + 1 => by
    have ih := qpl_b h2 h64 l m
    by_cases hm : m < l.length
    · have hn := qpl_next (n := n) (l := l) (k := m) (by omega) (by omega)
      rw [show ((m : Int) + 1).toNat = m + 1 by omega, show ((m : Int)).toNat = m by omega] at hn
      rw [hn]
      generalize qpl n (l.take m) = s at ih
      obtain ⟨e, a, w, v⟩ := s
      generalize l.getD m (0, 0) = o
      exact (step_q (k := o.1) (d := o.2) (e := e) (a := a) h2 h64 ih).2.2
    · rw [List.take_of_length_le (by omega)]
      rw [List.take_of_length_le (by omega)] at ih
      exact ih
theorem e_play (x : Int × List (Int × Int) × Unit) (hp : x.2.1.length * 16 ≤ 140737488355328) (_ : LensL cRPlay.as x) : E_play x := by
  obtain ⟨n, l, u⟩ := x
  have hp : l.length * 16 ≤ 140737488355328 := hp
  unfold E_play
  simp only [Bool.not_eq_true', Bool.not_eq_false', Bool.not_eq_true, Bool.not_eq_false, beq_self_eq_true, decide_eq_true_eq, decide_eq_false_iff_not, Bool.not_false, Bool.not_true, beq_iff_eq, beq_eq_false_iff_ne, bne_iff_ne, ne_eq, bne_eq_false_iff_eq, holds_iff, true_and, and_true, and_self, eq_self, List.length_cons, List.length_nil, List.length_append, List.length_set, List.length_replicate, List.set_cons_zero, cond_true, cond_false, Bool.false_eq_true, Bool.true_eq_false, forall_const, false_imp_iff, imp_self, implies_true, and_imp, Decidable.not_not, Bool.and_eq_true, Bool.or_eq_true, Bool.and_eq_false_iff, Bool.or_eq_false_iff, ← List.length_eq_zero_iff, or_self, or_false, false_or, Prod.forall, Int.reduceEq, Int.reduceLT, Int.reduceLE, List.nil_append, Nat.zero_add, Int.toNat_zero, List.drop_zero, List.length_drop, List.length_take, not_true_eq_false, not_false_eq_true,  pair_eta]
  refine ⟨fun h => ?_, fun h => ?_⟩
  · obtain ⟨h1, h2⟩ := new_out h
    rw [rplay_out h1]; exact ⟨rfl, rfl, rfl, h2⟩
  · obtain ⟨⟨h2, h64⟩, hnew⟩ := new_in h
    rw [hnew]
    refine ⟨⟨by omega, by omega, rfl, rfl, ?_, by omega, by omega⟩, ?_⟩
    · show _ = ringOf n ([], [], [], [])
      unfold ringOf
      simp only [List.length_nil]
      refine Prod.ext cells_zero (Prod.ext ?_ (Prod.ext ?_ ?_))
      · show 0 = pos _ _ _; unfold pos; simp; omega
      · show 0 = ((0 : Nat) : Int) % n; simp
      · show 0 = pos _ _ _; unfold pos; simp; omega
    intro C G T W e a k k0 k1 _ _ he ha hr hl1 hl2 _ _ _ _ _ _ _ _ _ _ _ _ _ _
    rw [rplay_in h2 h64]
    refine ⟨fun k2 => ?_, fun k2 => ?_⟩
    · have hn := qpl_next (n := n) k0 k2
      have hb := qpl_b h2 h64 l k.toNat
      rw [hn]
      rw [hr]
      generalize qpl n (l.take k.toNat) = s at he ha hr hb hn
      obtain ⟨e', a', w, v⟩ := s
      have he : e' = e := he
      have ha : a' = a := ha
      subst he ha
      generalize l.getD k.toNat (0, 0) = o
      obtain ⟨ok, od⟩ := o
      obtain ⟨s1, s2, s3⟩ := step_q (k := ok) (d := od) (e := e') (a := a') h2 h64 hb
      simp only []
      rw [s1]
      unfold qone
      refine ⟨⟨k0, k2⟩, fun h0 => ?_, fun h0 => ?_⟩
      · obtain ⟨s4, s5⟩ := s2 h0
        rw [s4]
        refine ⟨fun h3 => ⟨by omega, by omega, by omega, ⟨by omega, by omega, by omega, rfl, ?_, ?_, by omega, by omega⟩, by omega⟩, fun h3 => ⟨by omega, by omega, ⟨by omega, by omega, by omega, rfl, ?_, ?_, by omega, by omega⟩, by omega⟩⟩
        · rw [s5 h3]
          revert h0
          unfold qst; simp only []
          rw [if_neg (by omega), if_neg (by omega), if_pos h3]
          split
          · intro h; cases h
          · intro _; rfl
        · unfold ringOf; rfl
        · revert h0
          unfold qst; simp only []
          repeat' split
          all_goals first | (intro h; cases h; done) | (intro _; rfl) | omega
        · unfold ringOf; rfl
      · refine ⟨by omega, by omega, ⟨by omega, by omega, by omega, rfl, ?_, ?_, by omega, by omega⟩, by omega⟩
        · revert h0
          unfold qst; simp only []
          repeat' split
          all_goals first | (intro h; exact absurd rfl h) | (intro _; rfl)
        · revert h0
          unfold qst; simp only []
          repeat' split
          all_goals first | (intro h; exact absurd rfl h) | (intro _; rfl)
    · rw [takeI_all (by omega)] at he ha hr
      exact ⟨he.symm, ha.symm, hr, rfl⟩
theorem e_equal (x : List Int × List Int × Unit) (_ : True) (hl : LensL cEqual.as x) : E_equal x := by
  obtain ⟨xs, ys, u⟩ := x
  have hlx : xs.length ≤ 9223372036854775807 := hl.1.1
  unfold E_equal
  simp only [Bool.not_eq_true', Bool.not_eq_false', Bool.not_eq_true, Bool.not_eq_false, beq_self_eq_true, decide_eq_true_eq, decide_eq_false_iff_not, Bool.not_false, Bool.not_true, beq_iff_eq, beq_eq_false_iff_ne, bne_iff_ne, ne_eq, bne_eq_false_iff_eq, holds_iff, true_and, and_true, and_self, eq_self, List.length_cons, List.length_nil, List.length_append, List.length_set, List.length_replicate, List.set_cons_zero, cond_true, cond_false, Bool.false_eq_true, Bool.true_eq_false, forall_const, false_imp_iff, imp_self, implies_true, and_imp, Decidable.not_not, Bool.and_eq_true, Bool.or_eq_true, Bool.and_eq_false_iff, Bool.or_eq_false_iff, ← List.length_eq_zero_iff, or_self, or_false, false_or, Prod.forall, Int.reduceEq, Int.reduceLT, Int.reduceLE, List.nil_append, Nat.zero_add, Int.toNat_zero, List.drop_zero, List.length_drop, List.length_take, not_true_eq_false, not_false_eq_true]
  try simp only [flip_f, flip_t, decide_eq_true_eq, decide_eq_false_iff_not]
  repeat' (first | with_reducible apply And.intro | with_reducible intro _)
  all_goals try omega
  all_goals grind [takeI_succ, takeI_all]
theorem e_equale (x : List Int × List Int × Unit) (_ : True) (hl : LensL cEqual.as x) : E_equale x := by
  obtain ⟨xs, ys, u⟩ := x
  have hlx : xs.length ≤ 9223372036854775807 := hl.1.1
  unfold E_equale
  simp only [Bool.not_eq_true', Bool.not_eq_false', Bool.not_eq_true, Bool.not_eq_false, beq_self_eq_true, decide_eq_true_eq, decide_eq_false_iff_not, Bool.not_false, Bool.not_true, beq_iff_eq, beq_eq_false_iff_ne, bne_iff_ne, ne_eq, bne_eq_false_iff_eq, holds_iff, true_and, and_true, and_self, eq_self, List.length_cons, List.length_nil, List.length_append, List.length_set, List.length_replicate, List.set_cons_zero, cond_true, cond_false, Bool.false_eq_true, Bool.true_eq_false, forall_const, false_imp_iff, imp_self, implies_true, and_imp, Decidable.not_not, Bool.and_eq_true, Bool.or_eq_true, Bool.and_eq_false_iff, Bool.or_eq_false_iff, ← List.length_eq_zero_iff, or_self, or_false, false_or, Prod.forall, Int.reduceEq, Int.reduceLT, Int.reduceLE, List.nil_append, Nat.zero_add, Int.toNat_zero, List.drop_zero, List.length_drop, List.length_take, not_true_eq_false, not_false_eq_true]
  try simp only [flip_f, flip_t, decide_eq_true_eq, decide_eq_false_iff_not]
  repeat' (first | with_reducible apply And.intro | with_reducible intro _)
  all_goals try omega
  all_goals grind [takeI_succ, takeI_all]
theorem e_plays (x : Int × List (Int × Int) × Unit) (hp : x.2.1.length * 16 ≤ 140737488355328) (_ : LensL cLawP.as x) : E_plays x := by
  unfold E_plays
  simp only [Bool.not_eq_true', Bool.not_eq_false', Bool.not_eq_true, Bool.not_eq_false, beq_self_eq_true, decide_eq_true_eq, decide_eq_false_iff_not, Bool.not_false, Bool.not_true, beq_iff_eq, beq_eq_false_iff_ne, bne_iff_ne, ne_eq, bne_eq_false_iff_eq, holds_iff, true_and, and_true, and_self, eq_self, List.length_cons, List.length_nil, List.length_append, List.length_set, List.length_replicate, List.set_cons_zero, cond_true, cond_false, Bool.false_eq_true, Bool.true_eq_false, forall_const, false_imp_iff, imp_self, implies_true, and_imp, Decidable.not_not, Bool.and_eq_true, Bool.or_eq_true, Bool.and_eq_false_iff, Bool.or_eq_false_iff, ← List.length_eq_zero_iff, or_self, or_false, false_or, Prod.forall, Int.reduceEq, Int.reduceLT, Int.reduceLE, List.nil_append, Nat.zero_add, Int.toNat_zero, List.drop_zero, List.length_drop, List.length_take, not_true_eq_false, not_false_eq_true,  deq_iff, deq_false, pair_eta]
  exact hp
theorem pre_plays (x : HL cLawP.as) (_ : GoodL cLawP.as x) (h : FitL cLawP.as x) : x.2.1.length * 16 ≤ 140737488355328 := by
  have h1 : x.2.1.length * 16 ≤ 140737488351232 := h.2.1.1
  omega

end Go.Proofs.Ytmcepjbbbkgfcaa.Ringp
