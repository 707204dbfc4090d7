/-
  WaitPlays: the maps, the slices' functions, the conditions of wait.Play and of the law.
-/
import Derived.Test.YtlkhpbjjimjhbaaWaitpP1
namespace Go.Proofs.Ytlkhpbjjimjhbaa.Waitp
open Go.Sx
set_option maxRecDepth 100000
set_option maxHeartbeats 1000000
set_option linter.unusedSimpArgs false
set_option linter.unusedVariables false

theorem mget_put {m : List (Int × Bool)} {k j : Int} {v : Bool} : mget? .bool (mput .bool m k v) j = if j = k then some v else mget? .bool m j := by
  induction m with
  | nil =>
    by_cases h : j = k
    · simp [mput, mget?, h]
    · have h' : ¬ k = j := fun e => h e.symm
      simp [mput, mget?, h, h']
  | cons e r ih =>
    by_cases h : e.1 = k
    · simp only [mput, h, decide_true, cond_true, mget?]
      by_cases h2 : k = j
      · simp [h2]
      · have h3 : ¬ j = k := fun e => h2 e.symm
        simp [h2, h3]
    · simp only [mput, h, decide_false, cond_false, mget?]
      by_cases h2 : e.1 = j
      · have h3 : ¬ j = k := fun e2 => h (by rw [h2, e2])
        simp [h2, h3]
      · simp [h2, ih]
theorem mput_key {m : List (Int × Bool)} {k : Int} {v : Bool} : ∀ j, j ∈ (mput .bool m k v).map Prod.fst → j = k ∨ j ∈ m.map Prod.fst := by
  induction m with
  | nil => intro j hj; simp [mput] at hj; exact Or.inl hj
  | cons e r ih =>
    intro j hj
    by_cases h : e.1 = k
    · simp only [mput, h, decide_true, cond_true, List.map_cons, List.mem_cons] at hj
      rcases hj with hj | hj
      · exact Or.inl hj
      · exact Or.inr (List.mem_cons_of_mem _ hj)
    · simp only [mput, h, decide_false, cond_false, List.map_cons, List.mem_cons] at hj
      rcases hj with hj | hj
      · exact Or.inr (by rw [hj]; exact List.mem_cons_self)
      · rcases ih j hj with h2 | h2
        · exact Or.inl h2
        · exact Or.inr (List.mem_cons_of_mem _ h2)
theorem mput_nodup {m : List (Int × Bool)} {k : Int} {v : Bool} (h : (m.map Prod.fst).Nodup) : ((mput .bool m k v).map Prod.fst).Nodup := by
  induction m with
  | nil => simp [mput]
  | cons e r ih =>
    rw [List.map_cons, List.nodup_cons] at h
    by_cases hk : e.1 = k
    · simp only [mput, hk, decide_true, cond_true, List.map_cons, List.nodup_cons]
      rw [← hk]; exact h
    · simp only [mput, hk, decide_false, cond_false, List.map_cons, List.nodup_cons]
      refine ⟨fun hm => ?_, ih h.2⟩
      rcases mput_key _ hm with h2 | h2
      · exact hk h2
      · exact h.1 h2
theorem mdel_key {m : List (Int × Bool)} {k : Int} : ∀ j, j ∈ (mdel .bool m k).map Prod.fst → j ∈ m.map Prod.fst := by
  induction m with
  | nil => intro j hj; exact hj
  | cons e r ih =>
    intro j hj
    by_cases h : e.1 = k
    · simp only [mdel, h, decide_true, cond_true] at hj
      exact List.mem_cons_of_mem _ hj
    · simp only [mdel, h, decide_false, cond_false, List.map_cons, List.mem_cons] at hj
      rcases hj with hj | hj
      · rw [hj]; exact List.mem_cons_self
      · exact List.mem_cons_of_mem _ (ih j hj)
theorem mdel_nodup {m : List (Int × Bool)} {k : Int} (h : (m.map Prod.fst).Nodup) : ((mdel .bool m k).map Prod.fst).Nodup := by
  induction m with
  | nil => exact h
  | cons e r ih =>
    rw [List.map_cons, List.nodup_cons] at h
    by_cases hk : e.1 = k
    · simp only [mdel, hk, decide_true, cond_true]; exact h.2
    · simp only [mdel, hk, decide_false, cond_false, List.map_cons, List.nodup_cons]
      exact ⟨fun hm => h.1 (mdel_key _ hm), ih h.2⟩
theorem mget_none {m : List (Int × Bool)} {k : Int} (h : ¬ k ∈ m.map Prod.fst) : mget? .bool m k = none := by
  induction m with
  | nil => rfl
  | cons e r ih =>
    rw [List.map_cons, List.mem_cons] at h
    have h1 : ¬ e.1 = k := fun he => h (Or.inl he.symm)
    simp only [mget?, h1, decide_false, cond_false]
    exact ih fun hm => h (Or.inr hm)
theorem mget_del {m : List (Int × Bool)} {k j : Int} (hn : (m.map Prod.fst).Nodup) : mget? .bool (mdel .bool m k) j = if j = k then none else mget? .bool m j := by
  induction m with
  | nil => simp [mdel, mget?]
  | cons e r ih =>
    rw [List.map_cons, List.nodup_cons] at hn
    by_cases h : e.1 = k
    · simp only [mdel, h, decide_true, cond_true, mget?]
      by_cases h2 : j = k
      · rw [if_pos h2, h2]; exact mget_none (by rw [← h]; exact hn.1)
      · have h3 : ¬ k = j := fun e => h2 e.symm
        simp only [h2, if_false, h3, decide_false, cond_false]
    · simp only [mdel, h, decide_false, cond_false, mget?]
      by_cases h2 : e.1 = j
      · have h3 : ¬ j = k := fun e2 => h (by rw [h2, e2])
        simp only [h2, decide_true, cond_true, if_neg h3]
      · simp only [h2, decide_false, cond_false]
        exact ih hn.2
theorem MS_val {m : List (Int × Bool)} {l : OL} {v : Int} (h : MS m l v) (k : Int) : mval .bool m k = decide (st l k = v) := by
  unfold mval
  rw [h.2]
  by_cases hv : st l k = v
  · simp [hv]
  · simp [hv, Ty.zero]
theorem MS_put {m : List (Int × Bool)} {l l' : OL} {v t : Int} (h : MS m l v) (hs : ∀ k, st l' k = if k = t then v else st l k) : MS (mput .bool m t true) l' v := by
  refine ⟨mput_nodup h.1, fun k => ?_⟩
  rw [mget_put, h.2, hs]
  by_cases hk : k = t
  · simp [hk]
  · simp [hk]
theorem MS_del {m : List (Int × Bool)} {l l' : OL} {v t : Int} (h : MS m l v) (hs : ∀ k, st l' k = v ↔ (¬ k = t ∧ st l k = v)) : MS (mdel .bool m t) l' v := by
  refine ⟨mdel_nodup h.1, fun k => ?_⟩
  rw [mget_del h.1, h.2]
  by_cases hk : k = t
  · rw [if_pos hk, if_neg]
    rw [hs]; exact fun h2 => h2.1 hk
  · rw [if_neg hk]
    by_cases hv : st l k = v
    · rw [if_pos hv, if_pos ((hs k).2 ⟨hk, hv⟩)]
    · rw [if_neg hv, if_neg (fun h2 => hv ((hs k).1 h2).2)]
theorem MS_same {m : List (Int × Bool)} {l l' : OL} {v : Int} (h : MS m l v) (hs : ∀ k, st l' k = v ↔ st l k = v) : MS m l' v := by
  refine ⟨h.1, fun k => ?_⟩
  rw [h.2]
  by_cases hv : st l k = v
  · rw [if_pos hv, if_pos ((hs k).2 hv)]
  · rw [if_neg hv, if_neg (fun h2 => hv ((hs k).1 h2))]
/- What each thing done does to them. -/
theorem q_nil : MQ [] [] [] [] := ⟨rfl, ⟨by simp, fun k => by rw [if_neg (by show ¬ (-1 : Int) = 2; omega)]; rfl⟩, ⟨by simp, fun k => by rw [if_neg (by show ¬ (-1 : Int) = 1; omega)]; rfl⟩, by simp, by simp⟩
theorem q_snoc {w : List Int} {a b : List (Int × Bool)} {l : OL} {t : Int} (h : MQ w a b l) (hp : pos l t < 0) (h0 : 0 ≤ t) (h1 : t ≤ 63) : MQ (w ++ [t]) (mdel .bool a t) b (l ++ [(t, 0)]) := by
  obtain ⟨hw, ha, hb, hok⟩ := h
  have hn := st_none hp
  refine ⟨by rw [hw]; simp, MS_del ha fun k => ?_, MS_same hb fun k => ?_, okL_snoc hok hp h0 h1⟩
  · rw [st_snoc _ _ _ _ hp]
    by_cases hk : k = t <;> simp [hk]
  · rw [st_snoc _ _ _ _ hp]
    by_cases hk : k = t <;> simp [hk, hn]
theorem q_up {w : List Int} {a b : List (Int × Bool)} {l : OL} {t : Int} (h : MQ w a b l) (hp : 0 ≤ pos l t) (hs : ¬ st l t = 1) : MQ w (mdel .bool a t) b (setSt l t 0) := by
  obtain ⟨hw, ha, hb, hok⟩ := h
  refine ⟨by rw [hw, map_set], MS_del ha fun k => ?_, MS_same hb fun k => ?_, okL_set hok (by omega) (by omega)⟩
  · rw [st_set]
    by_cases hk : k = t <;> simp [hk, hp]
  · rw [st_set]
    by_cases hk : k = t <;> simp [hk, hp, hs]
theorem q_sleep {w : List Int} {a b : List (Int × Bool)} {l : OL} {t : Int} (h : MQ w a b l) (hp : 0 ≤ pos l t) (hs : ¬ st l t = 2) : MQ w a (mput .bool b t true) (setSt l t 1) := by
  obtain ⟨hw, ha, hb, hok⟩ := h
  refine ⟨by rw [hw, map_set], MS_same ha fun k => ?_, MS_put hb fun k => ?_, okL_set hok (by omega) (by omega)⟩
  · rw [st_set]
    by_cases hk : k = t <;> simp [hk, hp, hs]
  · rw [st_set]
    by_cases hk : k = t <;> simp [hk, hp]
theorem getD_map {l : OL} {n : Nat} (h : n < l.length) : (l.map Prod.fst).getD n 0 = (l.getD n (0, 0)).1 := by
  simp [List.getD, h]
theorem q_wake {w : List Int} {a b : List (Int × Bool)} {l : OL} {j : Int} (h : MQ w a b l) (h0 : 0 ≤ j) (h1 : j < w.length) (hall : (w.take j.toNat).all (fun y => mval .bool a y) = true) (hv : mval .bool a (w.getD j.toNat 0) = false) :
    MQ w (mput .bool a (w.getD j.toNat 0) true) (mdel .bool b (w.getD j.toNat 0)) (wake1 l) := by
  obtain ⟨hw, ha, hb, hok⟩ := h
  subst hw
  rw [List.length_map] at h1
  rw [getD_map (by omega)] at hv ⊢
  rw [MS_val ha, decide_eq_false_iff_not] at hv
  have hp : pos l (l.getD j.toNat (0, 0)).1 = j := scan_hit hok h0 h1 rfl
  have hg := st_get (l := l) (t := (l.getD j.toNat (0, 0)).1) (by omega)
  rw [hp] at hg
  have hw1 : wake1 l = setSt l (l.getD j.toNat (0, 0)).1 2 := by
    rw [wake1_at h0 h1 ?_ (by rw [← hg.1]; exact hv), ← set_pos hok (by omega), hp]
    rw [List.all_eq_true] at hall ⊢
    intro e he
    have h2 := hall e.1 (by rw [← List.map_take]; exact List.mem_map_of_mem he)
    rw [MS_val ha, decide_eq_true_eq] at h2
    obtain ⟨i, hi, hie⟩ := List.mem_iff_getElem.1 he
    rw [List.length_take] at hi
    have h3 : l.getD i (0, 0) = e := by
      rw [List.getElem_take] at hie
      rw [List.getD_eq_getElem?_getD, List.getElem?_eq_getElem (by omega), hie]; rfl
    have h4 : pos l e.1 = i := scan_hit (j := (i : Int)) hok (by omega) (by omega) (by rw [Int.toNat_natCast, h3])
    have h5 := (st_get (l := l) (t := e.1) (by omega)).1
    rw [h4, Int.toNat_natCast, h3] at h5
    rw [decide_eq_true_eq, ← h5]
    exact h2
  generalize (l.getD j.toNat (0, 0)).1 = t at *
  rw [hw1]
  refine ⟨(map_set _ _ _).symm, MS_put ha fun k => ?_, MS_del hb fun k => ?_, okL_set hok (by omega) (by omega)⟩
  · rw [st_set]
    by_cases hk : k = t
    · rw [if_pos ⟨hk, by omega⟩, if_pos hk]
    · rw [if_neg (fun h => hk h.1), if_neg hk]
  · rw [st_set]
    by_cases hk : k = t
    · rw [if_pos ⟨hk, by omega⟩]; simp [hk]
    · rw [if_neg (fun h => hk h.1)]; simp [hk]
theorem q_none {w : List Int} {a b : List (Int × Bool)} {l : OL} {j : Int} (h : MQ w a b l) (h1 : ¬ j < w.length) (hall : (w.take j.toNat).all (fun y => mval .bool a y) = true) : l.all (fun e => decide (e.2 = 2)) = true := by
  obtain ⟨hw, ha, hb, hok⟩ := h
  subst hw
  rw [takeI_all (by omega), List.all_map] at hall
  rw [List.all_eq_true] at hall ⊢
  intro e he
  have h2 := hall e he
  simp only [Function.comp_def] at h2
  rw [MS_val ha, decide_eq_true_eq] at h2
  obtain ⟨i, hi, hie⟩ := List.mem_iff_getElem.1 he
  have h3 : l.getD i (0, 0) = e := by
    rw [List.getD_eq_getElem?_getD, List.getElem?_eq_getElem (by omega), hie]; rfl
  have h4 : pos l e.1 = i := scan_hit (j := (i : Int)) hok (by omega) (by omega) (by rw [Int.toNat_natCast, h3])
  have h5 := (st_get (l := l) (t := e.1) (by omega)).1
  rw [h4, Int.toNat_natCast, h3] at h5
  rw [decide_eq_true_eq, ← h5]
  exact h2
theorem q_end {w : List Int} {a b : List (Int × Bool)} {l : OL} {j : Int} (h : MQ w a b l) (h1 : ¬ j < w.length) (hall : (w.take j.toNat).all (fun y => mval .bool a y) = true) : MQ w a b (wake1 l) := by
  rw [wake1_all (q_none h h1 hall)]; exact h
theorem q_del {w v : List Int} {a b : List (Int × Bool)} {l : OL} {t : Int} (h : MQ w a b l) (hv : v = w.filter (fun y => !decide (y = t))) : MQ v (mdel .bool a t) (mdel .bool b t) (del l t) := by
  obtain ⟨hw, ha, hb, hok⟩ := h
  refine ⟨by rw [hv, hw, map_del], MS_del ha fun k => ?_, MS_del hb fun k => ?_, okL_del hok⟩
  · rw [st_del]
    by_cases hk : k = t <;> simp [hk]
  · rw [st_del]
    by_cases hk : k = t <;> simp [hk]
theorem q_sleepers {w : List Int} {a b : List (Int × Bool)} {l : OL} (h : MQ w a b l) : w.filter (fun y => mval .bool b y) = sleepers l := by
  obtain ⟨hw, ha, hb, hok⟩ := h
  subst hw
  unfold sleepers
  rw [List.filter_map]
  congr 1
  apply List.filter_congr
  intro e he
  simp only [Function.comp_def]
  rw [MS_val hb]
  obtain ⟨i, hi, hie⟩ := List.mem_iff_getElem.1 he
  have h3 : l.getD i (0, 0) = e := by
    rw [List.getD_eq_getElem?_getD, List.getElem?_eq_getElem (by omega), hie]; rfl
  have h4 : pos l e.1 = i := scan_hit (j := (i : Int)) hok (by omega) (by omega) (by rw [Int.toNat_natCast, h3])
  have h5 := (st_get (l := l) (t := e.1) (by omega)).1
  rw [h4, Int.toNat_natCast, h3] at h5
  rw [h5]
/- The slices' functions. -/
theorem any_next {P : Int → Bool} {l : List Int} {k : Int} (h0 : 0 ≤ k) (h : k < l.length) (ha : (l.take k.toNat).any P = false) (h1 : P (l.getD k.toNat 0) = false) : (l.take (k + 1).toNat).any P = false := by
  rw [takeI_succ 0 h0 h, List.any_append, ha, List.any_cons, h1]
  rfl
theorem none_all {P : Int → Bool} {l : List Int} (ha : l.any P = false) : l.filter (fun y => !P y) = l := by
  rw [List.filter_eq_self]
  intro y hy
  rw [List.any_eq_false] at ha
  have := ha y hy
  cases hp : P y with
  | true => exact absurd hp this
  | false => rfl
theorem df_init {P : Int → Bool} {l : List Int} {j : Int} (h0 : 0 ≤ j) (h : j < l.length) (ha : (l.take j.toNat).any P = false) (h1 : P (l.getD j.toNat 0) = true) : l.take j.toNat = (l.take (j + 1).toNat).filter (fun y => !P y) := by
  rw [takeI_succ 0 h0 h, List.filter_append, none_all ha, List.filter_cons_of_neg (by rw [h1]; decide), List.filter_nil, List.append_nil]
theorem drop_get {w l : List Int} {j : Int} (h0 : 0 ≤ j) (h : j < w.length) (hw : w.length = l.length) (hd : w.drop j.toNat = l.drop j.toNat) : w.getD j.toNat 0 = l.getD j.toNat 0 ∧ w.drop (j + 1).toNat = l.drop (j + 1).toNat := by
  have h1 : j.toNat < w.length := by omega
  have h2 : j.toNat < l.length := by omega
  rw [List.drop_eq_getElem_cons h1, List.drop_eq_getElem_cons h2] at hd
  injection hd with h3 h4
  rw [show (j + 1).toNat = j.toNat + 1 by omega]
  exact ⟨by simp [List.getD, h1, h2, h3], h4⟩
theorem df_skip {P : Int → Bool} {w l : List Int} {i j : Int} (h0 : 0 ≤ j) (h : j < w.length) (hw : w.length = l.length) (ht : w.take i.toNat = (l.take j.toNat).filter (fun y => !P y)) (hd : w.drop j.toNat = l.drop j.toNat) (h1 : P (w.getD j.toNat 0) = true) :
    w.take i.toNat = (l.take (j + 1).toNat).filter (fun y => !P y) ∧ w.drop (j + 1).toNat = l.drop (j + 1).toNat := by
  obtain ⟨h2, h3⟩ := drop_get h0 h hw hd
  refine ⟨?_, h3⟩
  rw [takeI_succ 0 h0 (by omega), List.filter_append, List.filter_cons_of_neg (by rw [← h2, h1]; decide), List.filter_nil, List.append_nil, ht]
theorem df_keep {P : Int → Bool} {w l : List Int} {i j : Int} (hi : 0 ≤ i) (hij : i ≤ j) (h : j < w.length) (hw : w.length = l.length) (ht : w.take i.toNat = (l.take j.toNat).filter (fun y => !P y)) (hd : w.drop j.toNat = l.drop j.toNat) (h1 : P (w.getD j.toNat 0) = false) :
    (w.set i.toNat (w.getD j.toNat 0)).take (i + 1).toNat = (l.take (j + 1).toNat).filter (fun y => !P y) ∧ (w.set i.toNat (w.getD j.toNat 0)).drop (j + 1).toNat = l.drop (j + 1).toNat := by
  obtain ⟨h2, h3⟩ := drop_get (by omega) h hw hd
  have hlen : i < (w.set i.toNat (w.getD j.toNat 0)).length := by rw [List.length_set]; omega
  refine ⟨?_, ?_⟩
  · rw [takeI_succ 0 hi hlen, takeI_succ 0 (show 0 ≤ j by omega) (by omega), List.filter_append, List.filter_cons_of_pos (by rw [← h2, h1]; rfl), List.filter_nil, ← ht, ← h2]
    congr 1
    · rw [List.take_set_of_le (Nat.le_refl _)]
    · have : i.toNat < w.length := by omega
      simp [List.getD, this]
  · rw [List.drop_set_of_lt (by omega), h3]
theorem df_view {w : List Int} {i : Int} {r : List Int} (hi : i ≤ w.length) : List.take i.toNat (List.take i.toNat w ++ r) = w.take i.toNat := by
  rw [List.take_append_of_le_length (by rw [List.length_take]; omega), List.take_take, Nat.min_self]
theorem df_end {P : Int → Bool} {w l : List Int} {i j : Int} (hi : i ≤ w.length) (h : ¬ j < w.length) (hw : w.length = l.length) (ht : w.take i.toNat = (l.take j.toNat).filter (fun y => !P y)) (r : List Int) : List.take i.toNat (List.take i.toNat w ++ r) = l.filter (fun y => !P y) := by
  rw [df_view hi, ht, takeI_all (by omega)]
theorem nf_absurd {w : List Int} {j t : Int} {m : List (Int × Bool)} (h : (w.take j.toNat).any (fun y => capF (some t) m y) = false) (hj : ¬ j < w.length) (hp : 0 ≤ idx w t) : False := by
  rw [takeI_all (by omega), List.any_eq_false] at h
  exact h t (idx_mem.1 hp) (decide_eq_true rfl)
theorem fil_put {w : List Int} {a : List (Int × Bool)} {t : Int} (h : t ∈ w) (hv : mval .bool a t = false) : (w.filter (fun y => !(mval .bool (mput .bool a t true) y))).length < (w.filter (fun y => !(mval .bool a y))).length := by
  have hle : ∀ y, (!(mval .bool (mput .bool a t true) y)) = true → (!(mval .bool a y)) = true := by
    intro y hy
    unfold mval at hy ⊢
    rw [mget_put] at hy
    by_cases hk : y = t
    · rw [if_pos hk] at hy; cases hy
    · rw [if_neg hk] at hy; exact hy
  have htt : (!(mval .bool (mput .bool a t true) t)) = false := by
    unfold mval
    rw [mget_put, if_pos rfl]; rfl
  induction w with
  | nil => cases h
  | cons e r ih =>
    rw [List.filter_cons, List.filter_cons]
    have hsub : (r.filter (fun y => !(mval .bool (mput .bool a t true) y))).length ≤ (r.filter (fun y => !(mval .bool a y))).length := by
      have : r.filter (fun y => !(mval .bool (mput .bool a t true) y)) = (r.filter (fun y => !(mval .bool a y))).filter (fun y => !(mval .bool (mput .bool a t true) y)) := by
        rw [List.filter_filter]
        apply List.filter_congr
        intro y _
        cases hy : !(mval .bool (mput .bool a t true) y) with
        | true => rw [hle y hy]; rfl
        | false => rfl
      rw [this]
      exact List.length_filter_le _ _
    by_cases he : e = t
    · rw [if_neg (by rw [he, htt]; decide), if_pos (by rw [he, hv]; rfl), List.length_cons]
      omega
    · have hm : t ∈ r := by
        rcases List.mem_cons.1 h with h2 | h2
        · exact absurd h2.symm he
        · exact h2
      have := ih hm
      by_cases h2 : (!(mval .bool (mput .bool a t true) e)) = true
      · rw [if_pos h2, if_pos (hle e h2), List.length_cons, List.length_cons]; omega
      · rw [if_neg h2]
        split
        · rw [List.length_cons]; omega
        · exact this
theorem getD_mem {w : List Int} {j : Int} (h0 : 0 ≤ j) (h : j < w.length) : w.getD j.toNat 0 ∈ w := by
  have h1 : j.toNat < w.length := by omega
  rw [List.getD_eq_getElem?_getD, List.getElem?_eq_getElem h1]
  exact List.getElem_mem h1
theorem st_ran {l : OL} {t : Int} (hok : okL l) (h : 0 ≤ pos l t) : 0 ≤ st l t ∧ st l t ≤ 2 := by
  have hr := pos_range l t
  have h1 : (pos l t).toNat < l.length := by omega
  rw [(st_get h).1, List.getD_eq_getElem?_getD, List.getElem?_eq_getElem h1]
  exact (hok.2 _ (List.getElem_mem h1)).2
theorem q_fin {ops : List (Int × Int)} {k c n' : Int} {d' : List Int} {s : OS} {e w' : List Int} {a' b' : List (Int × Bool)} {o : Int × Int} (h0 : 0 ≤ k) (h1 : k < ops.length) (he : (e.length : Int) = k) (hp : pl (ops.take k.toNat) = (s, e)) (hg : good s k)
    (ho : ops.getD k.toNat (0, 0) = o) (hs : (step s o).1.2 = (n', d') ∧ (step s o).2 = c ∧ MQ w' a' b' (step s o).1.1) :
    0 ≤ k + 1 ∧ k + 1 ≤ ops.length ∧ ((e.length + 1 : Nat) : Int) = k + 1 ∧ ∃ l, pl (ops.take (k + 1).toNat) = ((l, n', d'), e ++ [c]) ∧ MQ w' a' b' l ∧ good (l, n', d') (k + 1) := by
  obtain ⟨hs1, hs2, hs3⟩ := hs
  refine ⟨by omega, by omega, by omega, (step s o).1.1, ?_, hs3, ?_⟩
  · rw [pl_next h0 h1, hp, ho, ← hs1]
    unfold one
    simp only [hs2]
  · have := good_step (o := o) hg
    rw [← hs1]
    exact this
theorem capF_some_t {y t : Int} {m : List (Int × Bool)} (h : y = t) : capF (some t) m y = true := decide_eq_true h
theorem capF_some_f {y t : Int} {m : List (Int × Bool)} (h : ¬ y = t) : capF (some t) m y = false := decide_eq_false h
theorem capF_none_t {y : Int} {m : List (Int × Bool)} (h : mval .bool m y = false) : capF none m y = true := by unfold capF; rw [h]; rfl
theorem capF_none_f {y : Int} {m : List (Int × Bool)} (h : mval .bool m y = true) : capF none m y = false := by unfold capF; rw [h]; rfl
theorem q_fil {w w' : List Int} {a b : List (Int × Bool)} {l : OL} {i j t : Int} (h : MQ w a b l) (ht : w'.take i.toNat = (w.take j.toNat).filter (fun y => !capF (some t) [] y)) (hj : ¬ j < w'.length) (hw : w'.length = w.length) : MQ (w'.take i.toNat) (mdel .bool a t) (mdel .bool b t) (del l t) := by
  rw [takeI_all (l := w) (by omega)] at ht
  exact q_del h ht
theorem q_all {w : List Int} {a b a' b' : List (Int × Bool)} {l : OL} {j : Int} (hI : ∀ l, MQ w a b l → ∃ l', MQ w a' b' l' ∧ wakeAll l' = wakeAll l) (h : MQ w a b l) (hj : ¬ j < w.length) (hall : (w.take j.toNat).all (fun y => mval .bool a' y) = true) : MQ w a' b' (wakeAll l) := by
  obtain ⟨l', h', he⟩ := hI l h
  rw [← he, wakeAll_all (q_none h' hj hall)]
  exact h'
theorem q_loop {w : List Int} {a b a' b' : List (Int × Bool)} {l : OL} {j : Int} (hI : ∀ l, MQ w a b l → ∃ l', MQ w a' b' l' ∧ wakeAll l' = wakeAll l) (h : MQ w a b l) (h0 : 0 ≤ j) (h1 : j < w.length) (hall : (w.take j.toNat).all (fun y => mval .bool a' y) = true) (hv : mval .bool a' (w.getD j.toNat 0) = false) :
    ∃ l', MQ w (mput .bool a' (w.getD j.toNat 0) true) (mdel .bool b' (w.getD j.toNat 0)) l' ∧ wakeAll l' = wakeAll l := by
  obtain ⟨l', h', he⟩ := hI l h
  exact ⟨wake1 l', q_wake h' h0 h1 hall hv, by rw [wakeAll_wake1, he]⟩
theorem cap_fil {m : List (Int × Bool)} (w : List Int) : w.filter (fun y => !capF none m y) = w.filter (fun y => mval .bool m y) := by
  apply List.filter_congr
  intro y _
  unfold capF
  simp
theorem q_s1 {w : List Int} {a b : List (Int × Bool)} {l : OL} {j : Int} (h : MQ w a b l) (ha : (w.take j.toNat).any (fun y => capF none b y) = false) (hj : ¬ j < w.length) : w = sleepers l := by
  rw [takeI_all (by omega)] at ha
  rw [← q_sleepers h, ← cap_fil, none_all ha]
theorem q_s2 {w w' : List Int} {a b : List (Int × Bool)} {l : OL} {i j : Int} (h : MQ w a b l) (ht : w'.take i.toNat = (w.take j.toNat).filter (fun y => !capF none b y)) (hj : ¬ j < w'.length) (hw : w'.length = w.length) : w'.take i.toNat = sleepers l := by
  rw [takeI_all (l := w) (by omega)] at ht
  rw [ht, cap_fil, q_sleepers h]
set_option maxHeartbeats 16000000 in
theorem e_play (x : List (Int × Int) × Unit) (hpre : x.1.length * 16 ≤ 140737488355328) (hlens : LensL cPlay.as x) : E_play x := by
  obtain ⟨x, u⟩ := x
  simp only [] at hpre
  unfold E_play
  simp only [Bool.not_eq_true', Bool.not_eq_false', Bool.not_eq_true, Bool.not_eq_false, beq_self_eq_true, decide_eq_true_eq, decide_eq_false_iff_not, Bool.not_false, Bool.not_true, beq_iff_eq, beq_eq_false_iff_ne, bne_iff_ne, ne_eq, bne_eq_false_iff_eq, holds_iff, true_and, and_true, and_self, eq_self, List.length_cons, List.length_nil, List.length_append, List.length_set, List.length_replicate, List.set_cons_zero, cond_true, cond_false, Bool.false_eq_true, Bool.true_eq_false, forall_const, false_imp_iff, imp_self, implies_true, and_imp, Decidable.not_not, Bool.and_eq_true, Bool.or_eq_true, Bool.and_eq_false_iff, Bool.or_eq_false_iff, ← List.length_eq_zero_iff, or_self, or_false, false_or, Prod.forall, Int.reduceEq, Int.reduceLT, Int.reduceLE, List.nil_append, Nat.zero_add, Int.toNat_zero, List.drop_zero, List.length_drop, List.length_take, not_true_eq_false, not_false_eq_true,  pair_eta, take_all, toNat1, Int.toNat_natCast, Nat.min_self, List.take_length, List.length_map]
  refine ⟨⟨by omega, rfl, [], rfl, q_nil, ⟨by simp, by simp⟩, by simp, by simp⟩, ?_⟩
  intro n w a b d e k hk0 hk1 hel ⟨l, hpl, hq, hg⟩ _ _ _ _ _ _ _ _ _ _ _ _
  have hok : okL l := hg.1
  have hl64 := okL_len hok
  have hw64 : w.length ≤ 64 := by rw [hq.1, List.length_map]; exact hl64
  have hn4 : 0 ≤ n ∧ n ≤ 400 := hg.2.1
  have hdl : (d.length : Int) ≤ k := hg.2.2
  have hpx : ¬ k < x.length → pl x = ((l, n, d), e) := fun h => by rw [takeI_all (by omega)] at hpl; exact hpl
  have hst := fun (n' : Int) (d' : List Int) (c : Int) (w' : List Int) (a' b' : List (Int × Bool)) (hlt : k < x.length) => q_fin (n' := n') (d' := d') (c := c) (w' := w') (a' := a') (b' := b') (o := x.getD k.toNat (0, 0)) hk0 hlt hel hpl hg rfl
  generalize ho : x.getD k.toNat (0, 0) = o at *
  obtain ⟨kd, th⟩ := o
  simp only []
  have hpr := pos_range l th
  have hidx : idx w th = pos l th := by rw [hq.1]; rfl
  have hva : mval .bool a th = decide (st l th = 2) := MS_val hq.2.1 th
  have hvb : mval .bool b th = decide (st l th = 1) := MS_val hq.2.2.1 th
  have hs0 : pos l th < 0 → st l th = -1 := st_none
  have hs1 : 0 ≤ pos l th → 0 ≤ st l th ∧ st l th ≤ 2 := st_ran hok
  simp only [hidx, hva, hvb, decide_eq_true_eq, decide_eq_false_iff_not]
  have hplay : ¬ k < x.length → play x = (e, d, sleepers l, n, ()) := fun h => by unfold play; rw [hpx h]
  clear hpx hg hpl ho
  repeat' (first
    | refine hst _ _ _ _ _ _ (by assumption) ?_
    | (refine fun (w' : List Int) (i j : Int) h0 h1 h2 h3 h4 h5 _ _ _ _ _ _ => ?_
       have hv : ∀ r, List.take i.toNat (List.take i.toNat w' ++ r) = w'.take i.toNat := fun r => df_view (by omega)
       have hm : min i.toNat (min i.toNat w'.length + (w'.length - i.toNat + (w'.length - (i.toNat + (w'.length - i.toNat))))) = (w'.take i.toNat).length := by rw [List.length_take]; omega
       simp only [hv, hm])
    | with_reducible apply And.intro
    | with_reducible intro _)
  all_goals try omega
  all_goals try first
    | rfl
    | (exact (nf_absurd (by assumption) (by assumption) (by omega)).elim)
    | (exact all_next 0 (by assumption) (by assumption) (by assumption) (by assumption))
    | (exact any_next (by assumption) (by assumption) (by assumption) (capF_some_f (by assumption)))
    | (exact any_next (by assumption) (by assumption) (by assumption) (capF_none_f (by assumption)))
    | (exact df_init (by assumption) (by assumption) (by assumption) (capF_some_t (by assumption)))
    | (exact df_init (by assumption) (by assumption) (by assumption) (capF_none_t (by assumption)))
    | (exact (df_skip (by omega) (by assumption) (by assumption) (by assumption) (by assumption) (capF_some_t (by assumption))).1)
    | (exact (df_skip (by omega) (by assumption) (by assumption) (by assumption) (by assumption) (capF_some_t (by assumption))).2)
    | (exact (df_skip (by omega) (by assumption) (by assumption) (by assumption) (by assumption) (capF_none_t (by assumption))).1)
    | (exact (df_skip (by omega) (by assumption) (by assumption) (by assumption) (by assumption) (capF_none_t (by assumption))).2)
    | (exact (df_keep (by assumption) (by assumption) (by assumption) (by assumption) (by assumption) (by assumption) (capF_some_f (by assumption))).1)
    | (exact (df_keep (by assumption) (by assumption) (by assumption) (by assumption) (by assumption) (by assumption) (capF_some_f (by assumption))).2)
    | (exact (df_keep (by assumption) (by assumption) (by assumption) (by assumption) (by assumption) (by assumption) (capF_none_f (by assumption))).1)
    | (exact (df_keep (by assumption) (by assumption) (by assumption) (by assumption) (by assumption) (by assumption) (capF_none_f (by assumption))).2)
    | (exact ⟨_, by assumption, rfl⟩)
    | (exact q_loop (by assumption) (by assumption) (by assumption) (by assumption) (by assumption) (by assumption))
    | (exact fil_put (getD_mem (by assumption) (by assumption)) (by assumption))
    | (rw [hplay (by assumption)]; done)
    | (rw [hplay (by assumption)]; exact q_s1 hq (by assumption) (by assumption))
    | (rw [hplay (by assumption)]; exact q_s2 hq (by assumption) (by assumption) (by assumption))
  all_goals try (
    unfold step
    simp only []
    (repeat' split) <;> first
      | (exfalso; omega)
      | rfl
      | (exact hq)
      | (exact q_snoc hq (by omega) (by omega) (by omega))
      | (exact q_up hq (by omega) (by assumption))
      | (exact q_sleep hq (by omega) (by omega))
      | (exact q_wake hq (by assumption) (by assumption) (by assumption) (by assumption))
      | (exact q_end hq (by assumption) (by assumption))
      | (exact q_all (by assumption) hq (by assumption) (by assumption))
      | (exact q_fil hq (by assumption) (by assumption) (by assumption))
      | (exact q_wake (q_fil hq (by assumption) (by assumption) (by assumption)) (by assumption) (by assumption) (by assumption) (by assumption))
      | (exact q_end (q_fil hq (by assumption) (by assumption) (by assumption)) (by assumption) (by assumption))
      | skip)
theorem e_plays (x : List (Int × Int) × Unit) (hpre : x.1.length * 16 ≤ 140737488355328) (hlens : LensL cLaw.as x) : E_plays x := by
  obtain ⟨x, u⟩ := x
  simp only [] at hpre
  unfold E_plays
  simp only [Bool.not_eq_true', Bool.not_eq_false', Bool.not_eq_true, Bool.not_eq_false, beq_self_eq_true, decide_eq_true_eq, decide_eq_false_iff_not, Bool.not_false, Bool.not_true, beq_iff_eq, beq_eq_false_iff_ne, bne_iff_ne, ne_eq, bne_eq_false_iff_eq, holds_iff, true_and, and_true, and_self, eq_self, List.length_cons, List.length_nil, List.length_append, List.length_set, List.length_replicate, List.set_cons_zero, cond_true, cond_false, Bool.false_eq_true, Bool.true_eq_false, forall_const, false_imp_iff, imp_self, implies_true, and_imp, Decidable.not_not, Bool.and_eq_true, Bool.or_eq_true, Bool.and_eq_false_iff, Bool.or_eq_false_iff, ← List.length_eq_zero_iff, or_self, or_false, false_or, Prod.forall, Int.reduceEq, Int.reduceLT, Int.reduceLE, List.nil_append, Nat.zero_add, Int.toNat_zero, List.drop_zero, List.length_drop, List.length_take, not_true_eq_false, not_false_eq_true,  deq_iff, deq_false, pair_eta]
  exact hpre
theorem pre_plays (x : HL cLaw.as) (_ : GoodL cLaw.as x) (h : FitL cLaw.as x) : x.1.length * 16 ≤ 140737488355328 := by
  have h1 : x.1.length * 16 ≤ 140737488351232 := h.1.1
  omega

end Go.Proofs.Ytlkhpbjjimjhbaa.Waitp
