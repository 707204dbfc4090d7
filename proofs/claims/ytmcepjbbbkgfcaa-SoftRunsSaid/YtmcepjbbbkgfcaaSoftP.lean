/-
  SoftRuns: the conditions hold.
-/
import Derived.Test.YtmcepjbbbkgfcaaSoftE
namespace Go.Proofs.Ytmcepjbbbkgfcaa.Soft
open Go.Sx
set_option maxRecDepth 100000
set_option maxHeartbeats 1000000
set_option linter.unusedSimpArgs false
set_option linter.unusedVariables false

theorem app_f {α : Type} (l m : List α) : (List.brecOn.go (motive := fun _ => List α → List α) l List.append._f).1 m = l ++ m := by
  induction l with
  | nil => rfl
  | cons a l ih => exact congrArg (a :: ·) ih
theorem take_all {α : Type} {l : List α} : l.take (l.length : Int).toNat = l := by simp
theorem toNat1 : Int.toNat 1 = 1 := rfl
theorem right_iff {p : List Int} {l : RL} : right p l = true ↔ Right p l := by simp [right]
theorem softB_iff {n : Int} : softB n = true ↔ 0 ≤ n ∧ n < 8 := by simp [softB]
/- Maps. -/
theorem mget_put {m : List (Int × Bool)} {k j : Int} {v : Bool} : mget? .bool (mput .bool m k v) j = if j = k then some v else mget? .bool m j := by
  induction m with
  | nil =>
    by_cases h : j = k
    · simp [mput, mget?, h]
    · have h' : ¬ k = j := fun e => h e.symm
      simp [mput, mget?, h, h']
  | cons e r ih =>
    by_cases h : e.1 = k
    · simp only [mput, h, decide_true, cond_true, mget?]
      by_cases h2 : k = j
      · simp [h2]
      · have h3 : ¬ j = k := fun e => h2 e.symm
        simp [h2, h3]
    · simp only [mput, h, decide_false, cond_false, mget?]
      by_cases h2 : e.1 = j
      · have h3 : ¬ j = k := fun e2 => h (by rw [h2, e2])
        simp [h2, h3]
      · simp [h2, ih]
theorem mput_len {m : List (Int × Bool)} {k : Int} {v : Bool} : (mput .bool m k v).length ≤ m.length + 1 := by
  induction m with
  | nil => simp [mput]
  | cons e r ih =>
    by_cases h : e.1 = k
    · simp [mput, h]
    · simp [mput, h]; exact ih
theorem getD_set {p : List Bool} {i j : Nat} (h : i < p.length) : (p.set i true).getD j false = if i = j then true else p.getD j false := by
  unfold List.getD
  rw [List.getElem?_set]
  by_cases e : i = j
  · rw [if_pos e, if_pos h, if_pos e]; rfl
  · rw [if_neg e, if_neg e]
theorem MR_put {m : List (Int × Bool)} {p : List Bool} {k : Int} (h : MR m p) (h0 : 0 ≤ k) (h1 : k < 8) : MR (mput .bool m k true) (p.set k.toNat true) := by
  obtain ⟨h8, hm⟩ := h
  refine ⟨by rw [List.length_set]; exact h8, fun j => ?_⟩
  rw [mget_put, hm, getD_set (by omega)]
  by_cases e : j = k
  · subst e
    rw [if_pos rfl, if_pos rfl, if_pos ⟨h0, h1, rfl⟩]
  · rw [if_neg e]
    by_cases e2 : k.toNat = j.toNat
    · rw [if_pos e2, if_neg (by omega), if_neg (by omega)]
    · rw [if_neg e2]
theorem MR_nil : MR [] nob := by
  refine ⟨rfl, fun k => ?_⟩
  have : nob.getD k.toNat false = false := by
    unfold nob List.getD
    rcases k.toNat with _ | _ | _ | _ | _ | _ | _ | _ | n <;> simp
  rw [this, if_neg (by simp)]; rfl
theorem MR_val {m : List (Int × Bool)} {p : List Bool} {k : Int} (h : MR m p) (h0 : 0 ≤ k) (h1 : k < 8) : mval .bool m k = p.getD k.toNat false := by
  unfold mval
  rw [h.2]
  cases hp : p.getD k.toNat false with
  | true => rw [if_pos ⟨h0, h1, rfl⟩]
  | false => rw [if_neg (by simp)]; rfl
theorem has_iff {p : List Bool} : p.contains true = true ↔ ∃ i, i < p.length ∧ p.getD i false = true := by
  rw [List.contains_iff_exists_mem_beq]
  constructor
  · rintro ⟨b, hb, e⟩
    obtain ⟨i, hi, e2⟩ := List.mem_iff_getElem.1 hb
    refine ⟨i, hi, ?_⟩
    have : b = true := by simpa using e
    simp [List.getD, hi, e2, this]
  · rintro ⟨i, hi, e⟩
    refine ⟨p[i], List.getElem_mem hi, ?_⟩
    simpa [List.getD, hi] using e
theorem MR_has {m : List (Int × Bool)} {p : List Bool} (h : MR m p) : p.contains true = decide (0 < (m.length : Int)) := by
  cases m with
  | nil =>
    cases hc : p.contains true with
    | false => rfl
    | true =>
      obtain ⟨i, hi, e⟩ := has_iff.1 hc
      have := h.2 i
      rw [if_pos ⟨by omega, by have := h.1; omega, by simpa using e⟩] at this
      cases this
  | cons e r =>
    have := h.2 e.1
    simp only [mget?, decide_true, cond_true] at this
    have h2 : 0 ≤ e.1 ∧ e.1 < 8 ∧ p.getD e.1.toNat false = true := by
      by_cases h3 : 0 ≤ e.1 ∧ e.1 < 8 ∧ p.getD e.1.toNat false = true
      · exact h3
      · rw [if_neg h3] at this; cases this
    rw [has_iff.2 ⟨e.1.toNat, by have := h.1; omega, h2.2.2⟩]
    simp only [List.length_cons]
    symm; rw [decide_eq_true_eq]; omega
/- The raises, sorted. -/
theorem sorted_at {l : RL} (h : okR l l.length) : ∀ (d : Nat) (i : Int), 0 ≤ i → i + d < l.length → (rz l i).1 ≤ (rz l (i + d)).1
  | 0, i, _, _ => by simp
  | d + 1, i, h0, h1 => by
    have h2 := sorted_at h d i h0 (by omega)
    have h3 := (h (i + (d + 1 : Nat)) (by omega) h1).2.2 (by omega)
    rw [show i + ((d + 1 : Nat) : Int) - 1 = i + d by omega] at h3
    omega
theorem rz_get {l : RL} {i : Nat} (h : i < l.length) : rz l i = l[i] := by simp [rz, List.getD, h]
theorem sorted_pw {l : RL} (h : okR l l.length) : l.Pairwise (fun a b => a.1 ≤ b.1) := by
  rw [List.pairwise_iff_getElem]
  intro i j hi hj hij
  have := sorted_at h (j - i) i (by omega) (by omega)
  rw [show (i : Int) + ((j - i : Nat) : Int) = (j : Nat) by omega, rz_get hi, rz_get hj] at this
  exact this
theorem ok_mem {l : RL} (h : okR l l.length) : ∀ r ∈ l, softB r.2 = true ∧ 0 ≤ r.1 := by
  intro r hr
  obtain ⟨i, hi, rfl⟩ := List.mem_iff_getElem.1 hr
  have := h i (by omega) (by omega)
  unfold okAt at this
  rw [rz_get hi] at this
  exact ⟨this.1, this.2.1.1⟩
theorem left_filter {l : RL} {m : Int} (h : l.Pairwise (fun a b => a.1 ≤ b.1)) : left l m = l.filter (fun r => decide (m ≤ r.1)) := by
  unfold left
  induction l with
  | nil => rfl
  | cons r t ih =>
    obtain ⟨h1, h2⟩ := List.pairwise_cons.1 h
    by_cases hr : r.1 < m
    · rw [List.dropWhile_cons_of_pos (by simpa using hr), List.filter_cons_of_neg (by simp; omega), ih h2]
    · rw [List.dropWhile_cons_of_neg (by simpa using hr), List.filter_cons_of_pos (by simp; omega)]
      congr 1
      symm
      rw [List.filter_eq_self]
      intro a ha
      have := h1 a ha
      simp; omega
theorem come_skip {m : Int} : ∀ {t : RL} {p : List Bool}, (∀ r ∈ t, ¬ r.1 = m) → t.foldl (come1 m) p = p
  | [], _, _ => rfl
  | r :: t, p, h => by
    rw [List.foldl_cons]
    have : come1 m p r = p := by unfold come1; rw [if_neg (h r (by simp))]
    rw [this]
    exact come_skip (fun a ha => h a (by simp [ha]))
theorem rai_come {m : Int} : ∀ {t : RL} {p : List Bool}, t.Pairwise (fun a b => a.1 ≤ b.1) → (∀ r ∈ t, m ≤ r.1) → rai m p t = (t.foldl (come1 m) p, t.filter (fun r => decide (m + 1 ≤ r.1)))
  | [], _, _, _ => rfl
  | r :: t, p, h, hm => by
    obtain ⟨h1, h2⟩ := List.pairwise_cons.1 h
    have hr := hm r (by simp)
    unfold rai
    by_cases hc : r.1 ≤ m
    · rw [if_pos hc, rai_come h2 (fun a ha => hm a (by simp [ha])), List.foldl_cons, List.filter_cons_of_neg (by simp; omega)]
      have : come1 m p r = p.set r.2.toNat true := by unfold come1; rw [if_pos (by omega)]
      rw [this]
    · rw [if_neg hc, come_skip (t := r :: t)]
      · congr 1
        symm
        rw [List.filter_eq_self]
        intro a ha
        rcases List.mem_cons.1 ha with rfl | ha
        · simp; omega
        · have := h1 a ha; simp; omega
      · intro a ha
        rcases List.mem_cons.1 ha with rfl | ha
        · omega
        · have := h1 a ha; omega
theorem come_filter {m : Int} : ∀ {l : RL} {p : List Bool}, (l.filter (fun r => decide (m ≤ r.1))).foldl (come1 m) p = l.foldl (come1 m) p
  | [], _ => rfl
  | r :: t, p => by
    by_cases h : m ≤ r.1
    · rw [List.filter_cons_of_pos (by simpa using h), List.foldl_cons, List.foldl_cons]; exact come_filter
    · rw [List.filter_cons_of_neg (by simpa using h), List.foldl_cons]
      have : come1 m p r = p := by unfold come1; rw [if_neg (by omega)]
      rw [this]; exact come_filter
theorem rai_left {l : RL} {m : Int} {p : List Bool} (h : okR l l.length) : rai m p (left l m) = (come m l p, left l (m + 1)) := by
  have hp := sorted_pw h
  rw [left_filter hp, left_filter hp, rai_come (hp.filter _) (fun r hr => by have := (List.mem_filter.1 hr).2; simpa using this)]
  refine Prod.ext come_filter ?_
  show List.filter _ (List.filter _ l) = _
  rw [List.filter_filter]
  apply List.filter_congr
  intro r _
  rw [Bool.eq_iff_iff]
  simp only [Bool.and_eq_true, decide_eq_true_eq]
  omega
theorem left_zero {l : RL} (h : okR l l.length) : left l 0 = l := by
  rw [left_filter (sorted_pw h), List.filter_eq_self]
  intro r hr
  have := (ok_mem h r hr).2
  simpa using this
theorem left_mem {l : RL} {m : Int} (h : okR l l.length) : ∀ r ∈ left l m, softB r.2 = true := by
  intro r hr
  rw [left_filter (sorted_pw h)] at hr
  exact (ok_mem h r (List.mem_filter.1 hr).1).1
theorem rai_done {n : Int} {p : List Bool} {t : RL} (h : t = [] ∨ ¬ (t.getD 0 (0, 0)).1 ≤ n) : rai n p t = (p, t) := by
  cases t with
  | nil => rfl
  | cons r t =>
    rcases h with h | h
    · cases h
    · have h : ¬ r.1 ≤ n := h
      unfold rai; rw [if_neg h]
theorem rai_step {n : Int} {p : List Bool} {t : RL} (h0 : 0 < (t.length : Int)) (h : (t.getD 0 (0, 0)).1 ≤ n) : rai n (p.set (t.getD 0 (0, 0)).2.toNat true) (t.drop 1) = rai n p t := by
  cases t with
  | nil => simp at h0
  | cons r t => 
    have h : r.1 ≤ n := h
    conv => rhs; unfold rai
    rw [if_pos h]; rfl
/- How much is left to be done. -/
theorem count_set {p : List Bool} {i : Nat} : (p.set i true).count true ≤ p.count true + 1 := by
  induction p generalizing i with
  | nil => simp
  | cons b p ih =>
    cases i with
    | zero => cases b <;> simp
    | succ i => have := ih (i := i); cases b <;> simp <;> omega
theorem come_count {m : Int} : ∀ {l : RL} {p : List Bool}, (l.foldl (come1 m) p).count true ≤ p.count true + (l.filter (fun r => decide (r.1 = m))).length
  | [], _ => by simp
  | r :: t, p => by
    rw [List.foldl_cons]
    have ih := come_count (m := m) (l := t) (p := come1 m p r)
    by_cases h : r.1 = m
    · rw [List.filter_cons_of_pos (by simpa using h)]
      have h2 : come1 m p r = p.set r.2.toNat true := by unfold come1; rw [if_pos h]
      rw [h2] at ih ⊢
      have := count_set (p := p) (i := r.2.toNat)
      rw [List.length_cons]; omega
    · rw [List.filter_cons_of_neg (by simpa using h)]
      have h2 : come1 m p r = p := by unfold come1; rw [if_neg h]
      rw [h2] at ih ⊢
      exact ih
theorem filter_split {m : Int} : ∀ {l : RL}, (l.filter (fun r => decide (m ≤ r.1))).length = (l.filter (fun r => decide (r.1 = m))).length + (l.filter (fun r => decide (m + 1 ≤ r.1))).length
  | [] => rfl
  | r :: t => by
    have ih := filter_split (m := m) (l := t)
    by_cases h : r.1 = m
    · rw [List.filter_cons_of_pos (by simp; omega), List.filter_cons_of_pos (by simpa using h), List.filter_cons_of_neg (by simp; omega)]
      simp only [List.length_cons]; omega
    · rw [List.filter_cons_of_neg (p := fun (r : Int × Int) => decide (r.1 = m)) (by simpa using h)]
      by_cases h2 : m ≤ r.1
      · rw [List.filter_cons_of_pos (by simpa using h2), List.filter_cons_of_pos (by simp; omega)]
        simp only [List.length_cons]; omega
      · rw [List.filter_cons_of_neg (by simpa using h2), List.filter_cons_of_neg (by simp; omega)]
        exact ih
theorem come_left {l : RL} {m : Int} {p : List Bool} (h : okR l l.length) : (come m l p).count true + (left l (m + 1)).length ≤ p.count true + (left l m).length := by
  have hp := sorted_pw h
  rw [left_filter hp, left_filter hp, filter_split (m := m)]
  have := come_count (m := m) (l := l) (p := p)
  unfold come
  omega
theorem come_len {m : Int} {l : RL} {p : List Bool} : (come m l p).length = p.length := by
  unfold come
  induction l generalizing p with
  | nil => rfl
  | cons r t ih =>
    rw [List.foldl_cons, ih]
    unfold come1; split
    · rw [List.length_set]
    · rfl
theorem pend_len {l : List Int} : (pend l).length = 8 := by
  unfold pend
  suffices h : ∀ p : List Bool, (l.foldl (fun p n => p.set n.toNat true) p).length = p.length by rw [h]; rfl
  induction l with
  | nil => intro p; rfl
  | cons a t ih => intro p; rw [List.foldl_cons, ih, List.length_set]
theorem rnd_succ {l : RL} {now : List Bool} {ran : List Int} {k : Nat} : rnd l now ran (k + 1) = rst l now (rnd l now ran k) k := by
  unfold rnd; rw [List.range_succ, List.foldl_append]; rfl
theorem rnd_len {l : RL} {now : List Bool} {ran : List Int} : ∀ {k : Nat}, (rnd l now ran k).1.length = 8
  | 0 => rfl
  | k + 1 => by
    rw [rnd_succ]
    unfold rst
    split
    · rw [come_len]; exact rnd_len
    · exact rnd_len
theorem drop_count {now : List Bool} {k : Nat} (h : k < now.length) : (now.drop k).count true = (if now.getD k false = true then 1 else 0) + (now.drop (k + 1)).count true := by
  rw [List.drop_eq_getElem_cons h, List.count_cons]
  have : now.getD k false = now[k] := by simp [List.getD, h]
  rw [this]
  cases now[k] <;> simp; omega
/- Of a round: what is left, and what ran. -/
theorem rnd_todo {l : RL} {now : List Bool} {ran : List Int} (h : okR l l.length) (h8 : now.length = 8) : ∀ {k : Nat}, k ≤ 8 →
    (rnd l now ran k).2.length + todo l (rnd l now ran k) + (now.drop k).count true ≤ ran.length + (left l (ran.length + 1)).length + now.count true ∧ (rnd l now ran k).2.length + (now.drop k).count true = ran.length + now.count true
  | 0, _ => by
    unfold todo rnd
    simp [nob]
  | k + 1, hk => by
    have ih := rnd_todo (ran := ran) h h8 (k := k) (by omega)
    rw [drop_count (by omega)] at ih
    rw [rnd_succ]
    unfold rst
    by_cases hc : now.getD k false = true
    · rw [if_pos hc] at ih ⊢
      have hcl := come_left (m := ((rnd l now ran k).2.length + 1 : Int)) (p := (rnd l now ran k).1) h
      unfold todo at ih ⊢
      simp only [List.length_append, List.length_cons, List.length_nil]
      have e : ((((rnd l now ran k).2.length + (0 + 1) : Nat) : Int) + 1) = ((rnd l now ran k).2.length + 1 : Int) + 1 := by omega
      rw [e]
      omega
    · rw [if_neg hc] at ih ⊢
      omega
theorem sst_succ {p : List Int} {l : RL} {n : Nat} : sst p l (n + 1) = rnd l (sst p l n).1 (sst p l n).2 8 := rfl
theorem sst_len {p : List Int} {l : RL} : ∀ {n : Nat}, (sst p l n).1.length = 8
  | 0 => by unfold sst; rw [come_len]; exact pend_len
  | n + 1 => by unfold sst; exact rnd_len
theorem count_le {p : List Bool} : p.count true ≤ p.length := List.count_le_length
theorem sst_todo {p : List Int} {l : RL} (h : okR l l.length) (hl : l.length ≤ 400) : ∀ {n : Nat}, (sst p l n).2.length + todo l (sst p l n) ≤ 408
  | 0 => by
    unfold sst todo
    have h1 := come_left (m := 0) (p := pend p) h
    have h2 := count_le (p := pend p)
    rw [pend_len] at h2
    have h3 : (left l 0).length ≤ l.length := by rw [left_zero h]; exact Nat.le_refl _
    simp only [List.length_nil]
    have e : (((0 : Nat) : Int) + 1) = 0 + 1 := by omega
    rw [e]; omega
  | n + 1 => by
    have ih := sst_todo (p := p) h hl (n := n)
    have h1 := (rnd_todo (now := (sst p l n).1) (ran := (sst p l n).2) h sst_len (k := 8) (Nat.le_refl 8)).1
    have h2 : ((sst p l n).1.drop 8).count true = 0 := by rw [List.drop_of_length_le (by rw [sst_len]; exact Nat.le_refl 8)]; rfl
    unfold todo at ih
    rw [sst_succ]
    omega
theorem count_pos {p : List Bool} (h : p.contains true = true) : 0 < p.count true := by
  rw [List.count_pos_iff]
  simpa using h
theorem going_next {p : List Int} {l : RL} {n : Int} (h : okR l l.length) (h0 : 0 ≤ n) (hg : going p l n) (hc : (sst p l n.toNat).1.contains true = true) : going p l (n + 1) ∧ n < 408 := by
  obtain ⟨g1, g2⟩ := hg
  have e : (n + 1).toNat = n.toNat + 1 := by omega
  have h1 := rnd_todo (now := (sst p l n.toNat).1) (ran := (sst p l n.toNat).2) h sst_len (k := 8) (Nat.le_refl 8)
  have h2 : ((sst p l n.toNat).1.drop 8).count true = 0 := by rw [List.drop_of_length_le (by rw [sst_len]; exact Nat.le_refl 8)]; rfl
  have h3 := count_pos hc
  have h4 : todo l (sst p l n.toNat) = (left l ((sst p l n.toNat).2.length + 1)).length + (sst p l n.toNat).1.count true := rfl
  refine ⟨⟨?_, fun i hi => ?_⟩, by omega⟩
  · rw [e, sst_succ]
    omega
  · by_cases hin : (i : Int) < n
    · exact g2 i hin
    · have : i = n.toNat := by omega
      rw [this]; exact hc
theorem going_zero {p : List Int} {l : RL} (h : okR l l.length) (hl : l.length ≤ 400) : going p l 0 := by
  refine ⟨?_, fun i hi => by omega⟩
  have := sst_todo (p := p) h hl (n := 0)
  show (0 : Int) + ((todo l (sst p l 0) : Nat) : Int) ≤ 408
  omega
theorem fin_eq {p : List Int} {l : RL} {n : Int} (h0 : 0 ≤ n) (hg : going p l n) (hc : (sst p l n.toNat).1.contains true = false) : fin p l = n.toNat := by
  unfold fin
  have h1 : n ≤ 408 := by have := hg.1; omega
  have : (List.range 1000).find? (fun n => !((sst p l n).1.contains true)) = some n.toNat := by
    rw [List.find?_range_eq_some]
    refine ⟨by rw [hc]; rfl, by rw [List.mem_range]; omega, fun j hj => ?_⟩
    rw [hg.2 j (by omega)]; rfl
  rw [this]; rfl
theorem pend_next {l : List Int} {k : Int} (h0 : 0 ≤ k) (hk : k < l.length) : pend (l.take (k + 1).toNat) = (pend (l.take k.toNat)).set (l.getD k.toNat 0).toNat true := by
  unfold pend
  exact foldl_takeI (f := fun p n => p.set n.toNat true) (b := nob) 0 h0 hk
theorem getD_mem {α : Type} {l : List α} {k : Int} (d : α) (h0 : 0 ≤ k) (hk : k < l.length) : l.getD k.toNat d ∈ l := by
  have h : k.toNat < l.length := by omega
  simp [List.getD, h]
theorem hd_mem {t : RL} (h : 0 < (t.length : Int)) : ((t.getD 0 (0, 0)).1, (t.getD 0 (0, 0)).2) ∈ t := by
  cases t with
  | nil => simp at h
  | cons a r => simp
theorem ahd_lt {p : List Int} {l : RL} {r N : Int} (h0 : 0 ≤ N) (h : N < r) : ahd p l r (N + 1).toNat = ((sst p l (N + 1).toNat).2.length : Int) := by
  unfold ahd; rw [show min (N + 1).toNat r.toNat = (N + 1).toNat by omega]
theorem ahd_ge {p : List Int} {l : RL} {r N : Int} (h0 : 0 ≤ N) (h : ¬ N < r) : ahd p l r (N + 1).toNat = ahd p l r N.toNat := by
  unfold ahd; rw [show min (N + 1).toNat r.toNat = min N.toNat r.toNat by omega]
theorem run_in {l : List Int} {rs : RL} {n : Int} (h : right l rs = true) (h0 : ¬ n < 0) (h1 : ¬ 400 < n) : run l rs n = ((sst l rs (fin l rs)).2, ahd l rs n (fin l rs), 0, ()) := by
  unfold run; rw [if_neg (by rw [h]; simp), if_neg (by omega)]
theorem e_run (x : List Int × List (Int × Int) × Int × Unit) (_ : True) (hl : LensL cRun.as x) : E_run x := by
  obtain ⟨l, rs, n, u⟩ := x
  have hlen : l.length ≤ 9223372036854775807 := hl.1.1
  clear hl
  unfold E_run
  simp only [Bool.not_eq_true', Bool.not_eq_false', Bool.not_eq_true, Bool.not_eq_false, beq_self_eq_true, decide_eq_true_eq, decide_eq_false_iff_not, Bool.not_false, Bool.not_true, beq_iff_eq, beq_eq_false_iff_ne, bne_iff_ne, ne_eq, bne_eq_false_iff_eq, holds_iff, true_and, and_true, and_self, eq_self, List.length_cons, List.length_nil, List.length_append, List.length_set, List.length_replicate, List.set_cons_zero, cond_true, cond_false, Bool.false_eq_true, Bool.true_eq_false, forall_const, false_imp_iff, imp_self, implies_true, and_imp, Decidable.not_not, Bool.and_eq_true, Bool.or_eq_true, Bool.and_eq_false_iff, Bool.or_eq_false_iff, ← List.length_eq_zero_iff, or_self, or_false, false_or, Prod.forall, Int.reduceEq, Int.reduceLT, Int.reduceLE, List.nil_append, Nat.zero_add, Int.toNat_zero, List.drop_zero, List.length_drop, List.length_take, not_true_eq_false, not_false_eq_true,  pair_eta, app_f, take_all, toNat1]
  refine ⟨fun h => by unfold run; rw [if_pos h]; exact ⟨rfl, rfl, rfl⟩, fun hr => ⟨fun h => by unfold run; rw [if_neg (by rw [hr]; simp), if_pos h]; exact ⟨rfl, rfl, rfl⟩, fun n0 n1 => ?_⟩⟩
  have hR := right_iff.1 hr
  obtain ⟨hP, hO, hL⟩ := id hR
  refine ⟨⟨by omega, rfl, hR, by omega, by omega⟩, ?_⟩
  intro p k k0 k1 hp _ _ _ h8 _ _
  refine ⟨fun k2 => ?_, fun k2 => ?_⟩
  · have hs := softB_iff.1 (hP _ (getD_mem 0 k0 k2))
    exact ⟨⟨k0, k2⟩, by omega, by omega, ⟨by omega, by omega, by rw [hp, pend_next k0 k2], hR, by omega, by omega⟩, by omega⟩
  rw [takeI_all (by omega)] at hp
  refine ⟨fun a b hm => (ok_mem hO _ hm).1, ?_⟩
  intro q t hrai0 hsoft _ _ _
  have hrai0 : rai 0 q t = rai 0 p rs := hrai0
  have hrl := rai_left (l := rs) (m := 0) (p := p) hO
  rw [left_zero hO] at hrl
  have hrai : rai 0 q t = (come 0 rs (pend l), left rs (0 + 1)) := by rw [← hp]; exact hrai0.trans hrl
  have main : (q, t) = (come 0 rs (pend l), left rs (0 + 1)) → q = come 0 rs (pend l) ∧ t = left rs (0 + 1) := fun h => by
    simp only [Prod.mk.injEq] at h; exact h
  refine ⟨fun hpos => ⟨hpos, fun hle => ⟨hpos, by have := softB_iff.1 (hsoft _ _ (hd_mem hpos)); omega, by omega, ⟨?_, fun a b hm => hsoft a b (List.mem_of_mem_drop hm)⟩, by omega⟩, fun hle => ?_⟩, fun hz => ?_⟩
  · have h1 : rai 0 (q.set (t.getD 0 (0, 0)).2.toNat true) (t.drop 1) = rai 0 q t := rai_step hpos hle
    exact h1.trans hrai0
  · have hd := main ((rai_done (.inr hle)).symm.trans hrai)
    clear hrai main hsoft
    obtain ⟨hq, ht⟩ := hd
    refine ⟨⟨hR, by omega, by rw [hq]; rfl, ht, rfl, going_zero hO hL⟩, ?_⟩
    clear hq ht hrl hp h8
    intro a t2 b A N N0 _ _ _ hs ht2 hA hg _ _ _ hbl _ _ _ _ _
    have hsb : sst l rs N.toNat = (a, b) := hs.symm
    have htot := sst_todo (p := l) hO hL (n := N.toNat)
    have ha8 := sst_len (p := l) (l := rs) (n := N.toNat)
    rw [hsb] at htot ha8
    have htot : b.length + todo rs (a, b) ≤ 408 := htot
    have ha8 : a.length = 8 := ha8
    refine ⟨fun hc => ⟨⟨rfl, ht2⟩, ?_⟩, fun hc => ?_⟩
    · intro p1 t3 c i i0 i8 hrn ht3 _ _ _ _ _ _ _
      have hrt := rnd_todo (now := a) (ran := b) (k := i.toNat) hO ha8 (by omega)
      rw [← hrn] at hrt
      have hcb : c.length ≤ b.length + 8 := by
        have h1 := hrt.2
        have h2 := count_le (p := a)
        have h3 : (p1, c).2.length = c.length := rfl
        omega
      refine ⟨fun ilt => ⟨by omega, fun hk => ⟨by omega, by rw [ht3]; exact fun a b hm => left_mem hO _ hm, ?_⟩, fun hk => ⟨by omega, ⟨by omega, by omega, ?_, ht3⟩, by omega⟩⟩, fun ige => ?_⟩
      · intro p2 t4 hrai hsoft _ _ _
        have hrl := rai_left (l := rs) (m := (c.length + 1 : Int)) (p := p1) hO
        rw [← ht3] at hrl
        have hcc : ((c.length + 1 : Nat) : Int) = (c.length + 1 : Int) := by omega
        rw [hcc] at hrai ⊢
        have hrai1 := hrai
        have hrai := hrai.trans hrl
        have main : (p2, t4) = (come (c.length + 1 : Int) rs p1, left rs ((c.length + 1 : Int) + 1)) → p2 = come (c.length + 1 : Int) rs p1 ∧ t4 = left rs ((c.length + 1 : Int) + 1) := fun h => by
          simp only [Prod.mk.injEq] at h; exact h
        have hfin : (come (c.length + 1 : Int) rs p1, c ++ [i]) = rnd rs a b (i + 1).toNat := by
          rw [show (i + 1).toNat = i.toNat + 1 by omega, rnd_succ, ← hrn]
          unfold rst
          rw [if_pos hk]
          show _ = (come _ _ _, c ++ [(i.toNat : Int)])
          rw [show (i.toNat : Int) = i by omega]
        refine ⟨fun hpos => ⟨hpos, fun hle => ⟨hpos, by have := softB_iff.1 (hsoft _ _ (hd_mem hpos)); omega, by omega, ⟨?_, fun a b hm => hsoft a b (List.mem_of_mem_drop hm)⟩, by omega⟩, fun hle => ?_⟩, fun hz => ?_⟩
        · exact (rai_step hpos hle).trans hrai1
        · obtain ⟨e1, e2⟩ := main ((rai_done (.inr hle)).symm.trans hrai)
          exact ⟨by omega, ⟨by omega, by omega, by rw [e1]; exact hfin, e2⟩, by omega⟩
        · obtain ⟨e1, e2⟩ := main ((rai_done (.inl (List.length_eq_zero_iff.1 (by omega)))).symm.trans hrai)
          exact ⟨by omega, ⟨by omega, by omega, by rw [e1]; exact hfin, e2⟩, by omega⟩
      · rw [show (i + 1).toNat = i.toNat + 1 by omega, rnd_succ, ← hrn]
        unfold rst
        rw [if_neg (by rw [hk]; simp)]
      · have hi : i.toNat = 8 := by omega
        rw [hi] at hrn
        have hnext : (p1, c) = sst l rs (N + 1).toNat := by
          rw [show (N + 1).toNat = N.toNat + 1 by omega, sst_succ, hsb]; exact hrn
        obtain ⟨g1, g2⟩ := going_next hO N0 hg (by rw [hsb]; exact hc)
        refine ⟨fun hn => ⟨by omega, ⟨by omega, hR, by omega, hnext, ht3, ?_, g1⟩, by omega⟩, fun hn => ⟨by omega, ⟨by omega, hR, by omega, hnext, ht3, ?_, g1⟩, by omega⟩⟩
        · rw [ahd_lt N0 hn, ← hnext]
        · rw [ahd_ge N0 hn]; exact hA
    · have hf := fin_eq N0 hg (by rw [hsb]; exact hc)
      rw [run_in hr n0 n1, hf, hsb]
      exact ⟨rfl, hA, rfl⟩
  · have hd := main ((rai_done (.inl (List.length_eq_zero_iff.1 (by omega)))).symm.trans hrai)
    clear hrai main hsoft
    obtain ⟨hq, ht⟩ := hd
    refine ⟨⟨hR, by omega, by rw [hq]; rfl, ht, rfl, going_zero hO hL⟩, ?_⟩
    clear hq ht hrl hp h8
    intro a t2 b A N N0 _ _ _ hs ht2 hA hg _ _ _ hbl _ _ _ _ _
    have hsb : sst l rs N.toNat = (a, b) := hs.symm
    have htot := sst_todo (p := l) hO hL (n := N.toNat)
    have ha8 := sst_len (p := l) (l := rs) (n := N.toNat)
    rw [hsb] at htot ha8
    have htot : b.length + todo rs (a, b) ≤ 408 := htot
    have ha8 : a.length = 8 := ha8
    refine ⟨fun hc => ⟨⟨rfl, ht2⟩, ?_⟩, fun hc => ?_⟩
    · intro p1 t3 c i i0 i8 hrn ht3 _ _ _ _ _ _ _
      have hrt := rnd_todo (now := a) (ran := b) (k := i.toNat) hO ha8 (by omega)
      rw [← hrn] at hrt
      have hcb : c.length ≤ b.length + 8 := by
        have h1 := hrt.2
        have h2 := count_le (p := a)
        have h3 : (p1, c).2.length = c.length := rfl
        omega
      refine ⟨fun ilt => ⟨by omega, fun hk => ⟨by omega, by rw [ht3]; exact fun a b hm => left_mem hO _ hm, ?_⟩, fun hk => ⟨by omega, ⟨by omega, by omega, ?_, ht3⟩, by omega⟩⟩, fun ige => ?_⟩
      · intro p2 t4 hrai hsoft _ _ _
        have hrl := rai_left (l := rs) (m := (c.length + 1 : Int)) (p := p1) hO
        rw [← ht3] at hrl
        have hcc : ((c.length + 1 : Nat) : Int) = (c.length + 1 : Int) := by omega
        rw [hcc] at hrai ⊢
        have hrai1 := hrai
        have hrai := hrai.trans hrl
        have main : (p2, t4) = (come (c.length + 1 : Int) rs p1, left rs ((c.length + 1 : Int) + 1)) → p2 = come (c.length + 1 : Int) rs p1 ∧ t4 = left rs ((c.length + 1 : Int) + 1) := fun h => by
          simp only [Prod.mk.injEq] at h; exact h
        have hfin : (come (c.length + 1 : Int) rs p1, c ++ [i]) = rnd rs a b (i + 1).toNat := by
          rw [show (i + 1).toNat = i.toNat + 1 by omega, rnd_succ, ← hrn]
          unfold rst
          rw [if_pos hk]
          show _ = (come _ _ _, c ++ [(i.toNat : Int)])
          rw [show (i.toNat : Int) = i by omega]
        refine ⟨fun hpos => ⟨hpos, fun hle => ⟨hpos, by have := softB_iff.1 (hsoft _ _ (hd_mem hpos)); omega, by omega, ⟨?_, fun a b hm => hsoft a b (List.mem_of_mem_drop hm)⟩, by omega⟩, fun hle => ?_⟩, fun hz => ?_⟩
        · exact (rai_step hpos hle).trans hrai1
        · obtain ⟨e1, e2⟩ := main ((rai_done (.inr hle)).symm.trans hrai)
          exact ⟨by omega, ⟨by omega, by omega, by rw [e1]; exact hfin, e2⟩, by omega⟩
        · obtain ⟨e1, e2⟩ := main ((rai_done (.inl (List.length_eq_zero_iff.1 (by omega)))).symm.trans hrai)
          exact ⟨by omega, ⟨by omega, by omega, by rw [e1]; exact hfin, e2⟩, by omega⟩
      · rw [show (i + 1).toNat = i.toNat + 1 by omega, rnd_succ, ← hrn]
        unfold rst
        rw [if_neg (by rw [hk]; simp)]
      · have hi : i.toNat = 8 := by omega
        rw [hi] at hrn
        have hnext : (p1, c) = sst l rs (N + 1).toNat := by
          rw [show (N + 1).toNat = N.toNat + 1 by omega, sst_succ, hsb]; exact hrn
        obtain ⟨g1, g2⟩ := going_next hO N0 hg (by rw [hsb]; exact hc)
        refine ⟨fun hn => ⟨by omega, ⟨by omega, hR, by omega, hnext, ht3, ?_, g1⟩, by omega⟩, fun hn => ⟨by omega, ⟨by omega, hR, by omega, hnext, ht3, ?_, g1⟩, by omega⟩⟩
        · rw [ahd_lt N0 hn, ← hnext]
        · rw [ahd_ge N0 hn]; exact hA
    · have hf := fin_eq N0 hg (by rw [hsb]; exact hc)
      rw [run_in hr n0 n1, hf, hsb]
      exact ⟨rfl, hA, rfl⟩
theorem come_next {m : Int} {l : RL} {p : List Bool} {k : Int} (h0 : 0 ≤ k) (hk : k < l.length) : come m (l.take (k + 1).toNat) p = come1 m (come m (l.take k.toNat) p) (l.getD k.toNat (0, 0)) := by
  unfold come
  exact foldl_takeI (f := come1 m) (b := p) (0, 0) h0 hk
theorem e_jrun (x : List Int × List (Int × Int) × Int × Unit) (hp : Right x.1 x.2.1 ∧ x.1.length * 8 ≤ 140737488355328) (_ : LensL cJRun.as x) : E_jrun x := by
  obtain ⟨l, rs, n, u⟩ := x
  obtain ⟨hR, hlen⟩ := hp
  have hlen : l.length * 8 ≤ 140737488355328 := hlen
  obtain ⟨hP, hO, hL⟩ := hR
  have hP : okP l := hP
  have hO : okR rs rs.length := hO
  have hL : rs.length ≤ 400 := hL
  unfold E_jrun
  simp only [Bool.not_eq_true', Bool.not_eq_false', Bool.not_eq_true, Bool.not_eq_false, beq_self_eq_true, decide_eq_true_eq, decide_eq_false_iff_not, Bool.not_false, Bool.not_true, beq_iff_eq, beq_eq_false_iff_ne, bne_iff_ne, ne_eq, bne_eq_false_iff_eq, holds_iff, true_and, and_true, and_self, eq_self, List.length_cons, List.length_nil, List.length_append, List.length_set, List.length_replicate, List.set_cons_zero, cond_true, cond_false, Bool.false_eq_true, Bool.true_eq_false, forall_const, false_imp_iff, imp_self, implies_true, and_imp, Decidable.not_not, Bool.and_eq_true, Bool.or_eq_true, Bool.and_eq_false_iff, Bool.or_eq_false_iff, ← List.length_eq_zero_iff, or_self, or_false, false_or, Prod.forall, Int.reduceEq, Int.reduceLT, Int.reduceLE, List.nil_append, Nat.zero_add, Int.toNat_zero, List.drop_zero, List.length_drop, List.length_take, not_true_eq_false, not_false_eq_true,  pair_eta, Int.ofNat_eq_natCast]
  refine ⟨⟨by omega, MR_nil, by omega⟩, ?_⟩
  intro m k k0 k1 hm hml _ _ _
  refine ⟨fun k2 => ?_, fun k2 => ?_⟩
  · have hs := softB_iff.1 (hP _ (getD_mem 0 k0 k2))
    have h1 := mput_len (m := m) (k := l.getD k.toNat 0) (v := true)
    exact ⟨⟨k0, k2⟩, by omega, ⟨by omega, by omega, by rw [pend_next k0 k2]; exact MR_put hm hs.1 hs.2, by omega⟩, by omega⟩
  rw [takeI_all (by omega)] at hm
  refine ⟨⟨by omega, fun p h => h, by omega⟩, ?_⟩
  intro m2 i i0 i1 hm2 hml2 _ _ _
  refine ⟨fun i2 => ⟨⟨i0, i2⟩, fun hc => ?_, fun hc => ?_⟩, fun i2 => ?_⟩
  · have hs := softB_iff.1 (ok_mem hO _ (getD_mem (0, 0) i0 i2)).1
    have h1 := mput_len (m := m2) (k := (rs.getD i.toNat (0, 0)).2) (v := true)
    refine ⟨by omega, ⟨by omega, by omega, fun p h => ?_, by omega⟩, by omega⟩
    rw [come_next i0 i2]
    unfold come1; rw [if_pos hc]
    exact MR_put (hm2 p h) hs.1 hs.2
  · refine ⟨by omega, ⟨by omega, by omega, fun p h => ?_, by omega⟩, by omega⟩
    rw [come_next i0 i2]
    unfold come1; rw [if_neg hc]
    exact hm2 p h
  · rw [takeI_all (by omega)] at hm2
    refine ⟨⟨hm2 _ hm, rfl, rfl, going_zero hO hL, by omega⟩, ?_⟩
    clear hm2 hm
    intro m3 r A N N0 hm hr hA hg hml3 _ _ _ _ _ _ _
    have htot := sst_todo (p := l) hO hL (n := N.toNat)
    have ha8 := sst_len (p := l) (l := rs) (n := N.toNat)
    have hhas := MR_has hm
    refine ⟨by omega, fun hc => ⟨⟨⟨nob, MR_nil, by rw [hr]; rfl⟩, by omega⟩, ?_⟩, fun hc => ?_⟩
    · intro c m4 j j0 j8 hex hml4 _ _ _ _ _
      obtain ⟨p, hmp, hrn⟩ := hex
      have hrt := rnd_todo (now := (sst l rs N.toNat).1) (ran := (sst l rs N.toNat).2) (k := j.toNat) hO ha8 (by omega)
      rw [← hrn] at hrt
      have hcb : c.length ≤ (sst l rs N.toNat).2.length + 8 := by
        have h1 := hrt.2
        have h2 := count_le (p := (sst l rs N.toNat).1)
        have h3 : (p, c).2.length = c.length := rfl
        omega
      refine ⟨fun jlt => ⟨fun hk => ⟨by omega, ⟨by omega, fun p h => h, by omega⟩, ?_⟩, fun hk => ⟨by omega, ⟨by omega, by omega, ⟨p, hmp, ?_⟩, by omega⟩, by omega⟩⟩, fun jge => ?_⟩
      · intro m5 i i0 i1 hm5 hml5 _ _ _
        refine ⟨fun i2 => ⟨⟨i0, i2⟩, fun hc => ?_, fun hc => ?_⟩, fun i2 => ?_⟩
        · have hs := softB_iff.1 (ok_mem hO _ (getD_mem (0, 0) i0 i2)).1
          have h1 := mput_len (m := m5) (k := (rs.getD i.toNat (0, 0)).2) (v := true)
          refine ⟨by omega, ⟨by omega, by omega, fun p h => ?_, by omega⟩, by omega⟩
          rw [come_next i0 i2]
          unfold come1; rw [if_pos hc]
          exact MR_put (hm5 p h) hs.1 hs.2
        · refine ⟨by omega, ⟨by omega, by omega, fun p h => ?_, by omega⟩, by omega⟩
          rw [come_next i0 i2]
          unfold come1; rw [if_neg hc]
          exact hm5 p h
        · rw [takeI_all (by omega)] at hm5
          refine ⟨by omega, ⟨by omega, by omega, ⟨come ((c.length + 1 : Nat) : Int) rs p, hm5 p hmp, ?_⟩, by omega⟩, by omega⟩
          rw [show ((c.length + 1 : Nat) : Int) = (c.length + 1 : Int) by omega]
          rw [show (j + 1).toNat = j.toNat + 1 by omega, rnd_succ, ← hrn]
          unfold rst
          have hv := MR_val hm j0 jlt
          rw [hk] at hv
          rw [if_pos hv.symm]
          show _ = (come _ _ _, c ++ [(j.toNat : Int)])
          rw [show (j.toNat : Int) = j by omega]
      · rw [show (j + 1).toNat = j.toNat + 1 by omega, rnd_succ, ← hrn]
        unfold rst
        have hv := MR_val hm j0 jlt
        rw [hk] at hv
        rw [if_neg (by rw [← hv]; simp)]
      · have hj : j.toNat = 8 := by omega
        rw [hj] at hrn
        have hnext : (p, c) = sst l rs (N + 1).toNat := by
          rw [show (N + 1).toNat = N.toNat + 1 by omega, sst_succ]; exact hrn
        obtain ⟨g1, g2⟩ := going_next hO N0 hg (by rw [hhas]; simpa using hc)
        refine ⟨fun hn => ⟨by omega, ⟨by omega, by rw [← hnext]; exact hmp, by rw [← hnext], ?_, g1, by omega⟩, by omega⟩, fun hn => ⟨by omega, ⟨by omega, by rw [← hnext]; exact hmp, by rw [← hnext], ?_, g1, by omega⟩, by omega⟩⟩
        · rw [ahd_lt N0 hn, ← hnext]
        · rw [ahd_ge N0 hn]; exact hA
    · have hf := fin_eq N0 hg (by rw [hhas]; simpa using hc)
      rw [hf]
      exact ⟨hr, hA⟩
theorem e_soft (x : Int × Unit) (_ : True) (_ : LensL cSoft.as x) : E_soft x := by
  obtain ⟨n, u⟩ := x
  unfold E_soft softB
  simp only [Bool.not_eq_true', Bool.not_eq_false', Bool.not_eq_true, Bool.not_eq_false, beq_self_eq_true, decide_eq_true_eq, decide_eq_false_iff_not, Bool.not_false, Bool.not_true, beq_iff_eq, beq_eq_false_iff_ne, bne_iff_ne, ne_eq, bne_eq_false_iff_eq, holds_iff, true_and, and_true, and_self, eq_self, List.length_cons, List.length_nil, List.length_append, List.length_set, List.length_replicate, List.set_cons_zero, cond_true, cond_false, Bool.false_eq_true, Bool.true_eq_false, forall_const, false_imp_iff, imp_self, implies_true, and_imp, Decidable.not_not, Bool.and_eq_true, Bool.or_eq_true, Bool.and_eq_false_iff, Bool.or_eq_false_iff, ← List.length_eq_zero_iff, or_self, or_false, false_or, Prod.forall, Int.reduceEq, Int.reduceLT, Int.reduceLE, List.nil_append, Nat.zero_add, Int.toNat_zero, List.drop_zero, List.length_drop, List.length_take, not_true_eq_false, not_false_eq_true]
  try simp only [flip_f, flip_t, decide_eq_true_eq, decide_eq_false_iff_not]
  first | done | rfl | (((try rw [Bool.eq_iff_iff]); (try simp only [eq_self, natlit_lt, natlit_le, lit_lt, lit_le, natlit_eq, Bool.and_eq_true, Bool.or_eq_true, Bool.and_eq_false_iff, Bool.or_eq_false_iff, Bool.not_eq_true', Bool.not_eq_false', Bool.not_eq_true, Bool.not_eq_false, decide_eq_true_eq, decide_eq_false_iff_not, beq_iff_eq, beq_eq_false_iff_ne, bne_iff_ne, ne_eq, bne_eq_false_iff_eq, Decidable.not_not, Bool.false_eq_true, Bool.true_eq_false]); (try simp only [flip_f, flip_t]); (try simp only [eq_self, natlit_lt, natlit_le, lit_lt, lit_le, natlit_eq, Bool.and_eq_true, Bool.or_eq_true, Bool.and_eq_false_iff, Bool.or_eq_false_iff, Bool.not_eq_true', Bool.not_eq_false', Bool.not_eq_true, Bool.not_eq_false, decide_eq_true_eq, decide_eq_false_iff_not, beq_iff_eq, beq_eq_false_iff_ne, bne_iff_ne, ne_eq, bne_eq_false_iff_eq, Decidable.not_not, Bool.false_eq_true, Bool.true_eq_false]); (try first | omega | grind)))
theorem e_equal (x : List Int × List Int × Unit) (_ : True) (hl : LensL cEqual.as x) : E_equal x := by
  obtain ⟨xs, ys, u⟩ := x
  have hlx : xs.length ≤ 9223372036854775807 := hl.1.1
  unfold E_equal
  simp only [Bool.not_eq_true', Bool.not_eq_false', Bool.not_eq_true, Bool.not_eq_false, beq_self_eq_true, decide_eq_true_eq, decide_eq_false_iff_not, Bool.not_false, Bool.not_true, beq_iff_eq, beq_eq_false_iff_ne, bne_iff_ne, ne_eq, bne_eq_false_iff_eq, holds_iff, true_and, and_true, and_self, eq_self, List.length_cons, List.length_nil, List.length_append, List.length_set, List.length_replicate, List.set_cons_zero, cond_true, cond_false, Bool.false_eq_true, Bool.true_eq_false, forall_const, false_imp_iff, imp_self, implies_true, and_imp, Decidable.not_not, Bool.and_eq_true, Bool.or_eq_true, Bool.and_eq_false_iff, Bool.or_eq_false_iff, ← List.length_eq_zero_iff, or_self, or_false, false_or, Prod.forall, Int.reduceEq, Int.reduceLT, Int.reduceLE, List.nil_append, Nat.zero_add, Int.toNat_zero, List.drop_zero, List.length_drop, List.length_take, not_true_eq_false, not_false_eq_true]
  try simp only [flip_f, flip_t, decide_eq_true_eq, decide_eq_false_iff_not]
  repeat' (first | with_reducible apply And.intro | with_reducible intro _)
  all_goals try omega
  all_goals grind [takeI_succ, takeI_all]
theorem idx_at : ∀ {l : List Bool} {k : Nat}, k < l.length → (l.take k).contains true = false → l.getD k false = true → l.idxOf? true = some k
  | [], k, h, _, _ => by simp at h
  | b :: l, 0, _, _, h2 => by
    have : b = true := h2
    simp [List.idxOf?, List.findIdx?_cons, this]
  | b :: l, k + 1, h, h1, h2 => by
    have hb : b = false := by
      cases b with
      | false => rfl
      | true => simp at h1
    subst hb
    have ih := idx_at (l := l) (k := k) (by simpa using h) (by simpa using h1) h2
    simp only [List.idxOf?] at ih ⊢
    rw [List.findIdx?_cons, ih]; rfl
theorem idx_none {l : List Bool} (h : l.contains true = false) : l.idxOf? true = none := by
  rw [List.idxOf?_eq_none_iff]
  intro hm
  have : l.contains true = true := by simpa using hm
  rw [h] at this; cases this
theorem idx_some {l : List Bool} (h : l.contains true = true) : ∃ i, l.idxOf? true = some i := by
  cases hi : l.idxOf? true with
  | some i => exact ⟨i, rfl⟩
  | none =>
    rw [List.idxOf?_eq_none_iff] at hi
    exact absurd (by simpa using h) hi
theorem has_snoc {l : List Bool} {b : Bool} : (l ++ [b]).contains true = (l.contains true || b) := by
  rw [List.contains_eq_any_beq, List.contains_eq_any_beq, List.any_append]
  cases b <;> simp
theorem e_index (x : List Bool × Bool × Unit) (hp : x.2.1 = true) (hl : LensL cIndex.as x) : E_index x := by
  obtain ⟨l, b, u⟩ := x
  have hp : b = true := hp
  subst hp
  have hlen : l.length ≤ 9223372036854775807 := hl.1.1
  unfold E_index
  simp only [Bool.not_eq_true', Bool.not_eq_false', Bool.not_eq_true, Bool.not_eq_false, beq_self_eq_true, decide_eq_true_eq, decide_eq_false_iff_not, Bool.not_false, Bool.not_true, beq_iff_eq, beq_eq_false_iff_ne, bne_iff_ne, ne_eq, bne_eq_false_iff_eq, holds_iff, true_and, and_true, and_self, eq_self, List.length_cons, List.length_nil, List.length_append, List.length_set, List.length_replicate, List.set_cons_zero, cond_true, cond_false, Bool.false_eq_true, Bool.true_eq_false, forall_const, false_imp_iff, imp_self, implies_true, and_imp, Decidable.not_not, Bool.and_eq_true, Bool.or_eq_true, Bool.and_eq_false_iff, Bool.or_eq_false_iff, ← List.length_eq_zero_iff, or_self, or_false, false_or, Prod.forall, Int.reduceEq, Int.reduceLT, Int.reduceLE, List.nil_append, Nat.zero_add, Int.toNat_zero, List.drop_zero, List.length_drop, List.length_take, not_true_eq_false, not_false_eq_true]
  try simp only [flip_f, flip_t, decide_eq_true_eq, decide_eq_false_iff_not]
  refine ⟨⟨by omega, rfl⟩, ?_⟩
  intro k k0 k1 hn _ _
  refine ⟨fun k2 => ⟨⟨k0, k2⟩, fun h => ?_, fun h => ?_⟩, fun k2 => ?_⟩
  · have hg : l.getD k.toNat false = true := by first | exact h | exact h.symm | (simpa using h)
    rw [idx_at (by omega) hn hg]; simp; omega
  · have hg : l.getD k.toNat false = false := by first | exact h | exact h.symm | (simpa using h)
    refine ⟨by omega, ⟨by omega, by omega, ?_⟩, by omega⟩
    rw [takeI_succ false k0 k2, has_snoc, hn, hg]; rfl
  · rw [takeI_all (by omega)] at hn
    rw [idx_none hn]
theorem e_contains (x : List Bool × Bool × Unit) (hp : x.2.1 = true) (hl : LensL cContains.as x) : E_contains x := by
  obtain ⟨l, b, u⟩ := x
  have hp : b = true := hp
  unfold E_contains
  simp only [Bool.not_eq_true', Bool.not_eq_false', Bool.not_eq_true, Bool.not_eq_false, beq_self_eq_true, decide_eq_true_eq, decide_eq_false_iff_not, Bool.not_false, Bool.not_true, beq_iff_eq, beq_eq_false_iff_ne, bne_iff_ne, ne_eq, bne_eq_false_iff_eq, holds_iff, true_and, and_true, and_self, eq_self, List.length_cons, List.length_nil, List.length_append, List.length_set, List.length_replicate, List.set_cons_zero, cond_true, cond_false, Bool.false_eq_true, Bool.true_eq_false, forall_const, false_imp_iff, imp_self, implies_true, and_imp, Decidable.not_not, Bool.and_eq_true, Bool.or_eq_true, Bool.and_eq_false_iff, Bool.or_eq_false_iff, ← List.length_eq_zero_iff, or_self, or_false, false_or, Prod.forall, Int.reduceEq, Int.reduceLT, Int.reduceLE, List.nil_append, Nat.zero_add, Int.toNat_zero, List.drop_zero, List.length_drop, List.length_take, not_true_eq_false, not_false_eq_true]
  try simp only [flip_f, flip_t, decide_eq_true_eq, decide_eq_false_iff_not]
  refine ⟨hp, ?_⟩
  cases hc : l.contains true with
  | false => rw [idx_none hc]; rfl
  | true =>
    obtain ⟨i, hi⟩ := idx_some hc
    rw [hi]; simp
theorem okR_next {l : RL} {k : Int} (h : okR l k) (hk : okAt l k) : okR l (k + 1) := fun i h0 h1 => by
  by_cases e : i < k
  · exact h i h0 e
  · have : i = k := by omega
    rw [this]; exact hk
theorem okP_next {l : List Int} {k : Int} (k0 : 0 ≤ k) (k2 : k < l.length) : okP (l.take (k + 1).toNat) ↔ okP (l.take k.toNat) ∧ softB (l.getD k.toNat 0) = true := by
  rw [takeI_succ 0 k0 k2]
  unfold okP
  constructor
  · intro h; exact ⟨fun n hn => h n (List.mem_append_left _ hn), h _ (by simp)⟩
  · rintro ⟨h1, h2⟩ n hn
    rcases List.mem_append.1 hn with hn | hn
    · exact h1 n hn
    · have : n = l.getD k.toNat 0 := by simpa using hn
      rw [this]; exact h2
theorem right_no {p : List Int} {l : RL} (h : ¬ Right p l) : false = right p l := by
  symm; unfold right; rw [decide_eq_false_iff_not]; exact h
theorem e_right (x : List Int × List (Int × Int) × Unit) (_ : True) (hl : LensL cRight.as x) : E_right x := by
  obtain ⟨l, rs, u⟩ := x
  have hlen : l.length ≤ 9223372036854775807 := hl.1.1
  have hlen2 : rs.length ≤ 9223372036854775807 := hl.2.1.1
  clear hl
  unfold E_right
  simp only [Bool.not_eq_true', Bool.not_eq_false', Bool.not_eq_true, Bool.not_eq_false, beq_self_eq_true, decide_eq_true_eq, decide_eq_false_iff_not, Bool.not_false, Bool.not_true, beq_iff_eq, beq_eq_false_iff_ne, bne_iff_ne, ne_eq, bne_eq_false_iff_eq, holds_iff, true_and, and_true, and_self, eq_self, List.length_cons, List.length_nil, List.length_append, List.length_set, List.length_replicate, List.set_cons_zero, cond_true, cond_false, Bool.false_eq_true, Bool.true_eq_false, forall_const, false_imp_iff, imp_self, implies_true, and_imp, Decidable.not_not, Bool.and_eq_true, Bool.or_eq_true, Bool.and_eq_false_iff, Bool.or_eq_false_iff, ← List.length_eq_zero_iff, or_self, or_false, false_or, Prod.forall, Int.reduceEq, Int.reduceLT, Int.reduceLE, List.nil_append, Nat.zero_add, Int.toNat_zero, List.drop_zero, List.length_drop, List.length_take, not_true_eq_false, not_false_eq_true,  pair_eta]
  refine ⟨⟨by omega, fun n hn => by cases hn⟩, ?_⟩
  intro k k0 k1 hk _ _
  refine ⟨fun k2 => ⟨⟨k0, k2⟩, fun h => right_no fun hR => ?_, fun h => ⟨by omega, ⟨by omega, by omega, (okP_next k0 k2).2 ⟨hk, h⟩⟩, by omega⟩⟩, fun k2 => ?_⟩
  · have := hR.1 _ (getD_mem 0 k0 k2); rw [h] at this; cases this
  rw [takeI_all (by omega)] at hk
  refine ⟨⟨by omega, hk, fun i h0 h1 => by omega⟩, ?_⟩
  intro j j0 j1 _ hj _ _
  have hrz : ∀ i : Int, rs.getD i.toNat (0, 0) = rz rs i := fun _ => rfl
  simp only [hrz]
  refine ⟨fun j2 => ⟨⟨j0, j2⟩, fun hs => ⟨fun h0 => ⟨fun h4 => ⟨fun hp => ⟨by omega, by omega, fun hlt => right_no fun hR => ?_, fun hlt => ⟨by omega, ⟨by omega, by omega, hk, okR_next hj ⟨hs, ⟨by omega, by omega⟩, fun _ => by omega⟩⟩, by omega⟩⟩, fun hp => ⟨by omega, ⟨by omega, by omega, hk, okR_next hj ⟨hs, ⟨by omega, by omega⟩, fun h => absurd h hp⟩⟩, by omega⟩⟩, fun h4 => right_no fun hR => ?_⟩, fun h0 => right_no fun hR => ?_⟩, fun hs => right_no fun hR => ?_⟩, fun j2 => ?_⟩
  · have := (hR.2.1 j j0 j2).2.2 hp
    omega
  · have := (hR.2.1 j j0 j2).2.1.2
    omega
  · have := (hR.2.1 j j0 j2).2.1.1
    omega
  · have := (hR.2.1 j j0 j2).1
    rw [hs] at this; cases this
  · have hj2 : j = rs.length := by omega
    rw [hj2] at hj
    unfold right Right
    rw [decide_eq_decide]
    exact ⟨fun h => ⟨hk, hj, by omega⟩, fun h => by have := h.2.2; omega⟩
theorem e_jright (x : List Int × List (Int × Int) × Unit) (_ : True) (hl : LensL cRight.as x) : E_jright x := by
  obtain ⟨l, rs, u⟩ := x
  have hlen : l.length ≤ 9223372036854775807 := hl.1.1
  have hlen2 : rs.length ≤ 9223372036854775807 := hl.2.1.1
  clear hl
  unfold E_jright
  simp only [Bool.not_eq_true', Bool.not_eq_false', Bool.not_eq_true, Bool.not_eq_false, beq_self_eq_true, decide_eq_true_eq, decide_eq_false_iff_not, Bool.not_false, Bool.not_true, beq_iff_eq, beq_eq_false_iff_ne, bne_iff_ne, ne_eq, bne_eq_false_iff_eq, holds_iff, true_and, and_true, and_self, eq_self, List.length_cons, List.length_nil, List.length_append, List.length_set, List.length_replicate, List.set_cons_zero, cond_true, cond_false, Bool.false_eq_true, Bool.true_eq_false, forall_const, false_imp_iff, imp_self, implies_true, and_imp, Decidable.not_not, Bool.and_eq_true, Bool.or_eq_true, Bool.and_eq_false_iff, Bool.or_eq_false_iff, ← List.length_eq_zero_iff, or_self, or_false, false_or, Prod.forall, Int.reduceEq, Int.reduceLT, Int.reduceLE, List.nil_append, Nat.zero_add, Int.toNat_zero, List.drop_zero, List.length_drop, List.length_take, not_true_eq_false, not_false_eq_true,  pair_eta]
  refine ⟨⟨by omega, ?_⟩, ?_⟩
  · unfold pendTo; rw [decide_eq_decide]
    exact ⟨fun h => ⟨by omega, fun n hn => by cases hn⟩, fun h => by omega⟩
  intro b k u1 k0 k1 hb _ _
  refine ⟨fun k2 => ⟨⟨k0, k2⟩, by omega, ⟨by omega, by omega, ?_⟩, by omega⟩, fun k2 => ?_⟩
  · rw [hb]; unfold pendTo
    rw [Bool.eq_iff_iff]
    simp only [Bool.and_eq_true, decide_eq_true_eq]
    rw [okP_next k0 k2, softB_iff]
    exact ⟨fun h => ⟨h.1.1.1, h.1.1.2, h.1.2, h.2⟩, fun h => ⟨⟨⟨h.1, h.2.1⟩, h.2.2.1⟩, h.2.2.2⟩⟩
  refine ⟨⟨by omega, ?_, by simp⟩, ?_⟩
  · rw [hb]; unfold pendTo rightTo; rw [takeI_all (by omega), decide_eq_decide]
    exact ⟨fun h => ⟨h.1, h.2, fun i h0 h1 => by omega⟩, fun h => ⟨h.1, h.2.1⟩⟩
  intro b2 v j u2 j0 j1 hb2 hv _ _ _ _
  refine ⟨fun j2 => ⟨⟨j0, j2⟩, by omega, ⟨by omega, by omega, ?_, ?_⟩, by omega⟩, fun j2 => ?_⟩
  · rw [hb2]; unfold rightTo
    rw [Bool.eq_iff_iff]
    simp only [Bool.and_eq_true, decide_eq_true_eq]
    have hrz : rs.getD j.toNat (0, 0) = rz rs j := rfl
    rw [hrz]
    constructor
    · rintro ⟨⟨⟨⟨⟨h1, h2, h3⟩, h4⟩, h5⟩, h6⟩, h7⟩
      refine ⟨h1, h2, okR_next h3 ⟨softB_iff.2 ⟨h4, h5⟩, ⟨?_, h7⟩, fun hp => ?_⟩⟩
      · by_cases e : j = 0
        · rw [if_pos e] at hv; omega
        · rw [if_neg e] at hv
          have := (h3 (j - 1) (by omega) (by omega)).2.1.1
          omega
      · rw [if_neg (by omega)] at hv; omega
    · rintro ⟨h1, h2, h3⟩
      have hk := h3 j j0 (by omega)
      have hs := softB_iff.1 hk.1
      refine ⟨⟨⟨⟨⟨h1, h2, fun i h0 h4 => h3 i h0 (by omega)⟩, hs.1⟩, hs.2⟩, ?_⟩, hk.2.1.2⟩
      by_cases e : j = 0
      · rw [if_pos e] at hv; have := hk.2.1.1; omega
      · rw [if_neg e] at hv; have := hk.2.2 (by omega); omega
  · rw [if_neg (by omega), show j + 1 - 1 = j by omega]; rfl
  · have hj2 : j = rs.length := by omega
    rw [hb2, hj2]
    unfold rightTo right Right; rw [decide_eq_decide]
    exact ⟨fun h => ⟨h.2.1, h.2.2, h.1⟩, fun h => ⟨h.2.2, h.1, h.2.1⟩⟩
theorem e_softs (x : List Int × List (Int × Int) × Int × Unit) (hp : x.1.length * 8 ≤ 140737488355328) (hl : LensL cLaw.as x) : E_softs x := by
  clear hl
  obtain ⟨l, rs, n, u⟩ := x
  unfold E_softs
  simp only [Bool.not_eq_true', Bool.not_eq_false', Bool.not_eq_true, Bool.not_eq_false, beq_self_eq_true, decide_eq_true_eq, decide_eq_false_iff_not, Bool.not_false, Bool.not_true, beq_iff_eq, beq_eq_false_iff_ne, bne_iff_ne, ne_eq, bne_eq_false_iff_eq, holds_iff, true_and, and_true, and_self, eq_self, List.length_cons, List.length_nil, List.length_append, List.length_set, List.length_replicate, List.set_cons_zero, cond_true, cond_false, Bool.false_eq_true, Bool.true_eq_false, forall_const, false_imp_iff, imp_self, implies_true, and_imp, Decidable.not_not, Bool.and_eq_true, Bool.or_eq_true, Bool.and_eq_false_iff, Bool.or_eq_false_iff, ← List.length_eq_zero_iff, or_self, or_false, false_or, Prod.forall, Int.reduceEq, Int.reduceLT, Int.reduceLE, List.nil_append, Nat.zero_add, Int.toNat_zero, List.drop_zero, List.length_drop, List.length_take, not_true_eq_false, not_false_eq_true,  deq_iff, deq_false, pair_eta]
  refine ⟨fun h => ?_, fun h => ⟨fun h2 => ?_, fun h2 h3 => ?_⟩⟩
  · have e : run l rs n = ([], 0, 1, ()) := by unfold run; rw [if_pos h]
    rw [e]; simp
  · have e : run l rs n = ([], 0, 2, ()) := by unfold run; rw [if_neg (by rw [h]; simp), if_pos h2]
    rw [e]; simp
  · rw [run_in h h2 h3]
    simp
    exact ⟨right_iff.1 h, hp⟩
theorem pre_softs (x : HL cLaw.as) (_ : GoodL cLaw.as x) (h : FitL cLaw.as x) : x.1.length * 8 ≤ 140737488355328 := by
  have h1 : x.1.length * 8 ≤ 140737488351232 := h.1.1
  omega

end Go.Proofs.Ytmcepjbbbkgfcaa.Soft
