/-
  CoresRun: who is ready, in order.
-/
import Derived.Test.YtpnmfoojmodnlaaCoresP6
namespace Go.Proofs.Ytpnmfoojmodnlaa.Cores
open Go.Sx
set_option maxRecDepth 100000
set_option maxHeartbeats 1000000
set_option linter.unusedSimpArgs false
set_option linter.unusedVariables false

theorem rdy_succ {l : List Th} {now : Int} {m : PM} {k : Nat} : rdy l now m (k + 1) = rdy l now m k ++ if (th l k).1 ≤ now ∧ 0 < (rec m k).1.2.2 then [(keys m).getD k 0] else [] := by
  unfold rdy
  rw [List.range_succ, List.filter_append, List.map_append]
  congr 1
  rw [List.filter_cons]
  by_cases h : (th l k).1 ≤ now ∧ 0 < (rec m k).1.2.2
  · rw [if_pos h, if_pos (by rw [decide_eq_true h.1, decide_eq_true h.2]; rfl)]; rfl
  · rw [if_neg h, if_neg (by rw [Bool.and_eq_true, decide_eq_true_eq, decide_eq_true_eq]; exact h)]; rfl
theorem rdy_congr {l : List Th} {now : Int} {m m' : PM} {k : Nat} (hk : keys m' = keys m) (hr : ∀ i : Nat, (rec m' i).1 = (rec m i).1) : rdy l now m' k = rdy l now m k := by
  unfold rdy
  rw [hk]
  congr 1
  apply List.filter_congr
  intro i _
  rw [hr i]
theorem rdy_mem {l : List Th} {now : Int} {m : PM} {k : Nat} {a : Int} : a ∈ rdy l now m k ↔ ∃ i : Nat, i < k ∧ (th l i).1 ≤ now ∧ 0 < (rec m i).1.2.2 ∧ (keys m).getD i 0 = a := by
  unfold rdy
  rw [List.mem_map]
  constructor
  · rintro ⟨i, hi, rfl⟩
    rw [List.mem_filter, List.mem_range, Bool.and_eq_true, decide_eq_true_eq, decide_eq_true_eq] at hi
    exact ⟨i, hi.1, hi.2.1, hi.2.2, rfl⟩
  · rintro ⟨i, h1, h2, h3, rfl⟩
    refine ⟨i, ?_, rfl⟩
    rw [List.mem_filter, List.mem_range, Bool.and_eq_true, decide_eq_true_eq, decide_eq_true_eq]
    exact ⟨h1, h2, h3⟩
theorem rdy_len {l : List Th} {now : Int} {m : PM} {k : Nat} : (rdy l now m k).length ≤ k := by
  unfold rdy
  rw [List.length_map]
  have := List.length_filter_le (fun (i : Nat) => decide ((th l (i : Int)).1 ≤ now) && decide (0 < (rec m (i : Int)).1.2.2)) (List.range k)
  simpa using this
theorem rdy_nodup {l : List Th} {now : Int} {m : PM} {k : Nat} (hn : (keys m).Nodup) (hk : k ≤ m.length) : (rdy l now m k).Nodup := by
  unfold rdy List.Nodup
  rw [List.pairwise_map]
  refine List.Pairwise.imp_of_mem ?_ (List.nodup_range.sublist List.filter_sublist)
  intro a b ha hb hab e
  have ha := List.mem_range.1 (List.mem_filter.1 ha).1
  have hb := List.mem_range.1 (List.mem_filter.1 hb).1
  exact hab (al_inj hn (by rw [keys_len]; omega) (by rw [keys_len]; omega) e)
theorem selL_iff {l : List Th} {left line : List Int} {lev y : Int} : y ∈ selL l left line lev ↔ y ∈ line ∧ (th l y).2.1 = lev ∧ 0 < left.getD y.toNat 0 := by
  unfold selL
  rw [List.mem_filter, Bool.and_eq_true, decide_eq_true_eq, decide_eq_true_eq]
theorem pk_iff {l : List Th} {left line : List Int} {y : Int} : ∀ {j : Nat}, y ∈ pk l left line j ↔ y ∈ line ∧ 0 < left.getD y.toNat 0 ∧ (31 - j < (th l y).2.1 ∧ (th l y).2.1 ≤ 31)
  | 0 => by
    constructor
    · intro h; exact (List.not_mem_nil h).elim
    · rintro ⟨_, _, h1, h2⟩
      omega
  | j + 1 => by
    have e : pk l left line (j + 1) = pk l left line j ++ selL l left line (31 - j) := rfl
    rw [e, List.mem_append, pk_iff, selL_iff]
    constructor
    · rintro (⟨h1, h2, h3, h4⟩ | ⟨h1, h2, h3⟩)
      · exact ⟨h1, h2, by omega, by omega⟩
      · exact ⟨h1, h3, by omega, by omega⟩
    · rintro ⟨h1, h2, h3, h4⟩
      by_cases e : (th l y).2.1 = 31 - (j : Int)
      · exact .inr ⟨h1, e, h2⟩
      · exact .inl ⟨h1, h2, by omega, by omega⟩
/- Their order, by level and turn. -/
def ahead (l : List Th) (m : PM) (a b : Int) : Prop := (th l b).2.1 < (th l a).2.1 ∨ ((th l a).2.1 = (th l b).2.1 ∧ (rec m a).2.2.1 < (rec m b).2.2.1)
theorem pk_sorted {l : List Th} {left line : List Int} {m : PM} (hp : line.Pairwise fun a b => (rec m a).2.2.1 < (rec m b).2.2.1) : ∀ (j : Nat), (pk l left line j).Pairwise (ahead l m)
  | 0 => List.Pairwise.nil
  | j + 1 => by
    have e : pk l left line (j + 1) = pk l left line j ++ selL l left line (31 - j) := rfl
    rw [e, List.pairwise_append]
    refine ⟨pk_sorted hp j, ?_, fun a ha b hb => ?_⟩
    · refine List.Pairwise.imp_of_mem ?_ (hp.sublist (show (selL l left line (31 - j)).Sublist line from List.filter_sublist))
      intro a b ha hb hab
      exact .inr ⟨(selL_iff.1 ha).2.1.trans (selL_iff.1 hb).2.1.symm, hab⟩
    · have h1 := (pk_iff.1 ha).2.2
      have h2 := (selL_iff.1 hb).2.1
      exact .inl (by omega)
theorem sort_runs {l : List Th} {sl turn now : Int} {al : List Int} {m : PM} {q : NS} (hl : l.all okT = true) (h : RT l sl turn al m q) (hn : al.Nodup) (hW : WF l now l.length q) :
    sortT m (rdy l now m l.length) = (pk l q.2.1 q.1 32).map (fun y => al.getD y.toNat 0) ∧
    (∀ a ∈ rdy l now m l.length, mhas tythread m a = true) ∧ ∀ a ∈ rdy l now m l.length, ∀ b ∈ rdy l now m l.length, levO m a = levO m b → trnO m a = trnO m b → a = b := by
  have hml := RT_len h
  have hk := h.1.1
  have hkey : ∀ i : Nat, i < l.length → levO m (al.getD i 0) = (th l i).2.1 ∧ trnO m (al.getD i 0) = (rec m i).2.2.1 := fun i hi => by
    have e := (RT_at h hn hi).1
    unfold levO trnO
    rw [e]
    exact ⟨(h.2.2.2.1 i hi).1.2.1, rfl⟩
  have hinl : ∀ i : Nat, i < l.length → (th l i).1 ≤ now → (i : Int) ∈ q.1 := fun i hi hc => by
    rw [hW.2.2.2 i hi]
    by_cases e : (th l i).1 = now
    · exact .inr ⟨e, hi⟩
    · exact .inl (by omega)
  have hwk : ∀ i : Nat, i < l.length → (i : Int) ∈ q.1 → (rec m i).1.2.2 = q.2.1.getD i 0 := fun i hi hm => ((h.2.2.2.1 i hi).2.1 hm).1
  have hord : ∀ a b : Nat, a < l.length → b < l.length → (keyLt m (al.getD a 0) (al.getD b 0) = true ↔ ahead l m a b) := fun a b ha hb => by
    unfold keyLt ahead
    rw [(hkey a ha).1, (hkey a ha).2, (hkey b hb).1, (hkey b hb).2]
    simp
  have hasym : ∀ a b : Int, ahead l m a b → ¬ ahead l m b a := fun a b h1 h2 => by
    unfold ahead at h1 h2
    omega
  have hpk := pk_sorted (l := l) (left := q.2.1) h.2.2.2.2 32
  have hpin : ∀ y ∈ pk l q.2.1 q.1 32, y = ((y.toNat : Nat) : Int) ∧ y.toNat < l.length := fun y hy => by
    have := h.2.1 y (pk_mem hy)
    omega
  refine ⟨?_, fun a ha => ?_, fun a ha b hb e1 e2 => ?_⟩
  · unfold sortT
    refine List.Perm.eq_of_pairwise (le := fun x y => (!keyLt m y x) = true) ?_ ?_ ?_ ((List.mergeSort_perm _ _).trans ?_)
    · intro a b ha hb h1 h2
      have ha := (List.mergeSort_perm _ _).mem_iff.1 ha
      obtain ⟨i, hi, c1, c2, e⟩ := rdy_mem.1 ha
      obtain ⟨y, hy, e'⟩ := List.mem_map.1 hb
      obtain ⟨y1, y2⟩ := hpin y hy
      rw [hk] at e
      subst e; subst e'
      have h1 : ¬ ahead l m y.toNat i := by rw [← hord _ _ y2 hi]; simpa using h1
      have h2 : ¬ ahead l m i y.toNat := by rw [← hord _ _ hi y2]; simpa using h2
      by_cases e : i = y.toNat
      · rw [e]
      · exfalso
        have hp := h.2.2.2.2
        have hi1 := hinl i hi c1
        have hy1 := pk_mem hy
        rw [y1] at hy1
        unfold ahead at h1 h2
        have hne : (rec m i).2.2.1 ≠ (rec m y.toNat).2.2.1 := by
          intro he
          obtain ⟨p, hp1, hp2⟩ := List.mem_iff_getElem.1 hi1
          obtain ⟨r, hr1, hr2⟩ := List.mem_iff_getElem.1 hy1
          rw [List.pairwise_iff_getElem] at hp
          rcases Nat.lt_trichotomy p r with g | g | g
          · have := hp p r hp1 hr1 g
            rw [hp2, hr2] at this
            omega
          · subst g
            rw [hp2] at hr2
            omega
          · have := hp r p hr1 hp1 g
            rw [hp2, hr2] at this
            omega
        omega
    · have := List.pairwise_mergeSort (le := fun x y => !keyLt m y x) (fun a b c h1 h2 => ?_) (fun a b => ?_) (rdy l now m l.length)
      · exact this
      · simp only [Bool.not_eq_true', ] at *
        unfold keyLt at *
        simp only [Bool.or_eq_false_iff, Bool.and_eq_false_iff, decide_eq_false_iff_not] at *
        omega
      · unfold keyLt
        simp only [Bool.or_eq_true, Bool.not_eq_true', Bool.or_eq_false_iff, Bool.and_eq_false_iff, decide_eq_false_iff_not]
        omega
    · rw [List.pairwise_map]
      refine List.Pairwise.imp_of_mem ?_ hpk
      intro a b ha hb hab
      obtain ⟨a1, a2⟩ := hpin a ha
      obtain ⟨b1, b2⟩ := hpin b hb
      rw [a1, b1] at hab
      have := hasym _ _ hab
      rw [← hord _ _ b2 a2] at this
      simpa using this
    · have hnd : ((pk l q.2.1 q.1 32).map (fun y => al.getD y.toNat 0)).Nodup := by
        unfold List.Nodup
        rw [List.pairwise_map]
        refine List.Pairwise.imp_of_mem ?_ hpk
        intro a b ha hb hab e
        obtain ⟨a1, a2⟩ := hpin a ha
        obtain ⟨b1, b2⟩ := hpin b hb
        have := al_inj hn (by rw [h.1.2.1]; exact a2) (by rw [h.1.2.1]; exact b2) e
        have e' : a = b := by omega
        subst e'
        exact hasym _ _ hab hab
      rw [List.perm_ext_iff_of_nodup (rdy_nodup (by rw [hk]; exact hn) (by omega)) hnd]
      intro a
      rw [rdy_mem, List.mem_map]
      constructor
      · rintro ⟨i, hi, c1, c2, rfl⟩
        have hm := hinl i hi c1
        refine ⟨i, ?_, by rw [hk, Int.toNat_natCast]⟩
        have hlv := okl_at hl hi
        rw [pk_iff, Int.toNat_natCast]
        rw [hwk i hi hm] at c2
        exact ⟨hm, c2, by omega, by omega⟩
      · rintro ⟨y, hy, rfl⟩
        obtain ⟨y1, y2⟩ := hpin y hy
        have h1 := pk_iff.1 hy
        have hm := h1.1
        rw [y1] at hm
        refine ⟨y.toNat, y2, ?_, ?_, by rw [hk]⟩
        · have := (hW.2.2.2 _ y2).1 hm
          omega
        · rw [hwk _ y2 hm]
          exact h1.2.1
  · obtain ⟨i, hi, c1, c2, e⟩ := rdy_mem.1 ha
    rw [← e, hk]
    exact (RT_at h hn hi).2.1
  · obtain ⟨i, hi, c1, c2, e⟩ := rdy_mem.1 ha
    obtain ⟨j, hj, d1, d2, e'⟩ := rdy_mem.1 hb
    rw [hk] at e e'
    subst e; subst e'
    rw [(hkey i hi).2, (hkey j hj).2] at e2
    by_cases e : i = j
    · rw [e]
    · exfalso
      have hp := h.2.2.2.2
      obtain ⟨p, hp1, hp2⟩ := List.mem_iff_getElem.1 (hinl i hi c1)
      obtain ⟨r, hr1, hr2⟩ := List.mem_iff_getElem.1 (hinl j hj d1)
      rw [List.pairwise_iff_getElem] at hp
      rcases Nat.lt_trichotomy p r with g | g | g
      · have := hp p r hp1 hr1 g
        rw [hp2, hr2] at this
        omega
      · subst g
        rw [hp2] at hr2
        omega
      · have := hp r p hr1 hp1 g
        rw [hp2, hr2] at this
        omega

end Go.Proofs.Ytpnmfoojmodnlaa.Cores
