/-
  FilesPlay: the condition of the reference, and of the law.
-/
import Derived.Test.YtpmfgdedkmddlaaFilespP3
namespace Go.Proofs.Ytpmfgdedkmddlaa.Filesp
open Go.Sx
set_option maxRecDepth 100000
set_option maxHeartbeats 1000000
set_option linter.unusedSimpArgs false
set_option linter.unusedVariables false

/- What every state of the reference keeps. -/
def okR (s : FS) : Prop := (s.1.length = 4 ∧ s.2.1.length = 4 ∧ s.2.2.2.1.length = s.2.2.1.length ∧ s.2.2.2.2.length = s.2.2.1.length) ∧
  (∀ p : Nat, p < 4 → (s.1.getD p []).length = 16 ∧ ∀ j : Nat, j < 16 → 0 ≤ (s.1.getD p []).getD j 0 ∧ (s.1.getD p []).getD j 0 ≤ s.2.2.1.length) ∧ okD s
theorem okR_put {s : FS} {p j : Nat} {v : Int} (h : okR s) (hp : p < 4) (hj : j < 16) (hv : 0 ≤ v ∧ v ≤ s.2.2.1.length) : okR (putS s p j v) := by
  obtain ⟨h1, h2, h3⟩ := h
  refine ⟨⟨by show (s.1.set _ _).length = 4; simpa using h1.1, h1.2⟩, fun q hq => ?_, h3⟩
  show ((s.1.set _ _).getD _ _).length = 16 ∧ ∀ i : Nat, i < 16 → 0 ≤ ((s.1.set _ _).getD _ _).getD i 0 ∧ ((s.1.set _ _).getD _ _).getD i 0 ≤ s.2.2.1.length
  rw [getD_set' (by omega)]
  by_cases e : p = q
  · rw [if_pos e]
    refine ⟨by simpa using (h2 p hp).1, fun i hi => ?_⟩
    rw [getD_set' (by rw [(h2 p hp).1]; exact hj)]
    split
    · exact hv
    · exact (h2 p hp).2 i hi
  · rw [if_neg e]; exact h2 q hq
theorem okR_place {s : FS} {i : Nat} {v : Int} (h : okR s) (hi : i < s.2.2.1.length) (hv : 0 ≤ v ∧ v ≤ 1099511627776) : okR (s.1, s.2.1, s.2.2.1, s.2.2.2.1, s.2.2.2.2.set i v) := by
  obtain ⟨h1, h2, h3⟩ := h
  refine ⟨⟨h1.1, h1.2.1, h1.2.2.1, by show (s.2.2.2.2.set _ _).length = _; simpa using h1.2.2.2⟩, h2, fun j hj => ?_⟩
  have := h3 j hj
  show _ ∧ _ ∧ 0 ≤ (s.2.2.2.2.set _ _).getD _ _ ∧ (s.2.2.2.2.set _ _).getD _ _ ≤ _
  rw [getD_set' (by omega)]
  refine ⟨this.1, this.2.1, ?_⟩
  split
  · exact hv
  · exact this.2.2
theorem okR_fdo {s : FS} {mean kind proc name size fd to most : Int} (h : okR s) (hk : 1 ≤ kind ∧ kind ≤ 6) (hp : 0 ≤ proc ∧ proc < 4) (hz : kind = 1 → 0 ≤ size ∧ size ≤ 1099511627776)
    (hm : kind ≠ 1 → 0 ≤ mean ∧ mean < s.2.2.1.length) (hf : kind = 4 → 0 ≤ fd ∧ fd < 16) :
    okR (fdo s mean (kind, proc, name, size, fd, to, most)).1 ∧ (fdo s mean (kind, proc, name, size, fd, to, most)).1.2.2.1.length ≤ s.2.2.1.length + 1 := by
  have hrow := (h.2.1 proc.toNat (by omega)).1
  have hidx := fun (hh : ¬ idx (s.1.getD proc.toNat []) 0 < 0) => (idx_get (l := s.1.getD proc.toNat []) (x := 0) (by omega)).1
  rw [fdo_eq]
  split
  · exact ⟨h, by show s.2.2.1.length ≤ _; omega⟩
  rename_i c1
  split
  · rename_i c2
    have h1 := hidx (fun hh => c1 ⟨.inl c2, hh⟩)
    obtain ⟨z0, z1⟩ := hz c2
    have h4 := okR_put (v := 0) h (show proc.toNat < 4 by omega) (show (idx (s.1.getD proc.toNat []) 0).toNat < 16 by omega) ⟨by omega, by omega⟩
    refine ⟨⟨⟨by show (s.1.set _ _).length = 4; simpa using h.1.1, h.1.2.1, by simp [h.1.2.2.1], by simp [h.1.2.2.2]⟩, fun q hq => ?_, fun j hj => ?_⟩, by simp⟩
    · show ((s.1.set _ _).getD _ _).length = 16 ∧ ∀ i : Nat, i < 16 → 0 ≤ ((s.1.set _ _).getD _ _).getD i 0 ∧ ((s.1.set _ _).getD _ _).getD i 0 ≤ ((s.2.2.1 ++ [name]).length : Int)
      have hl1 : ((s.2.2.1 ++ [name]).length : Int) = s.2.2.1.length + 1 := by simp
      rw [getD_set' (by have := h.1.1; omega), hl1]
      have hq2 := h.2.1 q hq
      by_cases e : proc.toNat = q
      · subst e
        rw [if_pos rfl]
        refine ⟨by simpa using hrow, fun i hi => ?_⟩
        rw [getD_set' (by omega)]
        have := hq2.2 i hi
        split <;> omega
      · rw [if_neg e]
        exact ⟨hq2.1, fun i hi => by have := hq2.2 i hi; omega⟩
    · have h5 := h.2.2
      have hl1 := h.1.2.2.1
      have hl2 := h.1.2.2.2
      have hj : j < s.2.2.2.1.length + 1 := by simpa using hj
      show 0 ≤ (s.2.2.2.1 ++ [size]).getD j 0 ∧ (s.2.2.2.1 ++ [size]).getD j 0 ≤ _ ∧ 0 ≤ (s.2.2.2.2 ++ [0]).getD j 0 ∧ (s.2.2.2.2 ++ [0]).getD j 0 ≤ _
      rw [getD_app (by omega), getD_app (by omega)]
      by_cases e : j = s.2.2.2.1.length
      · rw [if_pos e, if_pos (by omega)]; omega
      · rw [if_neg e, if_neg (by omega)]
        exact h5 j (by omega)
  rename_i c2
  obtain ⟨m0, m1⟩ := hm c2
  split
  · rename_i c3
    have h1 := hidx (fun hh => c1 ⟨.inr c3, hh⟩)
    exact ⟨okR_put h (by omega) (by omega) ⟨by omega, by omega⟩, by show s.2.2.1.length ≤ _; omega⟩
  split
  · exact ⟨h, by show s.2.2.1.length ≤ _; omega⟩
  rename_i c3 c4
  split
  · exact ⟨okR_put h (by omega) (by omega) ⟨by omega, by omega⟩, by show s.2.2.1.length ≤ _; omega⟩
  split
  · rename_i c6
    obtain ⟨f0, f1⟩ := hf c6
    exact ⟨okR_put h (by omega) (by omega) ⟨by omega, by omega⟩, by show s.2.2.1.length ≤ _; omega⟩
  split
  · exact ⟨okR_place h (by omega) ⟨by omega, by omega⟩, by show s.2.2.1.length ≤ _; omega⟩
  have hD := h.2.2 mean.toNat (by have := h.1.2.2.1; omega)
  split
  · exact ⟨okR_place h (by omega) ⟨by omega, by omega⟩, by show s.2.2.1.length ≤ _; omega⟩
  · exact ⟨okR_place h (by omega) ⟨by omega, by omega⟩, by show s.2.2.1.length ≤ _; omega⟩
theorem okR_fone {s : FS} {o : FO} (h : okR s) : okR (fone s o).1 ∧ (fone s o).1.2.2.1.length ≤ s.2.2.1.length + 1 := by
  obtain ⟨kind, proc, name, size, fd, to, most⟩ := o
  unfold fone
  split
  · exact ⟨h, by show s.2.2.1.length ≤ _; omega⟩
  rename_i c1
  have c1 : ¬ (kind < 1 ∨ 7 < kind) := c1
  split
  · exact ⟨h, by show s.2.2.1.length ≤ _; omega⟩
  rename_i c2
  have c2 : 0 ≤ proc ∧ proc < 4 ∧ s.2.1.getD proc.toNat false = true := Classical.not_not.1 c2
  split
  · exact ⟨h, by show s.2.2.1.length ≤ _; omega⟩
  rename_i c3
  have c3 : ¬ (kind = 1 ∧ (size < 0 ∨ 1099511627776 < size)) := c3
  split
  · exact ⟨h, by show s.2.2.1.length ≤ _; omega⟩
  rename_i c4
  have c4 : ¬ (kind = 7 ∧ (to < 0 ∨ 3 < to ∨ s.2.1.getD to.toNat false = true)) := c4
  split
  · rename_i c5
    have c5 : kind = 7 := c5
    have hto : 0 ≤ to ∧ to ≤ 3 := by
      constructor
      · exact Int.not_lt.1 fun q => c4 ⟨c5, .inl q⟩
      · exact Int.not_lt.1 fun q => c4 ⟨c5, .inr (.inl q)⟩
    refine ⟨⟨⟨by show (s.1.set _ _).length = 4; simpa using h.1.1, by show (s.2.1.set _ _).length = 4; simpa using h.1.2.1, h.1.2.2⟩, fun q hq => ?_, h.2.2⟩, by show s.2.2.1.length ≤ _; omega⟩
    show ((s.1.set to.toNat (row s.1 proc)).getD _ _).length = 16 ∧ ∀ i : Nat, i < 16 → 0 ≤ ((s.1.set to.toNat (row s.1 proc)).getD _ _).getD i 0 ∧ ((s.1.set to.toNat (row s.1 proc)).getD _ _).getD i 0 ≤ s.2.2.1.length
    rw [getD_set' (by have := h.1.1; omega)]
    split
    · exact h.2.1 proc.toNat (by omega)
    · exact h.2.1 q hq
  rename_i c5
  have c5 : ¬ kind = 7 := c5
  split
  · exact ⟨h, by show s.2.2.1.length ≤ _; omega⟩
  rename_i c6
  have c6 : ¬ (kind ≠ 1 ∧ fmean s (kind, proc, name, size, fd, to, most) < 0) := c6
  have hmean : kind ≠ 1 → (0 ≤ fd ∧ fd < 16) ∧ 0 ≤ fmean s (kind, proc, name, size, fd, to, most) ∧ fmean s (kind, proc, name, size, fd, to, most) < s.2.2.1.length := fun hk => by
    have h1 : ¬ fmean s (kind, proc, name, size, fd, to, most) < 0 := fun q => c6 ⟨hk, q⟩
    by_cases hfd : 0 ≤ fd ∧ fd < 16
    · have e : fmean s (kind, proc, name, size, fd, to, most) = (s.1.getD proc.toNat []).getD fd.toNat 0 - 1 := if_pos hfd
      have := (h.2.1 proc.toNat (by omega)).2 fd.toNat (by omega)
      rw [e] at h1 ⊢
      exact ⟨hfd, by omega, by omega⟩
    · have e : fmean s (kind, proc, name, size, fd, to, most) = -1 := if_neg hfd
      rw [e] at h1
      exact absurd (by decide : (-1 : Int) < 0) h1
  exact okR_fdo h ⟨by omega, by omega⟩ ⟨c2.1, c2.2.1⟩ (fun e => ⟨by omega, by omega⟩) (fun e => (hmean e).2) (fun e => (hmean (by omega)).1)
theorem frun_ok : ∀ (ops : List FO) (s : FS) (e : List FA), frun ops = (s, e) → okR s ∧ s.2.2.1.length ≤ ops.length := fun ops => by
  have key : ∀ (l : List FO) (s : FS × List FA), okR s.1 → okR (l.foldl fst' s).1 ∧ (l.foldl fst' s).1.2.2.1.length ≤ s.1.2.2.1.length + l.length := fun l => by
    induction l with
    | nil => intro s h; exact ⟨h, Nat.le_refl _⟩
    | cons o l ih =>
      intro s h
      obtain ⟨g1, g2⟩ := okR_fone (o := o) h
      obtain ⟨g3, g4⟩ := ih (fst' s o) g1
      refine ⟨g3, ?_⟩
      rw [List.foldl_cons, List.length_cons]
      have g2 : (fst' s o).1.2.2.1.length ≤ s.1.2.2.1.length + 1 := g2
      omega
  intro s e h
  have h0 : okR f0 := by
    refine ⟨⟨rfl, rfl, rfl, rfl⟩, fun p hp => ?_, fun i hi => by simp [f0] at hi⟩
    have : p = 0 ∨ p = 1 ∨ p = 2 ∨ p = 3 := by omega
    have hr : ∀ j : Nat, 0 ≤ (List.replicate 16 (0 : Int)).getD j 0 ∧ (List.replicate 16 (0 : Int)).getD j 0 ≤ ((f0.2.2.1.length : Nat) : Int) := fun j => by rw [rep_get]; exact ⟨by omega, by simp [f0]⟩
    rcases this with rfl | rfl | rfl | rfl <;> exact ⟨rfl, fun j _ => hr j⟩
  have := key ops (f0, []) h0
  unfold frun at h
  rw [h] at this
  exact ⟨this.1, by simpa [f0] using this.2⟩
theorem doV_eq {s : FS} {kind proc name size fd to most : Int} {live : Bool} {mean : Int} (hl : live = true ↔ 0 ≤ proc ∧ proc < 4 ∧ s.2.1.getD proc.toNat false = true) (hm : mean = meanV s.1 live proc fd) :
    doV s live mean (kind, proc, name, size, fd, to, most) = fone s (kind, proc, name, size, fd, to, most) := by
  unfold doV fone
  by_cases c1 : kind < 1 ∨ 7 < kind
  · rw [if_pos c1, if_pos c1]
  rw [if_neg c1, if_neg c1]
  cases live with
  | false =>
    rw [if_pos rfl, if_pos (fun q => by have := hl.2 q; cases this)]
  | true =>
    have q := hl.1 rfl
    refine (if_neg (by decide)).trans (Eq.trans ?_ (if_neg (fun n => n q)).symm)
    have e : mean = fmean s (kind, proc, name, size, fd, to, most) := by
      rw [hm]
      unfold meanV fmean
      by_cases c : 0 ≤ fd ∧ fd < 16
      · rw [if_pos ⟨rfl, c⟩, if_pos c]
      · rw [if_neg (fun n => c n.2), if_neg c]
    rw [e]
theorem cntM_take {y : Int} {m : List (List Int)} {k : Int} (h0 : 0 ≤ k) (h1 : k < m.length) : cntM y (m.take (k + 1).toNat) = cntM y (m.take k.toNat) + cnt y (row m k) := by
  rw [takeI_succ [] h0 h1, cntM_app]
  unfold row
  rw [cntM_cons, cntM_nil, Int.add_zero]
theorem cnt_take {y : Int} {l : List Int} {k : Int} (h0 : 0 ≤ k) (h1 : k < l.length) : cnt y (l.take (k + 1).toNat) = cnt y (l.take k.toNat) + if l.getD k.toNat 0 = y then 1 else 0 := by
  rw [takeI_succ 0 h0 h1, cnt_app, cnt_cons, cnt_nil, Int.add_zero]
theorem cntM_bd {y : Int} : ∀ {m : List (List Int)}, (∀ r ∈ m, r.length = 16) → cntM y m ≤ 16 * m.length
  | [], _ => by simp [cntM_nil]
  | r :: m, h => by
    have h1 := cntM_bd (y := y) (m := m) (fun q hq => h q (by simp [hq]))
    have h2 := h r (by simp)
    have := cnt_pos y r
    rw [cntM_cons]
    simp only [List.length_cons]
    omega
theorem rows_16 {m : List (List Int)} (hl : m.length = 4) (h : ∀ {i : Int}, 0 ≤ i → i < 4 → (row m i).length = 16) : ∀ r ∈ m, r.length = 16 := fun r hr => by
  obtain ⟨i, hi, rfl⟩ := List.mem_iff_getElem.1 hr
  have := h (i := i) (by omega) (by omega)
  unfold row at this
  simpa [List.getD, hi] using this
theorem holdV_row {m : List (List Int)} {nm : List Int} {k : Int} (h0 : 0 ≤ k) (h : k < m.length) : row (holdV m nm) k = (row m k).map fun x => if 0 < x then max (nm.getD (x - 1).toNat 0) 0 else -1 := by
  unfold row holdV
  simp [List.getD, show k.toNat < m.length by omega]
theorem e_vplay (x : List FO × Unit) (hp : x.1.length * 56 ≤ 140737488355328) (hl : LensL cPlay.as x) : E_vplay x := by
  obtain ⟨x, u⟩ := x
  simp only [] at hp
  unfold E_vplay
  simp only [RR_eq, R8_eq, R32_eq]
  simp (maxSteps := 10000000) only [Bool.not_eq_true', Bool.not_eq_false', Bool.not_eq_true, Bool.not_eq_false, beq_self_eq_true, decide_eq_true_eq, decide_eq_false_iff_not, Bool.not_false, Bool.not_true, beq_iff_eq, beq_eq_false_iff_ne, bne_iff_ne, ne_eq, bne_eq_false_iff_eq, holds_iff, true_and, and_true, and_self, eq_self, List.length_cons, List.length_nil, List.length_append, List.length_set, List.length_replicate, List.set_cons_zero, cond_true, cond_false, Bool.false_eq_true, Bool.true_eq_false, forall_const, false_imp_iff, imp_self, implies_true, and_imp, Decidable.not_not, Bool.and_eq_true, Bool.or_eq_true, Bool.and_eq_false_iff, Bool.or_eq_false_iff, ← List.length_eq_zero_iff, or_self, or_false, false_or, Prod.forall, Int.reduceEq, Int.reduceLT, Int.reduceLE, List.nil_append, Nat.zero_add, Int.toNat_zero, List.drop_zero, List.length_drop, List.length_take, not_true_eq_false, not_false_eq_true,  pair_eta]
  have hz16 : Z16 = List.replicate 16 0 := rfl
  refine ⟨⟨by omega, rfl⟩, ?_⟩
  rintro m al nm sz pl e k _ k0 k1 hs hml hmr hal hnl _ hsl _ hpl _ hel _ _ _
  obtain ⟨hok, hnk⟩ := frun_ok _ _ _ hs
  have hek : (e.length : Int) = k := by
    have := frun_e hs
    rw [this, List.length_take]; omega
  have hnk' : (nm.length : Int) ≤ k := by
    rw [List.length_take] at hnk
    have : (((m, al, nm, sz, pl) : FS).2.2.1).length = nm.length := rfl
    omega
  have hrw : ∀ {i : Int}, 0 ≤ i → i < 4 → m.getD i.toNat Z16 = row m i := fun {i} i0 i1 => row_def Z16 i0 (by omega)
  have hR : ∀ {i : Int}, 0 ≤ i → i < 4 → (row m i).length = 16 ∧ ∀ j : Nat, j < 16 → 0 ≤ (row m i).getD j 0 ∧ (row m i).getD j 0 ≤ nm.length := fun {i} i0 i1 => hok.2.1 i.toNat (by omega)
  have hls : sz.length = nm.length ∧ pl.length = nm.length := hok.1.2.2
  have hD : ∀ i : Nat, i < sz.length → 0 ≤ sz.getD i 0 ∧ sz.getD i 0 ≤ 1099511627776 ∧ 0 ≤ pl.getD i 0 ∧ pl.getD i 0 ≤ 1099511627776 := hok.2.2
  refine ⟨fun hlt => ⟨⟨k0, hlt⟩, ?_⟩, fun hge => ?_⟩
  · have hnext : ∀ {s' : FS} {a : FA}, fone (m, al, nm, sz, pl) (opAt x k) = (s', a) → frun (x.take (k + 1).toNat) = (s', e ++ [a]) := fun hf => frun_next k0 hlt hs hf
    generalize opAt x k = o at hnext ⊢
    obtain ⟨kind, proc, name, size, fd, to, most⟩ := o
    simp only [] at hnext ⊢
    generalize hlg : (decide (0 ≤ proc) && decide (proc < 4) && al.getD proc.toNat false) = live
    have hlv : live = true ↔ 0 ≤ proc ∧ proc < 4 ∧ al.getD proc.toNat false = true := by
      rw [← hlg]; simp [and_assoc]
    clear hlg
    refine ⟨fun p0 p1 => ⟨⟨p0, p1⟩, p0, by omega⟩, ⟨fun p0 p1 pal f0 f1 => ?_, fun hn => ?_⟩, ?_⟩
    · have hr := (hR p0 p1).2 fd.toNat (by omega)
      rw [hrw p0 p1]
      refine ⟨⟨p0, by omega⟩, ⟨f0, by omega⟩, ⟨by omega, by omega⟩, ?_⟩
      unfold meanV
      rw [if_pos ⟨hlv.2 ⟨p0, p1, pal⟩, f0, f1⟩]
    · unfold meanV
      rw [if_neg]
      rintro ⟨hl, f0, f1⟩
      obtain ⟨p0, p1, pal⟩ := hlv.1 hl
      rcases hn with (((h | h) | h) | h) | h
      · exact h p0
      · exact h p1
      · rw [pal] at h; cases h
      · exact h f0
      · exact h f1
    · rintro mean hmean mm0 mm1
      have hdv := doV_eq (s := (m, al, nm, sz, pl)) (kind := kind) (name := name) (size := size) (to := to) (most := most) hlv hmean
      refine ⟨?_, ?_⟩
      rotate_left
      · rintro m' al' nm' sz' pl' b1 b2 hdo _ _ _ _ _ _ _ _ _ _ _ _ _
        rw [hdv] at hdo
        exact ⟨⟨by omega, by omega⟩, ⟨by omega, by omega⟩, ⟨by omega, by omega, hnext hdo⟩, by omega⟩
      have hbase : 1 ≤ kind → kind ≤ 7 → live = true → doV (m, al, nm, sz, pl) live mean (kind, proc, name, size, fd, to, most) =
          (if kind = 1 ∧ (size < 0 ∨ 1099511627776 < size) then ((m, al, nm, sz, pl), 2, 0)
          else if kind = 7 ∧ (to < 0 ∨ 3 < to ∨ al.getD to.toNat false = true) then ((m, al, nm, sz, pl), 6, 0)
          else if kind = 7 then ((m.set to.toNat (row m proc), al.set to.toNat true, nm, sz, pl), 0, to)
          else if kind ≠ 1 ∧ mean < 0 then ((m, al, nm, sz, pl), 3, 0)
          else fdo (m, al, nm, sz, pl) mean (kind, proc, name, size, fd, to, most)) := fun q1 q2 q3 => by
        unfold doV
        refine (if_neg (show ¬ (kind < 1 ∨ 7 < kind) by omega)).trans ?_
        rw [q3]
        exact if_neg (by decide)
      have hmr2 : kind ≠ 1 → ¬ mean < 0 → live = true → (0 ≤ fd ∧ fd < 16) ∧ 0 ≤ mean ∧ mean < nm.length := fun _ q hl => by
        obtain ⟨p0, p1, pal⟩ := hlv.1 hl
        unfold meanV at hmean
        by_cases hfd : 0 ≤ fd ∧ fd < 16
        · rw [if_pos ⟨hl, hfd⟩] at hmean
          have := (hR p0 p1).2 fd.toNat (by omega)
          exact ⟨hfd, by omega, by omega⟩
        · rw [if_neg (fun n => hfd n.2)] at hmean
          omega
      refine ⟨fun hk => ?_, fun hk1 hk2 => ⟨fun hn => ?_, fun p0 p1 pal => ?_⟩⟩
      · unfold doV
        exact if_pos hk
      · have hl : live = false := by
          cases e : live
          · rfl
          · obtain ⟨p0, p1, pal⟩ := hlv.1 e
            rcases hn with (h | h) | h
            · exact absurd p0 h
            · exact absurd p1 h
            · rw [pal] at h; cases h
        unfold doV
        refine (if_neg (show ¬ (kind < 1 ∨ 7 < kind) by omega)).trans ?_
        rw [hl]
        exact if_pos rfl
      have hl := hlv.2 ⟨p0, p1, pal⟩
      have hb := hbase (by omega) (by omega) hl
      have hm2 := fun a b => hmr2 a b hl
      have hrl := (hR p0 p1).1
      have hidx := fun (h : ¬ idx (row m proc) 0 < 0) => (idx_get (l := row m proc) (x := 0) (by omega)).1
      rw [hrw p0 p1]
      generalize doV (m, al, nm, sz, pl) live mean (kind, proc, name, size, fd, to, most) = D at hb ⊢
      have hS : ∀ (a b : Prop), a → b → a ∧ b := fun _ _ h g => ⟨h, g⟩
      have L2a : kind = 1 → (size < 0 ∨ 1099511627776 < size) → D = ((m, al, nm, sz, pl), 2, 0) := fun h h' => by rw [hb, if_pos ⟨h, h'⟩]
      have L6 : kind = 7 → ((to < 0 ∨ 3 < to) ∨ al.getD to.toNat false = true) → D = ((m, al, nm, sz, pl), 6, 0) := fun h h' => by rw [hb, if_neg (by omega), if_pos ⟨h, by rcases h' with (q | q) | q; exact .inl q; exact .inr (.inl q); exact .inr (.inr q)⟩]
      have L7 : kind = 7 → ¬ to < 0 → ¬ 3 < to → al.getD to.toNat false = false → D = ((m.set to.toNat (row m proc), al.set to.toNat true, nm, sz, pl), 0, to) := fun h q1 q2 q3 => by
        rw [hb, if_neg (by omega), if_neg, if_pos h]
        rintro ⟨_, q | q | q⟩
        · exact q1 q
        · exact q2 q
        · rw [q3] at q; cases q
      have L3 : ¬ kind = 7 → ¬ kind = 1 → mean < 0 → D = ((m, al, nm, sz, pl), 3, 0) := fun h h' q => by rw [hb, if_neg (by omega), if_neg (fun n => h n.1), if_neg h, if_pos ⟨h', q⟩]
      have hb3 : (¬ kind = 7 ∧ ¬ (kind = 1 ∧ (size < 0 ∨ 1099511627776 < size)) ∧ (kind = 1 ∨ ¬ mean < 0)) → D = fdo (m, al, nm, sz, pl) mean (kind, proc, name, size, fd, to, most) := fun ⟨h, h', q⟩ => by
        rw [hb, if_neg h', if_neg (fun n => h n.1), if_neg h, if_neg (by omega)]
      rw [fdo_eq] at hb3
      clear hb hbase hmr2 hmean hdv hlv hl
      have L4 : (¬ kind = 7 ∧ ¬ (kind = 1 ∧ (size < 0 ∨ 1099511627776 < size)) ∧ (kind = 1 ∨ ¬ mean < 0)) → (kind = 1 ∨ kind = 2) → idx (row m proc) 0 < 0 → D = ((m, al, nm, sz, pl), 4, 0) := fun h q r => (hb3 h).trans (if_pos ⟨q, r⟩)
      have L1 : (¬ kind = 7 ∧ ¬ (kind = 1 ∧ (size < 0 ∨ 1099511627776 < size)) ∧ (kind = 1 ∨ ¬ mean < 0)) → kind = 1 → ¬ idx (row m proc) 0 < 0 → D = ((m.set proc.toNat ((row m proc).set (idx (row m proc) 0).toNat ((nm.length + 1 : Nat) : Int)), al, nm ++ [name], sz ++ [size], pl ++ [0]), 0, idx (row m proc) 0) := fun h q r =>
        (hb3 h).trans ((if_neg (fun n => r n.2)).trans (if_pos q))
      have L2 : (¬ kind = 7 ∧ ¬ (kind = 1 ∧ (size < 0 ∨ 1099511627776 < size)) ∧ (kind = 1 ∨ ¬ mean < 0)) → kind = 2 → ¬ idx (row m proc) 0 < 0 → D = ((m.set proc.toNat ((row m proc).set (idx (row m proc) 0).toNat (mean + 1)), al, nm, sz, pl), 0, idx (row m proc) 0) := fun h q r =>
        (hb3 h).trans ((if_neg (fun n => r n.2)).trans ((if_neg (by omega)).trans (if_pos q)))
      have LR : (¬ kind = 7 ∧ ¬ (kind = 1 ∧ (size < 0 ∨ 1099511627776 < size)) ∧ (kind = 1 ∨ ¬ mean < 0)) → ¬ kind = 1 → ¬ kind = 2 → ((kind = 3 ∧ (to < 0 ∨ 15 < to)) ∨ (kind = 6 ∧ (most < 0 ∨ 1099511627776 < most)) ∨ (kind = 5 ∧ most < 1)) → D = ((m, al, nm, sz, pl), 2, 0) := fun h q r t =>
        (hb3 h).trans ((if_neg (by omega)).trans ((if_neg q).trans ((if_neg r).trans (if_pos t))))
      have hb4 := fun (h : ¬ kind = 7 ∧ ¬ (kind = 1 ∧ (size < 0 ∨ 1099511627776 < size)) ∧ (kind = 1 ∨ ¬ mean < 0)) (q : ¬ kind = 1) (r : ¬ kind = 2) (t : ¬ ((kind = 3 ∧ (to < 0 ∨ 15 < to)) ∨ (kind = 6 ∧ (most < 0 ∨ 1099511627776 < most)) ∨ (kind = 5 ∧ most < 1))) =>
        (hb3 h).trans ((if_neg (by omega)).trans ((if_neg q).trans ((if_neg r).trans (if_neg t))))
      have LO : (¬ kind = 7 ∧ ¬ (kind = 1 ∧ (size < 0 ∨ 1099511627776 < size)) ∧ (kind = 1 ∨ ¬ mean < 0)) → ¬ kind = 1 → ¬ kind = 2 → ¬ ((kind = 3 ∧ (to < 0 ∨ 15 < to)) ∨ (kind = 6 ∧ (most < 0 ∨ 1099511627776 < most)) ∨ (kind = 5 ∧ most < 1)) → kind = 3 → D = ((m.set proc.toNat ((row m proc).set to.toNat (mean + 1)), al, nm, sz, pl), 0, to) := fun h q r t u =>
        (hb4 h q r t).trans (if_pos u)
      have LC : (¬ kind = 7 ∧ ¬ (kind = 1 ∧ (size < 0 ∨ 1099511627776 < size)) ∧ (kind = 1 ∨ ¬ mean < 0)) → ¬ kind = 1 → ¬ kind = 2 → ¬ ((kind = 3 ∧ (to < 0 ∨ 15 < to)) ∨ (kind = 6 ∧ (most < 0 ∨ 1099511627776 < most)) ∨ (kind = 5 ∧ most < 1)) → kind = 4 → D = ((m.set proc.toNat ((row m proc).set fd.toNat 0), al, nm, sz, pl), 0, cntM (mean + 1) (m.set proc.toNat ((row m proc).set fd.toNat 0))) := fun h q r t u =>
        (hb4 h q r t).trans ((if_neg (by omega)).trans (if_pos u))
      have LS : (¬ kind = 7 ∧ ¬ (kind = 1 ∧ (size < 0 ∨ 1099511627776 < size)) ∧ (kind = 1 ∨ ¬ mean < 0)) → ¬ kind = 1 → ¬ kind = 2 → ¬ ((kind = 3 ∧ (to < 0 ∨ 15 < to)) ∨ (kind = 6 ∧ (most < 0 ∨ 1099511627776 < most)) ∨ (kind = 5 ∧ most < 1)) → kind = 6 → D = ((m, al, nm, sz, pl.set mean.toNat most), 0, most) := fun h q r t u =>
        (hb4 h q r t).trans ((if_neg (by omega)).trans ((if_neg (by omega)).trans (if_pos u)))
      have LP : (¬ kind = 7 ∧ ¬ (kind = 1 ∧ (size < 0 ∨ 1099511627776 < size)) ∧ (kind = 1 ∨ ¬ mean < 0)) → ¬ kind = 1 → ¬ kind = 2 → ¬ ((kind = 3 ∧ (to < 0 ∨ 15 < to)) ∨ (kind = 6 ∧ (most < 0 ∨ 1099511627776 < most)) ∨ (kind = 5 ∧ most < 1)) → ¬ kind = 3 → ¬ kind = 4 → ¬ kind = 6 → 0 < sz.getD mean.toNat 0 - pl.getD mean.toNat 0 →
          D = ((m, al, nm, sz, pl.set mean.toNat (pl.getD mean.toNat 0 + min (sz.getD mean.toNat 0 - pl.getD mean.toNat 0) most)), 0, min (sz.getD mean.toNat 0 - pl.getD mean.toNat 0) most) := fun h q r t u v w z =>
        (hb4 h q r t).trans ((if_neg u).trans ((if_neg v).trans ((if_neg w).trans (if_pos z))))
      have LN : (¬ kind = 7 ∧ ¬ (kind = 1 ∧ (size < 0 ∨ 1099511627776 < size)) ∧ (kind = 1 ∨ ¬ mean < 0)) → ¬ kind = 1 → ¬ kind = 2 → ¬ ((kind = 3 ∧ (to < 0 ∨ 15 < to)) ∨ (kind = 6 ∧ (most < 0 ∨ 1099511627776 < most)) ∨ (kind = 5 ∧ most < 1)) → ¬ kind = 3 → ¬ kind = 4 → ¬ kind = 6 → ¬ 0 < sz.getD mean.toNat 0 - pl.getD mean.toNat 0 →
          D = ((m, al, nm, sz, pl.set mean.toNat (pl.getD mean.toNat 0 + 0)), 0, 0) := fun h q r t u v w z =>
        (hb4 h q r t).trans ((if_neg u).trans ((if_neg v).trans ((if_neg w).trans (if_neg z))))
      have hDm := hD mean.toNat
      clear hb3 hb4 hs hmr hnext hS
      refine ⟨fun q => ⟨q, fun r => ⟨q, r⟩⟩, fun q r => L2a q r, fun hsz => ⟨fun q => ⟨q, fun r => ⟨q, r⟩⟩, fun q r t => ⟨⟨q, r, t⟩, by omega, by omega⟩, fun q => ⟨q, fun r t => ⟨q, r, t⟩⟩, fun q r => L6 q r, fun hfk => ⟨fun q => ?_, fun h7 => ⟨fun q r => L3 h7 q r, fun hmn => ⟨fun q => ?_, fun h1 h2 => ⟨fun q => absurd q h1, fun _ => ⟨fun q => absurd q h2, fun _ => ?_⟩⟩⟩⟩⟩⟩⟩
      · rcases hfk with r | ⟨⟨r1, r2⟩, r3⟩
        · exact absurd q r
        · exact ⟨⟨p0, by omega⟩, ⟨by omega, by omega⟩, ⟨by omega, by omega⟩, L7 q r1 r2 r3⟩
      · have hA : ¬ kind = 7 ∧ ¬ (kind = 1 ∧ (size < 0 ∨ 1099511627776 < size)) ∧ (kind = 1 ∨ ¬ mean < 0) := ⟨h7, by omega, hmn⟩
        refine ⟨q, ⟨p0, p1⟩, fun r => L4 hA q r, fun r => ⟨fun h1 => ?_, fun h1 => ⟨fun h2 => ?_, fun h2 => absurd q (by omega)⟩⟩⟩
        · have := hidx r
          exact ⟨⟨by omega, by omega⟩, ⟨by omega, by omega⟩, ⟨by omega, by omega⟩, ⟨p0, p1⟩, ⟨p0, by omega⟩, ⟨by omega, by omega⟩, L1 hA h1 r⟩
        · have := hidx r
          have := hm2 (by omega) (by omega)
          exact ⟨⟨p0, p1⟩, ⟨by omega, by omega⟩, ⟨p0, by omega⟩, ⟨by omega, by omega⟩, L2 hA h2 r⟩
      · have hA : ¬ kind = 7 ∧ ¬ (kind = 1 ∧ (size < 0 ∨ 1099511627776 < size)) ∧ (kind = 1 ∨ ¬ mean < 0) := ⟨h7, by omega, hmn⟩
        obtain ⟨hfd, hm0, hm1⟩ := hm2 h1 (by omega)
        have hDm := hDm (by omega)
        refine ⟨fun q => ⟨q, fun r => ⟨q, r⟩⟩, fun q r => LR hA h1 h2 (.inl ⟨q, r⟩), fun hto => ⟨fun q => ⟨q, fun r => ⟨q, r⟩⟩, fun q r => LR hA h1 h2 (.inr (.inl ⟨q, r⟩)), fun hmo => ⟨fun q r => LR hA h1 h2 (.inr (.inr ⟨q, r⟩)), fun hmo5 => ?_⟩⟩⟩
        have hB : ¬ ((kind = 3 ∧ (to < 0 ∨ 15 < to)) ∨ (kind = 6 ∧ (most < 0 ∨ 1099511627776 < most)) ∨ (kind = 5 ∧ most < 1)) := by omega
        refine ⟨fun h3 => ⟨⟨by omega, by omega⟩, ⟨p0, by omega⟩, ⟨by omega, by omega⟩, LO hA h1 h2 hB h3⟩, fun h3 => ⟨fun h4 => ⟨⟨p0, by omega⟩, ⟨by omega, by omega⟩, rfl, ?_⟩, fun h4 => ⟨fun h6 => ⟨⟨hm0, by omega⟩, LS hA h1 h2 hB h6⟩, fun h6 => ?_⟩⟩⟩
        · have hLC := LC hA h1 h2 hB h4
          have hyl : (m.set proc.toNat ((row m proc).set fd.toNat 0)).length = 4 := by simpa using hml
          have hyr : ∀ {i : Int}, 0 ≤ i → i < 4 → (row (m.set proc.toNat ((row m proc).set fd.toNat 0)) i).length = 16 := fun {i} i0 i1 => by
            rw [row_set p0 (by omega) i0]
            split
            · simpa using hrl
            · exact (hR i0 i1).1
          generalize m.set proc.toNat ((row m proc).set fd.toNat 0) = y at hLC hyl hyr ⊢
          rintro c0 c1 i i0 i1 rfl rfl _ _ _ _ _ _
          refine ⟨fun hi => ?_, fun hi => ?_⟩
          · have hry : y.getD i.toNat Z16 = row y i := row_def Z16 i0 (by omega)
            rw [hry]
            refine ⟨⟨i0, by omega⟩, ⟨rfl, by rw [List.take_zero, cnt_nil, Int.add_zero]⟩, ?_⟩
            rintro d0 d1 j j0 j1 rfl rfl _ _ _ _ _ _
            have hyi := hyr i0 hi
            have hcm := cntM_pos (mean + 1) (y.take i.toNat)
            refine ⟨fun hj => ⟨⟨j0, by omega⟩, ⟨by omega, by omega⟩, fun he => ?_, fun he => ?_⟩, fun hj => ⟨⟨by omega, by omega⟩, ⟨by omega, by omega, rfl, ?_⟩, by omega⟩⟩
            · have hct := cnt_take (y := mean + 1) (l := row y i) j0 (by omega)
              rw [if_pos he] at hct
              have hbd := cntM_bd (y := mean + 1) (m := y.take i.toNat) (fun r hr => rows_16 hyl hyr r (List.mem_of_mem_take hr))
              have hbl : (y.take i.toNat).length ≤ 4 := by rw [List.length_take]; omega
              have hcl := cnt_pos (mean + 1) ((row y i).take j.toNat)
              have hcl2 : ((row y i).take j.toNat).length ≤ 16 := by rw [List.length_take]; omega
              exact ⟨⟨by omega, by omega⟩, ⟨by omega, by omega⟩, ⟨by omega, by omega, rfl, by omega⟩, by omega⟩
            · have hct := cnt_take (y := mean + 1) (l := row y i) j0 (by omega)
              rw [if_neg he] at hct
              exact ⟨⟨by omega, by omega⟩, ⟨by omega, by omega, rfl, by omega⟩, by omega⟩
            · rw [cntM_take i0 (by omega), takeI_all (show ((row y i).length : Int) ≤ j by omega)]
          · rw [takeI_all (by omega)]
            exact hLC
        · have hb1 : 0 ≤ mean ∧ mean < sz.length := ⟨hm0, by omega⟩
          have hb2 : 0 ≤ mean ∧ mean < pl.length := ⟨hm0, by omega⟩
          have q1 : -9223372036854775808 ≤ sz.getD mean.toNat 0 - pl.getD mean.toNat 0 ∧ sz.getD mean.toNat 0 - pl.getD mean.toNat 0 ≤ 9223372036854775807 := by omega
          have q2 : -9223372036854775808 ≤ pl.getD mean.toNat 0 + min (sz.getD mean.toNat 0 - pl.getD mean.toNat 0) most ∧ pl.getD mean.toNat 0 + min (sz.getD mean.toNat 0 - pl.getD mean.toNat 0) most ≤ 9223372036854775807 := by omega
          have q3 : -9223372036854775808 ≤ pl.getD mean.toNat 0 + 0 ∧ pl.getD mean.toNat 0 + 0 ≤ 9223372036854775807 := by omega
          exact ⟨hb1, hb2, q1, fun z => ⟨hb2, q2, hb2, LP hA h1 h2 hB h3 h4 h6 z⟩, fun z => ⟨hb2, q3, hb2, LN hA h1 h2 hB h3 h4 h6 z⟩⟩
  · have hke : k = x.length := by omega
    have hfr : frun x = ((m, al, nm, sz, pl), e) := by
      rw [hke, show (x.length : Int).toNat = x.length by omega, List.take_length] at hs
      exact hs
    have hat : ∀ {i : Int}, 0 ≤ i → i < 4 → (row (holdV m nm) i).length = 16 ∧ ∀ {j : Int}, 0 ≤ j → j < 16 → (row (holdV m nm) i).getD j.toNat 0 = if 0 < (row m i).getD j.toNat 0 then max (nm.getD ((row m i).getD j.toNat 0 - 1).toNat 0) 0 else -1 := fun {i} i0 i1 => by
      have hl := (hR i0 i1).1
      rw [holdV_row i0 (by omega)]
      refine ⟨by simpa using hl, fun {j} j0 j1 => ?_⟩
      generalize row m i = r at hl ⊢
      simp [List.getD, show j.toNat < r.length by omega]
    refine ⟨upto_zero _, ?_⟩
    rintro out i i0 i1 hup hol _ _ _
    refine ⟨fun hi => ⟨⟨i0, by omega⟩, hup, ?_⟩, fun hi => ?_⟩
    · rintro out2 j j0 j1 hup2 hol2 _ _ _
      refine ⟨fun hj => ?_, fun hj => ⟨⟨by omega, by omega⟩, ⟨by omega, by omega, upto_next hup2 i0 hi (by omega) (hat i0 hi).1⟩, by omega⟩⟩
      have w2 := (hat i0 hi).2 j0 hj
      have hr := (hR i0 hi).2 j.toNat (by omega)
      rw [hrw i0 hi]
      refine ⟨⟨j0, by omega⟩, ⟨i0, by omega⟩, ⟨j0, by omega⟩, fun hx => ?_, fun hx => ⟨⟨by omega, by omega⟩, ⟨by omega, by omega, ?_⟩, by omega⟩⟩
      · rw [if_pos hx] at w2
        refine ⟨⟨by omega, by omega⟩, ⟨by omega, by omega⟩, ⟨i0, by omega⟩, ⟨j0, by omega⟩, ⟨by omega, by omega⟩, ⟨by omega, by omega, ?_⟩, by omega⟩
        rw [set_twice i0 (by omega)]
        exact upto_set hup2 i0 hi j0 hj w2.symm
      · rw [if_neg hx] at w2
        rw [row_def Z16 i0 (by omega)]
        exact upto_set hup2 i0 hi j0 hj w2.symm
    · have := upto_all hup (by omega) (by unfold holdV; simpa using hml)
      refine ⟨?_, ?_⟩
      · show e = (frun x).2
        rw [hfr]
      · show out = hold (frun x).1
        rw [hfr, this]
        rfl
theorem fplay_shape (l : List FO) : (fplay l).2.1.length = 4 ∧ ∀ r ∈ (fplay l).2.1, r.length = 16 := by
  obtain ⟨hok, _⟩ := frun_ok l (frun l).1 (frun l).2 rfl
  refine ⟨by show (holdV _ _).length = 4; unfold holdV; simpa using hok.1.1, fun r hr => ?_⟩
  have hr : r ∈ holdV (frun l).1.1 (frun l).1.2.2.1 := hr
  unfold holdV at hr
  obtain ⟨q, hq, rfl⟩ := List.mem_map.1 hr
  obtain ⟨i, hi, rfl⟩ := List.mem_iff_getElem.1 hq
  have := (hok.2.1 i (by have := hok.1.1; omega)).1
  simp only [List.getD, List.getElem?_eq_getElem hi] at this
  simpa using this
theorem e_law (x : List FO × Unit) (hp : x.1.length * 56 ≤ 140737488355328) (hl : LensL cLaw.as x) : E_law x := by
  obtain ⟨x, u⟩ := x
  simp only [] at hp
  unfold E_law
  simp only [Bool.not_eq_true', Bool.not_eq_false', Bool.not_eq_true, Bool.not_eq_false, beq_self_eq_true, decide_eq_true_eq, decide_eq_false_iff_not, Bool.not_false, Bool.not_true, beq_iff_eq, beq_eq_false_iff_ne, bne_iff_ne, ne_eq, bne_eq_false_iff_eq, holds_iff, true_and, and_true, and_self, eq_self, List.length_cons, List.length_nil, List.length_append, List.length_set, List.length_replicate, List.set_cons_zero, cond_true, cond_false, Bool.false_eq_true, Bool.true_eq_false, forall_const, false_imp_iff, imp_self, implies_true, and_imp, Decidable.not_not, Bool.and_eq_true, Bool.or_eq_true, Bool.and_eq_false_iff, Bool.or_eq_false_iff, ← List.length_eq_zero_iff, or_self, or_false, false_or, Prod.forall, Int.reduceEq, Int.reduceLT, Int.reduceLE, List.nil_append, Nat.zero_add, Int.toNat_zero, List.drop_zero, List.length_drop, List.length_take, not_true_eq_false, not_false_eq_true,  deq_iff, deq_false, pair_eta]
  exact hp
theorem pre_law (x : HL cLaw.as) (_ : GoodL cLaw.as x) (h : FitL cLaw.as x) : x.1.length * 56 ≤ 140737488355328 := by
  have := h.1.1
  have e : Ty.low tyFileOp = 56 := by decide
  rw [e] at this
  omega

end Go.Proofs.Ytpmfgdedkmddlaa.Filesp
