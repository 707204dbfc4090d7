/-
  FilesPlay: the condition of Play.
-/
import Derived.Test.YtpmfgdedkmddlaaFilespP2
namespace Go.Proofs.Ytpmfgdedkmddlaa.Filesp
open Go.Sx
set_option maxRecDepth 100000
set_option maxHeartbeats 1000000
set_option linter.unusedSimpArgs false
set_option linter.unusedVariables false

theorem idxOf_eq {a b : Int} : ∀ {l xs : List Int}, l.length = xs.length → (∀ j, j < l.length → (l.getD j 0 = a ↔ xs.getD j 0 = b)) → l.idxOf? a = xs.idxOf? b
  | [], [], _, _ => rfl
  | x :: l, y :: xs, hl, h => by
    have h0 : x = a ↔ y = b := h 0 (by simp)
    have ih := idxOf_eq (a := a) (b := b) (l := l) (xs := xs) (by simpa using hl) (fun j hj => by simpa using h (j + 1) (by simpa using hj))
    rw [List.idxOf?_cons, List.idxOf?_cons, ih]
    by_cases e : x = a
    · rw [if_pos (by simpa using e), if_pos (by simpa using h0.1 e)]
    · rw [if_neg (by simpa using e), if_neg (by simpa using fun e2 => e (h0.2 e2))]
  | [], _ :: _, hl, _ => by simp at hl
  | _ :: _, [], hl, _ => by simp at hl
theorem idx_eq {a b : Int} {l xs : List Int} (hl : l.length = xs.length) (h : ∀ j, j < l.length → (l.getD j 0 = a ↔ xs.getD j 0 = b)) : idx l a = idx xs b := by
  unfold idx; rw [idxOf_eq hl h]
theorem idx_get {l : List Int} {x : Int} (h : 0 ≤ idx l x) : idx l x < l.length ∧ l.getD (idx l x).toNat 0 = x := by
  unfold idx at h ⊢
  split
  · rename_i i hi
    have hi : l.findIdx? (· == x) = some i := hi
    rw [List.findIdx?_eq_some_iff_getElem] at hi
    obtain ⟨h1, h2, _⟩ := hi
    have h2 : l[i] = x := by simpa using h2
    refine ⟨by omega, ?_⟩
    rw [show ((i : Int)).toNat = i by omega, List.getD, List.getElem?_eq_getElem h1]
    exact h2
  · rename_i e
    rw [e] at h
    simp at h
/- What a number that leads somewhere leads to. -/
theorem op_of {s : FS} {tabs : List Int} {m0 : TM} {m1 : OM} (hF : FR s tabs m0 m1) (hn : (keys m1).Nodup) (hk : ∀ e ∈ m1, 0 ≤ e.1) {c x : Int} (hs : same m1 c x) (hc : 0 ≤ c) :
    1 ≤ x ∧ (x - 1).toNat < m1.length ∧ c = (keys m1).getD (x - 1).toNat 0 ∧ mhas tyopen m1 c = true ∧
      opOf m1 c = (s.2.2.1.getD (x - 1).toNat 0, s.2.2.2.1.getD (x - 1).toNat 0, s.2.2.2.2.getD (x - 1).toNat 0, cntM x s.1) ∧ 0 ≤ cntM x s.1 ∧ cntM x s.1 ≤ 1000 := by
  rcases hs with ⟨_, h2⟩ | ⟨h1, h2, h3⟩
  · omega
  · have hi : (x - 1).toNat < m1.length := by omega
    obtain ⟨g1, g2⟩ := op_get hn hi
    have h4 := hF.2.1.2.2.2 _ hi
    rw [← h3] at g1 g2
    have hcl := cntM_le (y := x) hF
    refine ⟨h1, hi, h3, g2, ?_, cntM_pos _ _, by omega⟩
    rw [g1, h4]
    rw [show (((x - 1).toNat : Nat) : Int) + 1 = x by omega]
theorem inc_pos {m1 : OM} {c : Int} (h : 0 ≤ c) : inc m1 c = mput tyopen m1 c ((opOf m1 c).1, (opOf m1 c).2.1, (opOf m1 c).2.2.1, (opOf m1 c).2.2.2 + 1) := by unfold inc; rw [if_neg (by omega)]
theorem dec_pos {m1 : OM} {c : Int} (h : 0 ≤ c) : dec m1 c = mput tyopen m1 c ((opOf m1 c).1, (opOf m1 c).2.1, (opOf m1 c).2.2.1, (opOf m1 c).2.2.2 - 1) := by unfold dec; rw [if_neg (by omega)]
theorem tdrop_pos {m0 : TM} {t fd : Int} (h : 0 ≤ (tbOf m0 t).getD fd.toNat 0) : tdrop m0 t fd = tset m0 t fd (-1) := by unfold tdrop; rw [if_neg (by omega)]
theorem put_keys {m1 : OM} {c : Int} {v : Int × Int × Int × Int} (hn : (keys m1).Nodup) {x : Int} (hs : same m1 c x) (hc : 0 ≤ c) : keys (mput tyopen m1 c v) = keys m1 := by
  rcases hs with ⟨_, h2⟩ | ⟨h1, h2, h3⟩
  · omega
  · have hi : (x - 1).toNat < m1.length := by omega
    rw [h3, op_put hn hi, keys_set hi]
theorem putS_same {s : FS} {p j : Nat} (hp : p < s.1.length) (hj : j < (s.1.getD p []).length) : putS s p j ((s.1.getD p []).getD j 0) = s := by
  have e1 : (s.1.getD p []).set j ((s.1.getD p []).getD j 0) = s.1.getD p [] := by
    generalize s.1.getD p [] = r at hj ⊢
    rw [List.getD, List.getElem?_eq_getElem hj]
    exact List.set_getElem_self hj
  unfold putS
  rw [e1]
  have e2 : s.1.set p (s.1.getD p []) = s.1 := by
    rw [List.getD, List.getElem?_eq_getElem hp]
    exact List.set_getElem_self hp
  rw [e2]
theorem putS_put {s : FS} {p j : Nat} {x y : Int} (hp : p < s.1.length) : putS (putS s p j y) p j x = putS s p j x := by
  unfold putS
  have e : (s.1.set p ((s.1.getD p []).set j y)).getD p [] = (s.1.getD p []).set j y := by rw [getD_set' hp, if_pos rfl]
  simp only [e, List.set_set]
theorem FR_at {s : FS} {tabs : List Int} {m0 : TM} {m1 : OM} {p : Nat} (h : FR s tabs m0 m1) (hp : p < 4) (hal : s.2.1.getD p false = true) :
    mhas TB m0 (tabs.getD p 0) = true ∧ (tbOf m0 (tabs.getD p 0)).length = 16 ∧ ∀ j : Nat, j < 16 → same m1 ((tbOf m0 (tabs.getD p 0)).getD j 0) ((s.1.getD p []).getD j 0) := (h.2.2.1 p hp).2.2.2.1 hal
theorem lea_neg {l : List Int} (h : (lea l).2.1 = false) : idx l (-1) < 0 := by
  unfold lea at h
  have := of_decide_eq_false h
  omega
theorem lea_pos {l : List Int} (h : (lea l).2.1 = true) : 0 ≤ idx l (-1) ∧ (lea l).1 = idx l (-1) := by
  have h1 : 0 ≤ idx l (-1) := of_decide_eq_true h
  refine ⟨h1, ?_⟩
  unfold lea
  exact if_neg (by omega)
/- Part of a table has been taken over. -/
theorem fork_op {s : FS} {tabs : List Int} {m0 : TM} {m1 : OM} {p j : Nat} (hF : FR s tabs m0 m1) (hn : (keys m1).Nodup) (hk : ∀ e ∈ m1, 0 ≤ e.1) (hp : p < 4) (hal : s.2.1.getD p false = true) (hj : j < 16)
    (hc : 0 ≤ (tbOf m0 (tabs.getD p 0)).getD j 0) : mhas tyopen (incs m1 ((tbOf m0 (tabs.getD p 0)).take j)) ((tbOf m0 (tabs.getD p 0)).getD j 0) = true ∧
      0 ≤ (opOf (incs m1 ((tbOf m0 (tabs.getD p 0)).take j)) ((tbOf m0 (tabs.getD p 0)).getD j 0)).2.2.2 ∧ (opOf (incs m1 ((tbOf m0 (tabs.getD p 0)).take j)) ((tbOf m0 (tabs.getD p 0)).getD j 0)).2.2.2 ≤ 1000 := by
  obtain ⟨t1, t2, t3⟩ := FR_at hF hp hal
  have g1 := (hF.2.2.1 p hp).1
  obtain ⟨o1, o2, o3, o4, o5, o6, o7⟩ := op_of hF hn hk (t3 j hj) hc
  obtain ⟨i1, i2, i3⟩ := incs_at (l := (tbOf m0 (tabs.getD p 0)).take j) (xs := (s.1.getD p []).take j) hn hk (by rw [List.length_take, List.length_take, t2, g1]) (fun i hi => by
    rw [List.length_take] at hi
    have := t3 i (by omega)
    simp only [List.getD, List.getElem?_take] at this ⊢
    rw [if_pos (by omega), if_pos (by omega)]
    exact this)
  have hn' : (keys (incs m1 ((tbOf m0 (tabs.getD p 0)).take j))).Nodup := by rw [i1]; exact hn
  obtain ⟨q1, q2⟩ := op_get hn' (i := ((s.1.getD p []).getD j 0 - 1).toNat) (by rw [i2]; exact o2)
  rw [i1, ← o3] at q1 q2
  have hc1 := cnt_pos ((((s.1.getD p []).getD j 0 - 1).toNat : Int) + 1) ((s.1.getD p []).take j)
  have hl : ((s.1.getD p []).take j).length ≤ 16 := by rw [List.length_take]; omega
  have e1 := hF.2.1.2.2.2 _ o2
  have hcl := cntM_le (y := (s.1.getD p []).getD j 0) hF
  refine ⟨q2, ?_⟩
  rw [q1, i3 _ o2, e1]
  rw [show (((((s.1.getD p []).getD j 0 - 1).toNat : Nat) : Int) + 1) = (s.1.getD p []).getD j 0 by omega] at *
  simp only []
  omega
theorem take_rep {l : List Int} {j : Nat} (hl : l.length = 16) (hj : j < 16) : (l.take j ++ List.replicate (16 - j) (-1)).set j (l.getD j 0) = l.take (j + 1) ++ List.replicate (16 - (j + 1)) (-1) := by
  have h1 : (l.take j).length = j := by rw [List.length_take]; omega
  have h2 : List.replicate (16 - j) (-1 : Int) = -1 :: List.replicate (16 - (j + 1)) (-1) := by rw [show 16 - j = (16 - (j + 1)) + 1 by omega]; rfl
  have h3 : l.take (j + 1) = l.take j ++ [l.getD j 0] := by
    rw [List.take_add_one, List.getElem?_eq_getElem (by omega)]
    simp [show j < l.length by omega]
  rw [h2, List.set_append_right _ _ (by omega), h1, Nat.sub_self, List.set_cons_zero, h3, List.append_assoc]
  rfl
theorem take_rep' {l : List Int} {j : Nat} (hl : l.length = 16) (hj : j < 16) (h : l.getD j 0 = -1) : l.take j ++ List.replicate (16 - j) (-1) = l.take (j + 1) ++ List.replicate (16 - (j + 1)) (-1) := by
  rw [← take_rep hl hj, h]
  have h1 : (l.take j).length = j := by rw [List.length_take]; omega
  have h2 : List.replicate (16 - j) (-1 : Int) = -1 :: List.replicate (16 - (j + 1)) (-1) := by rw [show 16 - j = (16 - (j + 1)) + 1 by omega]; rfl
  rw [h2, List.set_append_right _ _ (by omega), h1, Nat.sub_self, List.set_cons_zero]
theorem incs_next {m1 : OM} {l : List Int} {j : Nat} (hj : j < l.length) : incs m1 (l.take (j + 1)) = inc (incs m1 (l.take j)) (l.getD j 0) := by
  have h3 : l.take (j + 1) = l.take j ++ [l.getD j 0] := by
    rw [List.take_add_one, List.getElem?_eq_getElem hj]
    simp [hj]
  rw [h3, incs_snoc]
theorem fdo_eq (s : FS) (mean kind proc name size fd to most : Int) : fdo s mean (kind, proc, name, size, fd, to, most) =
    if (kind = 1 ∨ kind = 2) ∧ idx (s.1.getD proc.toNat []) 0 < 0 then (s, 4, 0)
    else if kind = 1 then (((putS s proc.toNat (idx (s.1.getD proc.toNat []) 0).toNat (s.2.2.1.length + 1)).1, s.2.1, s.2.2.1 ++ [name], s.2.2.2.1 ++ [size], s.2.2.2.2 ++ [0]), 0, idx (s.1.getD proc.toNat []) 0)
    else if kind = 2 then (putS s proc.toNat (idx (s.1.getD proc.toNat []) 0).toNat (mean + 1), 0, idx (s.1.getD proc.toNat []) 0)
    else if (kind = 3 ∧ (to < 0 ∨ 15 < to)) ∨ (kind = 6 ∧ (most < 0 ∨ 1099511627776 < most)) ∨ (kind = 5 ∧ most < 1) then (s, 2, 0)
    else if kind = 3 then (putS s proc.toNat to.toNat (mean + 1), 0, to)
    else if kind = 4 then (putS s proc.toNat fd.toNat 0, 0, cntM (mean + 1) (putS s proc.toNat fd.toNat 0).1)
    else if kind = 6 then ((s.1, s.2.1, s.2.2.1, s.2.2.2.1, s.2.2.2.2.set mean.toNat most), 0, most)
    else if s.2.2.2.1.getD mean.toNat 0 - s.2.2.2.2.getD mean.toNat 0 > 0 then
      ((s.1, s.2.1, s.2.2.1, s.2.2.2.1, s.2.2.2.2.set mean.toNat (s.2.2.2.2.getD mean.toNat 0 + min (s.2.2.2.1.getD mean.toNat 0 - s.2.2.2.2.getD mean.toNat 0) most)), 0, min (s.2.2.2.1.getD mean.toNat 0 - s.2.2.2.2.getD mean.toNat 0) most)
    else ((s.1, s.2.1, s.2.2.1, s.2.2.2.1, s.2.2.2.2.set mean.toNat (s.2.2.2.2.getD mean.toNat 0 + 0)), 0, 0) := rfl
theorem FR_place {s : FS} {tabs : List Int} {m0 : TM} {m1 : OM} (h : FR s tabs m0 m1) (hn : (keys m1).Nodup) (hk : ∀ e ∈ m1, 0 ≤ e.1) {c x v : Int} (hs : same m1 c x) (hc : 0 ≤ c) (hv : 0 ≤ v ∧ v ≤ 1099511627776) :
    FR (s.1, s.2.1, s.2.2.1, s.2.2.2.1, s.2.2.2.2.set (x - 1).toNat v) tabs m0 (mput tyopen m1 c ((opOf m1 c).1, (opOf m1 c).2.1, v, (opOf m1 c).2.2.2)) := by
  obtain ⟨o1, o2, o3, o4, o5, _, _⟩ := op_of h hn hk hs hc
  have hl := h.2.1
  have hpl : (x - 1).toNat < s.2.2.2.2.length := by have := hl.1; have := hl.2.2.1; omega
  refine FR_ops h (put_keys hn hs hc) ?_ ?_ rfl rfl
  · rw [o5]
    have := ops_set (s' := (s.1, s.2.1, s.2.2.1, s.2.2.2.1, s.2.2.2.2.set (x - 1).toNat v)) (y := (s.2.2.1.getD (x - 1).toNat 0, s.2.2.2.1.getD (x - 1).toNat 0, v, cntM x s.1)) hn hl o2 ⟨rfl, rfl, by simp⟩ (fun j hj => ⟨rfl, rfl, by
      show (s.2.2.2.2.set _ _).getD _ _ = _
      rw [getD_set' hpl, if_neg (fun e => hj e.symm)], rfl⟩) (by
      show _ = (_, _, (s.2.2.2.2.set _ _).getD _ _, _)
      rw [getD_set' hpl, if_pos rfl, show (((x - 1).toNat : Nat) : Int) + 1 = x by omega])
    rw [← o3] at this
    exact this
  · intro i hi
    have := h.2.2.2 i hi
    show _ ∧ _ ∧ 0 ≤ (s.2.2.2.2.set _ _).getD _ _ ∧ (s.2.2.2.2.set _ _).getD _ _ ≤ _
    rw [getD_set' hpl]
    refine ⟨this.1, this.2.1, ?_⟩
    split
    · exact hv
    · exact this.2.2
theorem row_set {m : List (List Int)} {k q : Int} {r : List Int} (h0 : 0 ≤ k) (h1 : k < m.length) (hq : 0 ≤ q) : row (m.set k.toNat r) q = if k = q then r else row m q := by
  unfold row
  rw [getD_set' (by omega)]
  by_cases e : k = q
  · rw [if_pos (by omega), if_pos e]
  · rw [if_neg (by omega), if_neg e]
theorem upto_zero (want : List (List Int)) : upto Z64 want 0 0 := by
  refine ⟨rfl, fun p hp => ?_, fun p hp => by omega, fun i hi => by omega⟩
  have : p = 0 ∨ p = 1 ∨ p = 2 ∨ p = 3 := by omega
  rcases this with rfl | rfl | rfl | rfl <;> rfl
theorem row_def {out : List (List Int)} {k : Int} (d : List Int) (h0 : 0 ≤ k) (h : k < out.length) : out.getD k.toNat d = row out k := by
  unfold row
  simp [List.getD, show k.toNat < out.length by omega]
theorem upto_set {out want : List (List Int)} {k j v : Int} (h : upto out want k j) (k0 : 0 ≤ k) (k1 : k < 4) (j0 : 0 ≤ j) (j1 : j < 16) (hv : v = (row want k).getD j.toNat 0) : upto (out.set k.toNat ((row out k).set j.toNat v)) want k (j + 1) := by
  obtain ⟨h1, h2, h3, h4⟩ := h
  have hr := h2 k.toNat (by omega)
  rw [Int.toNat_of_nonneg k0] at hr
  refine ⟨by simpa using h1, fun p hp => ?_, fun p hp => ?_, fun i hi => ?_⟩
  · rw [row_set k0 (by omega) (by omega)]
    split
    · simpa using hr
    · exact h2 p hp
  · rw [row_set k0 (by omega) (by omega), if_neg (by omega)]
    exact h3 p hp
  · rw [row_set k0 (by omega) k0, if_pos rfl, getD_set' (by omega)]
    by_cases e : j.toNat = i
    · rw [if_pos e, hv, e]
    · rw [if_neg e]; exact h4 i (by omega)
theorem upto_next {out want : List (List Int)} {k j : Int} (h : upto out want k j) (k0 : 0 ≤ k) (k1 : k < 4) (hj : 16 ≤ j) (hw : (row want k).length = 16) : upto out want (k + 1) 0 := by
  obtain ⟨h1, h2, h3, h4⟩ := h
  have hr := h2 k.toNat (by omega)
  rw [Int.toNat_of_nonneg k0] at hr
  refine ⟨h1, h2, fun p hp => ?_, fun i hi => by omega⟩
  by_cases e : (p : Int) = k
  · rw [e]
    exact getD_ext (by omega) fun i hi => h4 i (by omega)
  · exact h3 p (by omega)
theorem upto_all {out want : List (List Int)} {k j : Int} (h : upto out want k j) (hk : 4 ≤ k) (hw : want.length = 4) : out = want := by
  obtain ⟨h1, h2, h3, h4⟩ := h
  refine List.ext_getElem (by omega) fun p g1 g2 => ?_
  have := h3 p (by omega)
  unfold row at this
  simp only [Int.toNat_natCast] at this
  simpa [List.getD, g1, g2] using this
theorem set_twice {out : List (List Int)} {k j a v : Int} {d d' : List Int} (h0 : 0 ≤ k) (h : k < out.length) : (out.set k.toNat ((out.getD k.toNat d).set j.toNat a)).set k.toNat (((out.set k.toNat ((out.getD k.toNat d).set j.toNat a)).getD k.toNat d').set j.toNat v) = out.set k.toNat ((row out k).set j.toNat v) := by
  rw [row_def d' h0 (by simpa using h), row_set h0 h h0, if_pos rfl, List.set_set, List.set_set, row_def d h0 h]
theorem holdI_row {tabs : List Int} {m0 : TM} {m1 : OM} {k : Int} (h0 : 0 ≤ k) (h : k < tabs.length) : row (holdI tabs m0 m1) k = if tabs.getD k.toNat 0 = -1 then List.replicate 16 (-1) else holdT m1 (tbOf m0 (tabs.getD k.toNat 0)) := by
  unfold row holdI
  simp [List.getD, show k.toNat < tabs.length by omega]
theorem holdI_at {tabs : List Int} {m0 : TM} {m1 : OM} {k j : Int} (h0 : 0 ≤ k) (h : k < tabs.length) (ht : tabs.getD k.toNat 0 < 0 → tabs.getD k.toNat 0 = -1) (hl : 0 ≤ tabs.getD k.toNat 0 → (tbOf m0 (tabs.getD k.toNat 0)).length = 16) (j0 : 0 ≤ j) (j1 : j < 16) :
    (row (holdI tabs m0 m1) k).length = 16 ∧ (row (holdI tabs m0 m1) k).getD j.toNat 0 = if tabs.getD k.toNat 0 < 0 then -1 else if (tbOf m0 (tabs.getD k.toNat 0)).getD j.toNat 0 = -1 then -1 else max (opOf m1 ((tbOf m0 (tabs.getD k.toNat 0)).getD j.toNat 0)).1 0 := by
  rw [holdI_row h0 h]
  by_cases e : tabs.getD k.toNat 0 < 0
  · rw [if_pos (ht e), if_pos e]
    refine ⟨by simp, ?_⟩
    rw [List.getD, List.getElem?_replicate, if_pos (by omega)]; rfl
  · have hl' := hl (by omega)
    rw [if_neg (by omega), if_neg e]
    unfold holdT
    refine ⟨by simpa using hl', ?_⟩
    generalize tbOf m0 (tabs.getD k.toNat 0) = l at hl' ⊢
    simp [List.getD, show j.toNat < l.length by omega]
theorem n16_eq : N16 = List.replicate 16 (-1) := rfl
theorem e_play (x : List FO × Unit) (hp : x.1.length * 56 ≤ 140737488355328) (hl : LensL cPlay.as x) : E_play x := by
  obtain ⟨x, u⟩ := x
  simp only [] at hp
  unfold E_play
  simp only [RR_eq, R8_eq, R32_eq]
  simp (maxSteps := 10000000) only [Bool.not_eq_true', Bool.not_eq_false', Bool.not_eq_true, Bool.not_eq_false, beq_self_eq_true, decide_eq_true_eq, decide_eq_false_iff_not, Bool.not_false, Bool.not_true, beq_iff_eq, beq_eq_false_iff_ne, bne_iff_ne, ne_eq, bne_eq_false_iff_eq, holds_iff, true_and, and_true, and_self, eq_self, List.length_cons, List.length_nil, List.length_append, List.length_set, List.length_replicate, List.set_cons_zero, cond_true, cond_false, Bool.false_eq_true, Bool.true_eq_false, forall_const, false_imp_iff, imp_self, implies_true, and_imp, Decidable.not_not, Bool.and_eq_true, Bool.or_eq_true, Bool.and_eq_false_iff, Bool.or_eq_false_iff, ← List.length_eq_zero_iff, or_self, or_false, false_or, Prod.forall, Int.reduceEq, Int.reduceLT, Int.reduceLE, List.nil_append, Nat.zero_add, Int.toNat_zero, List.drop_zero, List.length_drop, List.length_take, not_true_eq_false, not_false_eq_true,  pair_eta]
  rintro g hg
  refine ⟨by omega, ⟨by omega, f0, rfl, FR_start hg⟩, ?_⟩
  rintro tabs e k m0 m1 k0 k1 ⟨s, hs, hF⟩ hl4 hrefs hel _ _ _ hnd0 hpool0 hnd1 hpool1
  have hnd : (keys m1).Nodup := hnd1
  have hk0 : ∀ e ∈ m0, 0 ≤ e.1 := fun e he => (hpool0 e.1 e.2 he).1
  have hk1 : ∀ e ∈ m1, 0 ≤ e.1 := fun e he => (hpool1 e.1 e.2.1 e.2.2.1 e.2.2.2.1 e.2.2.2.2 he).1
  refine ⟨fun hlt => ⟨⟨k0, hlt⟩, ?_⟩, fun hge => ?_⟩
  · have hek : (e.length : Int) = k := by
      have := frun_e hs
      rw [this, List.length_take]; omega
    have leaf : ∀ {s' : FS} {a : FA} {tabs' : List Int} {m0' : TM} {m1' : OM}, fone s (opAt x k) = (s', a) → FR s' tabs' m0' m1' →
        (e.length + 1 ≤ 9223372036854775807 ∧ (e.length + 1 + (e.length + 1) / 4 + 192) * 16 ≤ 281474976710656) ∧ (-9223372036854775808 ≤ k + 1 ∧ k + 1 ≤ 9223372036854775807) ∧
          (0 ≤ k + 1 ∧ k + 1 ≤ x.length ∧ ∃ s, frun (x.take (k + 1).toNat) = (s, e ++ [a]) ∧ FR s tabs' m0' m1') ∧ (x.length - (k + 1)).toNat < (x.length - k).toNat := fun hf hF' =>
      ⟨⟨by omega, by omega⟩, ⟨by omega, by omega⟩, ⟨by omega, by omega, _, frun_next k0 hlt hs hf, hF'⟩, by omega⟩
    generalize opAt x k = o at leaf ⊢
    obtain ⟨kind, proc, name, size, fd, to, most⟩ := o
    simp only []
    have hbase := hF.1
    refine ⟨fun hkind => leaf (by unfold fone; rw [if_pos (by omega)]) hF, fun hk_1 hk_2 => ?_⟩
    refine ⟨fun hp0 => ⟨fun hp4 => ?_, fun hp4 => leaf (by unfold fone; rw [if_neg (by omega), if_pos (fun h => absurd h.2.1 (show ¬ proc < 4 by omega))]) hF⟩, fun hp0 => leaf (by unfold fone; rw [if_neg (by omega), if_pos (fun h => absurd h.1 (show ¬ 0 ≤ proc by omega))]) hF⟩
    have hp4 : proc.toNat < 4 := by omega
    obtain ⟨g1, g2, g3, _, _⟩ := hF.2.2.1 proc.toNat hp4
    have hml := FR_row hF hp4
    have etab : tabs.getD proc.toNat (-1) = tabs.getD proc.toNat 0 := getD_def (by omega) _ _
    rw [etab]
    refine ⟨⟨by omega, by omega⟩, fun htab => leaf ?_ hF, fun htab => ⟨⟨by omega, by omega⟩, ?_⟩⟩
    · have htab : tabs.getD proc.toNat 0 < (0 : Int) := htab
      have : s.2.1.getD proc.toNat false ≠ true := fun e => by have := g2.1 e; omega
      unfold fone; rw [if_neg (by omega), if_pos (fun h => this h.2.2)]
    have htab : ¬ tabs.getD proc.toNat 0 < (0 : Int) := htab
    have hal : s.2.1.getD proc.toNat false = true := g2.2 (by omega)
    obtain ⟨t1, t2, t3⟩ := FR_at hF hp4 hal
    have hfone : fone s (kind, proc, name, size, fd, to, most) = (if kind = 1 ∧ (size < 0 ∨ 1099511627776 < size) then (s, 2, 0)
        else if kind = 7 ∧ (to < 0 ∨ 3 < to ∨ s.2.1.getD to.toNat false = true) then (s, 6, 0)
        else if kind = 7 then ((s.1.set to.toNat (row s.1 proc), s.2.1.set to.toNat true, s.2.2), 0, to)
        else if kind ≠ 1 ∧ fmean s (kind, proc, name, size, fd, to, most) < 0 then (s, 3, 0)
        else fdo s (fmean s (kind, proc, name, size, fd, to, most)) (kind, proc, name, size, fd, to, most)) := by
      unfold fone
      rw [if_neg (by omega), if_neg (fun h => h ⟨show 0 ≤ proc by omega, show proc < 4 by omega, hal⟩)]
    have erow : row s.1 proc = s.1.getD proc.toNat [] := rfl
    have hnum := fun (j : Nat) (hj : j < 16) => same_neg hk1 (t3 j hj)
    have hlea : idx (tbOf m0 (tabs.getD proc.toNat 0)) (-1) = idx (s.1.getD proc.toNat []) 0 := idx_eq (by rw [t2, g1]) (fun j hj => by
      obtain ⟨q1, q2, q3, q4⟩ := hnum j (by omega)
      constructor
      · intro e; exact q1.1 (by omega)
      · intro e; exact q4 (q1.2 e))
    have hlt16 := fun (h : 0 ≤ idx (s.1.getD proc.toNat []) 0) => idx_get h
    rw [g1] at hlt16
    clear g3
    refine ⟨fun h1 => ?_, fun h1 => ⟨fun h7 => ?_, fun h7 => ?_⟩⟩
    · subst h1
      refine ⟨fun hz => leaf (by rw [hfone, if_pos ⟨rfl, hz⟩]) hF, fun hz1 hz2 => ⟨⟨t1, t2⟩, fun hl => ?_, fun hl a ha hna => ?_⟩⟩
      · have hli := lea_neg hl
        rw [hlea] at hli
        refine leaf ?_ hF
        rw [hfone, if_neg (by omega), if_neg (by omega), if_neg (by omega), if_neg (fun h => h.1 rfl)]
        unfold fdo
        exact if_pos ⟨.inl rfl, hli⟩
      · obtain ⟨hl0, hl1⟩ := lea_pos hl
        rw [hlea] at hl0 hl1
        obtain ⟨l1, l2⟩ := hlt16 hl0
        have hna : mhas tyopen m1 a = false := hna
        have hopen := FR_open (name := name) (size := size) hF hp4 (show (idx (s.1.getD proc.toNat []) 0).toNat < 16 by omega) hal l2 ha hna ⟨by omega, by omega⟩
        have ev : opOf (mput tyopen m1 a (name, size, 0, 0)) a = (name, size, 0, 0) := by
          show mval tyopen _ a = _
          rw [mval_put, if_pos rfl]
        have em : mhas tyopen (mput tyopen m1 a (name, size, 0, 0)) a = true := by rw [mhas_put]; simp
        have ei : inc (mput tyopen m1 a (name, size, 0, 0)) a = mput tyopen m1 a (name, size, 0, 1) := by
          rw [inc_pos ha, ev]
          exact mput_put (t := tyopen)
        have hf : fone s (1, proc, name, size, fd, to, most) = (((putS s proc.toNat (idx (s.1.getD proc.toNat []) 0).toNat (s.2.2.1.length + 1)).1, s.2.1, s.2.2.1 ++ [name], s.2.2.2.1 ++ [size], s.2.2.2.2 ++ [0]), 0, idx (s.1.getD proc.toNat []) 0) := by
          rw [hfone, if_neg (by omega), if_neg (by omega), if_neg (by omega), if_neg (fun h => h.1 rfl)]
          unfold fdo
          exact (if_neg (fun h => by have h2 : idx (s.1.getD proc.toNat []) 0 < 0 := h.2; omega)).trans (if_pos rfl)
        have q1 : 0 ≤ (opOf (mput tyopen m1 a (name, size, 0, 0)) a).2.2.2 ∧ (opOf (mput tyopen m1 a (name, size, 0, 0)) a).2.2.2 ≤ 1000 := by rw [ev]; exact ⟨Int.le_refl 0, (by decide : (0 : Int) ≤ 1000)⟩
        have hF2 : FR ((putS s proc.toNat (idx (s.1.getD proc.toNat []) 0).toNat (s.2.2.1.length + 1)).1, s.2.1, s.2.2.1 ++ [name], s.2.2.2.1 ++ [size], s.2.2.2.2 ++ [0]) tabs (tset m0 (tabs.getD proc.toNat 0) (idx (s.1.getD proc.toNat []) 0) a) (inc (mput tyopen m1 a (name, size, 0, 0)) a) := by
          rw [ei]; exact hopen
        rw [hl1]
        exact ⟨⟨⟨t1, by omega, by omega⟩, ⟨ha, em⟩, q1.1, q1.2⟩, leaf hf hF2⟩
    · subst h7
      refine ⟨fun hto => ⟨fun hto4 => ?_, fun hto4 => leaf (by rw [hfone, if_neg (by omega), if_pos ⟨rfl, .inr (.inl (by omega))⟩]) hF⟩, fun hto => leaf (by rw [hfone, if_neg (by omega), if_pos ⟨rfl, .inl (by omega)⟩]) hF⟩
      have hto' : to.toNat < 4 := by omega
      have etab2 : tabs.getD to.toNat (-1) = tabs.getD to.toNat 0 := getD_def (by omega) _ _
      obtain ⟨f1, f2, f3, _, _⟩ := hF.2.2.1 to.toNat hto'
      rw [etab2]
      refine ⟨⟨by omega, by omega⟩, fun hta => leaf ?_ hF, fun hta a ha hna => ?_⟩
      · have hta : ¬ tabs.getD to.toNat 0 < (0 : Int) := hta
        rw [hfone, if_neg (by omega), if_pos ⟨rfl, .inr (.inr (f2.2 (by omega)))⟩]
      · have hta : tabs.getD to.toNat 0 < (0 : Int) := hta
        have hat : s.2.1.getD to.toNat false = false := by
          cases e : s.2.1.getD to.toNat false
          · rfl
          · have := f2.1 e; omega
        have hna : mhas TB m0 a = false := hna
        have hne : ¬ tabs.getD proc.toNat 0 = a := fun e => by rw [e, hna] at t1; cases t1
        have htb : tbOf (mput TB m0 a N16) (tabs.getD proc.toNat 0) = tbOf m0 (tabs.getD proc.toNat 0) := by
          show mval TB _ _ = mval TB _ _
          rw [mval_put, if_neg (fun e => hne e.symm)]
        rw [htb]
        have hmm : ∀ l : List Int, mput TB (mput TB m0 a N16) a l = mput TB m0 a l := fun l => mput_put (t := TB)
        simp only [hmm]
        refine ⟨⟨rfl, rfl⟩, ?_⟩
        rintro j m0' m1' j0 j1 rfl rfl _ _ _ _ _ _
        have hrd : ∀ l : List Int, mval TB (mput TB m0 a l) (tabs.getD proc.toNat 0) = tbOf m0 (tabs.getD proc.toNat 0) := fun l => by
          show mval TB _ _ = mval TB _ _
          rw [mval_put, if_neg (fun e => hne e.symm)]
        simp only [hrd]
        have hp0' : 0 ≤ tabs.getD proc.toNat 0 := by omega
        have hjl : ∀ h : j < 16, (tbOf m0 (tabs.getD proc.toNat 0)).getD j.toNat (-1) = (tbOf m0 (tabs.getD proc.toNat 0)).getD j.toNat 0 := fun h => getD_def (by omega) _ _
        have hts : ∀ (l : List Int) (c : Int), tset (mput TB m0 a l) a j c = mput TB m0 a (l.set j.toNat c) := fun l c => by
          have e1 : tbOf (mput TB m0 a l) a = l := by
            show mval TB _ _ = _
            rw [mval_put, if_pos rfl]
          unfold tset
          rw [e1]
          exact mput_put (t := TB)
        refine ⟨fun hj => ⟨hp0', ⟨j0, by omega⟩, by rw [mhas_put, t1]; simp, fun hc => ?_, fun hc => ?_⟩, fun hj => ⟨⟨by omega, by omega⟩, ?_⟩⟩
        · rw [hjl hj] at hc ⊢
          have hc : ¬ (tbOf m0 (tabs.getD proc.toNat 0)).getD j.toNat 0 < (0 : Int) := hc
          have hc0 : 0 ≤ (tbOf m0 (tabs.getD proc.toNat 0)).getD j.toNat 0 := by omega
          obtain ⟨q1, q2, q3⟩ := fork_op hF hnd hk1 hp4 hal (show j.toNat < 16 by omega) hc0
          have e16 : (16 - j).toNat = 16 - j.toNat := by omega
          have e17 : (16 - (j + 1)).toNat = 16 - (j.toNat + 1) := by omega
          have e18 : (j + 1).toNat = j.toNat + 1 := by omega
          refine ⟨⟨⟨by rw [mhas_put]; simp, by omega, by omega⟩, ⟨hc0, q1⟩, q2, q3⟩, ⟨by omega, by omega⟩, ⟨by omega, by omega, ?_, ?_⟩, by omega⟩
          · rw [hts, e16, e17, e18, take_rep t2 (by omega)]
          · rw [e18, incs_next (by omega)]
        · rw [hjl hj] at hc
          have hc : (tbOf m0 (tabs.getD proc.toNat 0)).getD j.toNat 0 < (0 : Int) := hc
          have hcm := (hnum j.toNat (by omega)).2.2.2 hc
          have e16 : (16 - j).toNat = 16 - j.toNat := by omega
          have e17 : (16 - (j + 1)).toNat = 16 - (j.toNat + 1) := by omega
          have e18 : (j + 1).toNat = j.toNat + 1 := by omega
          refine ⟨⟨by omega, by omega⟩, ⟨by omega, by omega, ?_, ?_⟩, by omega⟩
          · rw [e16, e17, e18, take_rep' t2 (by omega) hcm]
          · rw [e18, incs_next (by omega), hcm]
            rfl
        · have ej : j.toNat = 16 := by omega
          have hfin := FR_fork hF hnd hk1 hp4 hto' hal hat ha hna rfl
          have e1 : (tbOf m0 (tabs.getD proc.toNat 0)).take j.toNat ++ List.replicate (16 - j).toNat (-1) = tbOf m0 (tabs.getD proc.toNat 0) := by
            rw [ej, show (16 - j).toNat = 0 by omega, List.take_of_length_le (by omega)]
            simp
          have e2 : (tbOf m0 (tabs.getD proc.toNat 0)).take j.toNat = tbOf m0 (tabs.getD proc.toNat 0) := by rw [ej, List.take_of_length_le (by omega)]
          rw [e1, e2]
          refine leaf ?_ hfin
          rw [hfone, if_neg (by omega), if_neg, if_pos rfl]
          · rfl
          · rintro ⟨_, h | h | h⟩
            · omega
            · omega
            · rw [hat] at h; cases h
    · have hfone2 : fone s (kind, proc, name, size, fd, to, most) = if fmean s (kind, proc, name, size, fd, to, most) < 0 then (s, 3, 0) else fdo s (fmean s (kind, proc, name, size, fd, to, most)) (kind, proc, name, size, fd, to, most) := by
        rw [hfone, if_neg (fun h => h1 h.1), if_neg (fun h => h7 h.1), if_neg h7]
        by_cases hm : fmean s (kind, proc, name, size, fd, to, most) < 0
        · rw [if_pos ⟨h1, hm⟩, if_pos hm]
        · rw [if_neg (fun h => hm h.2), if_neg hm]
      refine ⟨fun hfd => ⟨fun hfd16 => ?_, fun hfd16 => leaf (by rw [hfone2, if_pos]; unfold fmean; rw [if_neg (fun h => absurd h.2 (show ¬ fd < 16 by omega))]; decide) hF⟩, fun hfd => leaf (by rw [hfone2, if_pos]; unfold fmean; rw [if_neg (fun h => absurd h.1 (show ¬ 0 ≤ fd by omega))]; decide) hF⟩
      have hfd' : fd.toNat < 16 := by omega
      have hmean : fmean s (kind, proc, name, size, fd, to, most) = (s.1.getD proc.toNat []).getD fd.toNat 0 - 1 := by
        unfold fmean
        exact if_pos ⟨show 0 ≤ fd by omega, show fd < 16 by omega⟩
      have hcc : List.getD (mval TB m0 (tabs.getD proc.toNat 0)) fd.toNat (-1) = (tbOf m0 (tabs.getD proc.toNat 0)).getD fd.toNat 0 := getD_def (l := tbOf m0 (tabs.getD proc.toNat 0)) (by omega) _ _
      have hsm := t3 fd.toNat hfd'
      have hnm := hnum fd.toNat hfd'
      rw [hcc]
      have hbk : tbOf m0 (tabs.getD proc.toNat 0) = tbOf m0 (tabs.getD proc.toNat 0) := rfl
      refine ⟨by omega, ⟨by omega, by omega⟩, t1, fun hc => leaf ?_ hF, fun hc => ?_⟩
      · have hc : (tbOf m0 (tabs.getD proc.toNat 0)).getD fd.toNat 0 < (0 : Int) := hc
        have := hnm.1.1 hc
        rw [hfone2, hmean, if_pos (by omega)]
      have hc : ¬ (tbOf m0 (tabs.getD proc.toNat 0)).getD fd.toNat 0 < (0 : Int) := hc
      have hc0 : 0 ≤ (tbOf m0 (tabs.getD proc.toNat 0)).getD fd.toNat 0 := by omega
      obtain ⟨o1, o2, o3, o4, o5, o6, o7⟩ := op_of hF hnd hk1 hsm hc0
      generalize hcg : (tbOf m0 (tabs.getD proc.toNat 0)).getD fd.toNat 0 = c at *
      generalize hxg : (s.1.getD proc.toNat []).getD fd.toNat 0 = xx at *
      rw [hmean, if_neg (by omega)] at hfone2
      have hrf : 0 ≤ (opOf m1 c).2.2.2 ∧ (opOf m1 c).2.2.2 ≤ 1000 := by rw [o5]; exact ⟨o6, o7⟩
      refine ⟨by omega, ⟨by omega, by omega⟩, t1, fun h2 => ?_, fun h2 => ⟨fun h3 => ?_, fun h3 => ⟨fun h4 => ?_, fun h4 => ⟨fun h6 => ?_, fun h6 => ?_⟩⟩⟩⟩
      · subst h2
        refine ⟨⟨t1, t2⟩, fun hl => leaf ?_ hF, fun hl => ?_⟩
        · have hli := lea_neg hl
          rw [hlea] at hli
          rw [hfone2, fdo_eq, if_pos ⟨.inr rfl, hli⟩]
        · obtain ⟨hl0, hl1⟩ := lea_pos hl
          rw [hlea] at hl0 hl1
          obtain ⟨l1, l2⟩ := hlt16 hl0
          rw [hl1]
          have hset := FR_set hF hnd hk1 hp4 (show (idx (s.1.getD proc.toNat []) 0).toNat < 16 by omega) hal l2 hsm hc0
          rw [← inc_pos hc0] at hset
          refine ⟨⟨⟨t1, by omega, by omega⟩, ⟨hc0, o4⟩, hrf⟩, leaf ?_ hset⟩
          rw [hfone2, fdo_eq, if_neg (by omega), if_neg (by omega), if_pos rfl, show xx - 1 + 1 = xx by omega]
      · subst h3
        refine ⟨fun hto => leaf ?_ hF, fun hto1 hto2 => ⟨fun hne => ?_, fun he => leaf ?_ hF⟩⟩
        · rw [hfone2, fdo_eq, if_neg (by omega), if_neg (by omega), if_neg (by omega), if_pos (.inl ⟨rfl, by omega⟩)]
        · have hto' : to.toNat < 16 := by omega
          have hsmt := t3 to.toNat hto'
          have hnmt := hnum to.toNat hto'
          have hput : fone s (3, proc, name, size, fd, to, most) = (putS s proc.toNat to.toNat xx, 0, to) := by
            rw [hfone2, fdo_eq, if_neg (by omega), if_neg (by omega), if_neg (by omega), if_neg (by omega), if_pos rfl, show xx - 1 + 1 = xx by omega]
          generalize hcg2 : (tbOf m0 (tabs.getD proc.toNat 0)).getD to.toNat 0 = c2 at *
          generalize hxg2 : (s.1.getD proc.toNat []).getD to.toNat 0 = x2 at *
          have hdrp : 0 ≤ c2 → mhas tyopen m1 c2 = true ∧ 0 ≤ (opOf m1 c2).2.2.2 ∧ (opOf m1 c2).2.2.2 ≤ 1000 := fun h => by
            obtain ⟨_, _, _, p4, p5, p6, p7⟩ := op_of hF hnd hk1 hsmt h
            rw [p5]; exact ⟨p4, p6, p7⟩
          by_cases hc2 : 0 ≤ c2
          · obtain ⟨hFd, _⟩ := FR_drop hF hnd hk1 hp4 hto' hal hxg2 hsmt hc2
            rw [← dec_pos hc2] at hFd
            have htd : tdrop m0 (tabs.getD proc.toNat 0) to = mput TB m0 (tabs.getD proc.toNat 0) ((tbOf m0 (tabs.getD proc.toNat 0)).set to.toNat (-1)) := tdrop_pos (by rw [hcg2]; exact hc2)
            rw [← htd] at hFd
            have hky : keys (dec m1 c2) = keys m1 := by rw [dec_pos hc2]; exact put_keys hnd hsmt hc2
            have hnd' : (keys (dec m1 c2)).Nodup := by rw [hky]; exact hnd
            have hk1' := keys_mem hky hk1
            have hsm' : same (dec m1 c2) c xx := (same_keys hky).2 hsm
            have hal' : (putS s proc.toNat to.toNat 0).2.1.getD proc.toNat false = true := hal
            obtain ⟨_, _, _, p4, p5, p6, p7⟩ := op_of hFd hnd' hk1' hsm' hc0
            have hz : ((putS s proc.toNat to.toNat 0).1.getD proc.toNat []).getD to.toNat 0 = 0 := by
              show ((s.1.set _ _).getD _ _).getD _ _ = _
              rw [getD_set' hml.1, if_pos rfl, getD_set' (by rw [hml.2]; exact hto'), if_pos rfl]
            have hset := FR_set hFd hnd' hk1' hp4 hto' hal' hz hsm' hc0
            rw [← inc_pos hc0, putS_put hml.1] at hset
            obtain ⟨s1, _, _⟩ := FR_at hFd hp4 hal'
            have q : 0 ≤ (opOf (dec m1 c2) c).2.2.2 ∧ (opOf (dec m1 c2) c).2.2.2 ≤ 1000 := by rw [p5]; exact ⟨p6, p7⟩
            exact ⟨⟨⟨⟨t1, by omega, by omega⟩, t2⟩, hdrp⟩, ⟨⟨s1, by omega, by omega⟩, ⟨hc0, p4⟩, q⟩, leaf hput hset⟩
          · have hc2n : c2 < 0 := by omega
            have hx2 := hnmt.1.1 hc2n
            have htd : tdrop m0 (tabs.getD proc.toNat 0) to = m0 := by unfold tdrop; rw [hcg2, if_pos hc2n]
            have hdc : dec m1 c2 = m1 := by unfold dec; rw [if_pos hc2n]
            rw [htd, hdc]
            have hset := FR_set hF hnd hk1 hp4 hto' hal (by rw [hxg2]; exact hx2) hsm hc0
            rw [← inc_pos hc0] at hset
            exact ⟨⟨⟨⟨t1, by omega, by omega⟩, t2⟩, hdrp⟩, ⟨⟨t1, by omega, by omega⟩, ⟨hc0, o4⟩, hrf⟩, leaf hput hset⟩
        · subst he
          rw [hfone2, fdo_eq, if_neg (by omega), if_neg (by omega), if_neg (by omega), if_neg (by omega), if_pos rfl, show xx - 1 + 1 = xx by omega]
          have := putS_same hml.1 (j := to.toNat) (by rw [hml.2]; exact hfd')
          rw [hxg] at this
          exact congrArg (fun z => (z, ((0 : Int), to))) this
      · subst h4
        obtain ⟨hFd, hfv⟩ := FR_drop hF hnd hk1 hp4 hfd' hal hxg hsm hc0
        have hev : mval tyopen (dec m1 c) c = ((opOf m1 c).1, (opOf m1 c).2.1, (opOf m1 c).2.2.1, (opOf m1 c).2.2.2 - 1) := by
          rw [dec_pos hc0, mval_put, if_pos rfl]
        rw [← dec_pos hc0] at hFd
        have htd : tdrop m0 (tabs.getD proc.toNat 0) fd = mput TB m0 (tabs.getD proc.toNat 0) ((tbOf m0 (tabs.getD proc.toNat 0)).set fd.toNat (-1)) := tdrop_pos (by rw [hcg]; exact hc0)
        rw [← htd] at hFd
        have hm2 : mhas tyopen (dec m1 c) c = true := by rw [dec_pos hc0, mhas_put]; simp
        rw [hev, hfv]
        refine ⟨⟨⟨⟨t1, by omega, by omega⟩, t2⟩, fun _ => ⟨o4, hrf⟩⟩, hc0, hm2, leaf ?_ hFd⟩
        rw [hfone2, fdo_eq, if_neg (by omega), if_neg (by omega), if_neg (by omega), if_neg (by omega), if_neg (by omega), if_pos rfl, show xx - 1 + 1 = xx by omega]
      · subst h6
        refine ⟨fun hm => leaf ?_ hF, fun hm1 hm2 => ?_⟩
        · rw [hfone2, fdo_eq, if_neg (by omega), if_neg (by omega), if_neg (by omega), if_pos (.inr (.inl ⟨rfl, by omega⟩))]
        · have hpl := FR_place hF hnd hk1 hsm hc0 (v := most) ⟨by omega, by omega⟩
          have hev : mval tyopen (mput tyopen m1 c ((opOf m1 c).1, (opOf m1 c).2.1, most, (opOf m1 c).2.2.2)) c = ((opOf m1 c).1, (opOf m1 c).2.1, most, (opOf m1 c).2.2.2) := by rw [mval_put, if_pos rfl]
          have hm' : mhas tyopen (mput tyopen m1 c ((opOf m1 c).1, (opOf m1 c).2.1, most, (opOf m1 c).2.2.2)) c = true := by rw [mhas_put]; simp
          have hf : fone s (6, proc, name, size, fd, to, most) = ((s.1, s.2.1, s.2.2.1, s.2.2.2.1, s.2.2.2.2.set (xx - 1).toNat most), 0, most) := by
            rw [hfone2, fdo_eq, if_neg (by omega), if_neg (by omega), if_neg (by omega), if_neg (by omega), if_neg (by omega), if_neg (by omega), if_pos rfl]
          have hf' : fone s (6, proc, name, size, fd, to, most) = ((s.1, s.2.1, s.2.2.1, s.2.2.2.1, s.2.2.2.2.set (xx - 1).toNat most), 0, (mval tyopen (mput tyopen m1 c ((opOf m1 c).1, (opOf m1 c).2.1, most, (opOf m1 c).2.2.2)) c).2.2.1) := by rw [hev]; exact hf
          exact ⟨hc0, o4, hc0, hm', leaf hf' hpl⟩
      · have h5 : kind = 5 := by omega
        subst h5
        refine ⟨fun hm => leaf ?_ hF, fun hm => ?_⟩
        · rw [hfone2, fdo_eq, if_neg (by omega), if_neg (by omega), if_neg (by omega), if_pos (.inr (.inr ⟨rfl, by omega⟩))]
        · have hD := hF.2.2.2 (xx - 1).toNat (by have := hF.2.1.1; have := hF.2.1.2.1; omega)
          have ez : (mval tyopen m1 c).2.1 = s.2.2.2.1.getD (xx - 1).toNat 0 := by show (opOf m1 c).2.1 = _; rw [o5]
          have ep : (mval tyopen m1 c).2.2.1 = s.2.2.2.2.getD (xx - 1).toNat 0 := by show (opOf m1 c).2.2.1 = _; rw [o5]
          rw [ez, ep]
          generalize hzg : s.2.2.2.1.getD (xx - 1).toNat 0 = z at *
          generalize hpg : s.2.2.2.2.getD (xx - 1).toNat 0 = pl at *
          have hpl := FR_place hF hnd hk1 hsm hc0 (v := pl + min most (max (z - pl) 0)) ⟨by omega, by omega⟩
          have hf : fone s (5, proc, name, size, fd, to, most) = ((s.1, s.2.1, s.2.2.1, s.2.2.2.1, s.2.2.2.2.set (xx - 1).toNat (pl + min most (max (z - pl) 0))), 0, min most (max (z - pl) 0)) := by
            rw [hfone2, fdo_eq, if_neg (by omega), if_neg (by omega), if_neg (by omega), if_neg (by omega), if_neg (by omega), if_neg (by omega), if_neg (by omega), hzg, hpg]
            by_cases hzp : z - pl > 0
            · rw [if_pos hzp, show min (z - pl) most = min most (max (z - pl) 0) by omega]
            · rw [if_neg hzp, show min most (max (z - pl) 0) = 0 by omega]
          have e1 : (opOf m1 c).1 = (mval tyopen m1 c).1 := rfl
          have e2 : (opOf m1 c).2.1 = z := ez
          have e3 : (opOf m1 c).2.2.2 = (mval tyopen m1 c).2.2.2 := rfl
          rw [e2] at hpl
          have q1 : -9223372036854775808 ≤ z - pl ∧ z - pl ≤ 9223372036854775807 := by omega
          have q2 : -9223372036854775808 ≤ pl + min most (max (z - pl) 0) ∧ pl + min most (max (z - pl) 0) ≤ 9223372036854775807 := by omega
          exact ⟨hc0, o4, hc0, o4, q1, hc0, o4, q2, hc0, o4, leaf hf hpl⟩
  · have hke : k = x.length := by omega
    have hfr : frun x = (s, e) := by
      rw [hke, show (x.length : Int).toNat = x.length by omega, List.take_length] at hs
      exact hs
    have hho := FR_hold hF hnd hk1
    have hbase := hF.1
    have hat : ∀ {i j : Int}, 0 ≤ i → i < 4 → 0 ≤ j → j < 16 → (row (holdI tabs m0 m1) i).length = 16 ∧ (row (holdI tabs m0 m1) i).getD j.toNat 0 = if tabs.getD i.toNat 0 < 0 then -1 else if (tbOf m0 (tabs.getD i.toNat 0)).getD j.toNat 0 = -1 then -1 else max (opOf m1 ((tbOf m0 (tabs.getD i.toNat 0)).getD j.toNat 0)).1 0 := fun {i j} i0 i1 j0 j1 => by
      obtain ⟨_, g2, g3, g4, _⟩ := hF.2.2.1 i.toNat (by omega)
      refine holdI_at i0 (by omega) (fun h => ?_) (fun h => (g4 (g2.2 h)).2.1) j0 j1
      cases e : s.2.1.getD i.toNat false
      · exact (g3 e).1
      · have := g2.1 e; omega
    refine ⟨upto_zero _, ?_⟩
    rintro out i m0' m1' i0 i1 hm0 hm1 hup hol _ _ _ _ _ _ _
    have hm0 := hm0.symm
    subst hm0
    have hm1 := hm1.symm
    subst hm1
    refine ⟨fun hi => ⟨⟨i0, by omega⟩, hup, ?_⟩, fun hi => ?_⟩
    · rintro out2 j m0' m1' j0 j1 hm0 hm1 hup2 hol2 _ _ _ _ _ _ _
      have hm0 := hm0.symm
      subst hm0
      have hm1 := hm1.symm
      subst hm1
      have etab : tabs.getD i.toNat (-1) = tabs.getD i.toNat 0 := getD_def (by omega) _ _
      obtain ⟨_, g2, g3, g4, _⟩ := hF.2.2.1 i.toNat (by omega)
      refine ⟨fun hj => ?_, fun hj => ⟨⟨by omega, by omega⟩, ⟨by omega, by omega, ⟨rfl, rfl⟩, upto_next hup2 i0 hi (by omega) (hat i0 hi (show (0 : Int) ≤ 0 by omega) (by omega)).1⟩, by omega⟩⟩
      obtain ⟨w1, w2⟩ := hat i0 hi j0 hj
      rw [etab]
      have hal : ¬ tabs.getD i.toNat 0 < (0 : Int) → s.2.1.getD i.toNat false = true := fun h => g2.2 (by omega)
      refine ⟨⟨i0, by omega⟩, ⟨j0, by omega⟩, fun h => ⟨h, ?_⟩, fun h => ⟨h, j0, by omega⟩, fun h => ⟨h, (g4 (hal h)).1⟩, fun h hc => ?_, fun h => ⟨⟨by omega, by omega⟩, ⟨by omega, by omega, ⟨rfl, rfl⟩, ?_⟩, by omega⟩⟩
      · have h : ¬ tabs.getD i.toNat 0 < (0 : Int) := h
        omega
      · obtain ⟨t1, t2, t3⟩ := g4 (hal h)
        have hcc : List.getD (mval TB m0 (tabs.getD i.toNat 0)) j.toNat (-1) = (tbOf m0 (tabs.getD i.toNat 0)).getD j.toNat 0 := getD_def (l := tbOf m0 (tabs.getD i.toNat 0)) (by omega) _ _
        rw [hcc] at hc ⊢
        have h : ¬ tabs.getD i.toNat 0 < (0 : Int) := h
        have hc : ¬ (tbOf m0 (tabs.getD i.toNat 0)).getD j.toNat 0 < (0 : Int) := hc
        have hc0 : 0 ≤ (tbOf m0 (tabs.getD i.toNat 0)).getD j.toNat 0 := by omega
        have ht0 : 0 ≤ tabs.getD i.toNat 0 := by omega
        obtain ⟨_, _, _, p4, _, _, _⟩ := op_of hF hnd hk1 (t3 j.toNat (by omega)) hc0
        rw [if_neg h, if_neg (by omega)] at w2
        refine ⟨ht0, ⟨j0, by omega⟩, t1, hc0, p4, ⟨i0, by omega⟩, ⟨j0, by omega⟩, ⟨by omega, by omega⟩, ⟨by omega, by omega, ⟨rfl, rfl⟩, ?_⟩, by omega⟩
        rw [set_twice i0 (by omega)]
        exact upto_set hup2 i0 hi j0 hj w2.symm
      · rw [row_def Z16 i0 (by omega)]
        refine upto_set hup2 i0 hi j0 hj ?_
        rw [w2]
        by_cases h0 : tabs.getD i.toNat 0 < (0 : Int)
        · rw [if_pos h0]
        · rw [if_neg h0]
          obtain ⟨t1, t2, t3⟩ := g4 (hal h0)
          have hcc : List.getD (mval TB m0 (tabs.getD i.toNat 0)) j.toNat (-1) = (tbOf m0 (tabs.getD i.toNat 0)).getD j.toNat 0 := getD_def (l := tbOf m0 (tabs.getD i.toNat 0)) (by omega) _ _
          rw [hcc] at h
          have hc : (tbOf m0 (tabs.getD i.toNat 0)).getD j.toNat 0 < (0 : Int) := h.resolve_left h0
          rw [if_pos ((same_neg hk1 (t3 j.toNat (by omega))).2.2.2 hc)]
    · have := upto_all hup (by omega) (by unfold holdI; simpa using hl4)
      refine ⟨?_, ?_⟩
      · show e = (frun x).2
        rw [hfr]
      · show out = hold (frun x).1
        rw [hfr, this, hho]

end Go.Proofs.Ytpmfgdedkmddlaa.Filesp
