/-
  WheelPlays: sorting, maps, and a step of the reference.
-/
import Derived.Test.YtpnmfoojmodnlaaWheelP0
namespace Go.Proofs.Ytpnmfoojmodnlaa.Wheel
open Go.Sx
set_option maxRecDepth 100000
set_option maxHeartbeats 1000000
set_option linter.unusedSimpArgs false
set_option linter.unusedVariables false

theorem leF_iff {x y : TI2} : leF x y = true ↔ x.1 < y.1 ∨ (x.1 = y.1 ∧ x.2 ≤ y.2) := by unfold leF; simp
theorem leF_trans (a b c : TI2) (h1 : leF a b = true) (h2 : leF b c = true) : leF a c = true := by
  rw [leF_iff] at *; omega
theorem leF_total (a b : TI2) : (leF a b || leF b a) = true := by
  rw [Bool.or_eq_true, leF_iff, leF_iff]; omega
theorem leF_anti {a b : TI2} (h1 : leF a b = true) (h2 : leF b a = true) : a = b := by
  rw [leF_iff] at *
  obtain ⟨a1, a2⟩ := a
  obtain ⟨b1, b2⟩ := b
  simp only [Prod.mk.injEq] at *
  omega
theorem sortF_perm {l : List TI2} : (sortF l).Perm l := List.mergeSort_perm _ _
theorem sortF_pw {l : List TI2} : (sortF l).Pairwise fun a b => leF a b = true := List.pairwise_mergeSort leF_trans leF_total l
theorem sortF_uniq {l l' : List TI2} (h : l'.Perm l) (hs : l'.Pairwise fun a b => leF a b = true) : l' = sortF l :=
  (h.trans sortF_perm.symm).eq_of_pairwise (fun _ _ _ _ h1 h2 => leF_anti h1 h2) hs sortF_pw
theorem sortF_congr {l l' : List TI2} (h : l.Perm l') : sortF l = sortF l' := sortF_uniq (sortF_perm.trans h) sortF_pw
theorem sortI_perm2 {l : List Int} : (sortI l).Perm l := List.mergeSort_perm _ _
theorem sortI_pw {l : List Int} : (sortI l).Pairwise (· ≤ ·) := by
  have := List.pairwise_mergeSort (le := fun x y : Int => decide (x ≤ y)) (fun a b c h h' => by simp only [decide_eq_true_eq] at *; omega) (fun a b => by simp only [Bool.or_eq_true, decide_eq_true_eq]; omega) l
  exact this.imp (by simp)
theorem sortF_len {l : List TI2} : (sortF l).length = l.length := sortF_perm.length_eq
theorem mget_put (m : List (Int × Int)) (k v j : Int) : mget? I64 (mput I64 m k v) j = if k = j then some v else mget? I64 m j := by
  induction m with
  | nil => by_cases h : k = j <;> simp [mput, mget?, h]
  | cons a r ih =>
    by_cases h : a.1 = k
    · by_cases h2 : k = j <;> simp [mput, mget?, h, h2]
    · by_cases h2 : k = j
      · subst h2; simp [mput, mget?, h, ih]
      · simp [mput, mget?, h, ih, h2]
theorem mem_keys {m : List (Int × Int)} {k : Int} : k ∈ m.map Prod.fst ↔ (mget? I64 m k).isSome = true := by
  induction m with
  | nil => simp [mget?]
  | cons a r ih =>
    by_cases h : a.1 = k
    · simp [mget?, h]
    · have h' : ¬ k = a.1 := fun e => h e.symm
      simp only [List.map_cons, List.mem_cons, h', false_or, ih, mget?, h, decide_false, cond_false]
theorem put_keys (m : List (Int × Int)) (k v : Int) : (mput I64 m k v).map Prod.fst = if (mget? I64 m k).isSome = true then m.map Prod.fst else m.map Prod.fst ++ [k] := by
  induction m with
  | nil => rfl
  | cons a r ih =>
    by_cases h : a.1 = k
    · simp [mput, mget?, h]
    · simp only [mput, mget?, h, decide_false, cond_false, List.map_cons, ih]
      split <;> simp
theorem put_nodup {m : List (Int × Int)} (k v : Int) (h : (m.map Prod.fst).Nodup) : ((mput I64 m k v).map Prod.fst).Nodup := by
  rw [put_keys]
  split
  · exact h
  · rename_i hn
    rw [List.nodup_append]
    refine ⟨h, by simp, fun a ha b hb => ?_⟩
    simp only [List.mem_singleton] at hb
    subst hb
    intro e
    subst e
    exact hn (mem_keys.1 ha)
theorem del_sub (m : List (Int × Int)) (k : Int) : ((mdel I64 m k).map Prod.fst).Sublist (m.map Prod.fst) := by
  induction m with
  | nil => exact List.Sublist.refl _
  | cons a r ih =>
    by_cases h : a.1 = k
    · simp [mdel, h]
    · simp only [mdel, h, decide_false, cond_false, List.map_cons]
      exact ih.cons_cons _
theorem mget_del {m : List (Int × Int)} (hn : (m.map Prod.fst).Nodup) (k j : Int) : mget? I64 (mdel I64 m k) j = if k = j then none else mget? I64 m j := by
  induction m with
  | nil => by_cases h : k = j <;> simp [mdel, mget?, h]
  | cons a r ih =>
    simp only [List.map_cons, List.nodup_cons] at hn
    by_cases h : a.1 = k
    · simp only [mdel, h, decide_true, cond_true, mget?]
      by_cases h2 : k = j
      · subst h2
        rw [if_pos rfl]
        cases hc : mget? I64 r k with
        | none => rfl
        | some v =>
          exfalso
          exact hn.1 (by rw [h]; exact mem_keys.2 (by rw [hc]; rfl))
      · simp [h2]
    · simp only [mdel, h, decide_false, cond_false, mget?, ih hn.2]
      by_cases h2 : k = j
      · subst h2; simp [h]
      · simp [h2]
theorem mhas_put {m : List (Int × Int)} {k v j : Int} : mhas I64 (mput I64 m k v) j = true ↔ k = j ∨ mhas I64 m j = true := by
  unfold mhas
  rw [mget_put]
  by_cases h : k = j <;> simp [h]
theorem mval_put {m : List (Int × Int)} {k v j : Int} : mval I64 (mput I64 m k v) j = if k = j then v else mval I64 m j := by
  unfold mval
  rw [mget_put]
  by_cases h : k = j <;> simp [h]
theorem mhas_del {m : List (Int × Int)} (hn : (m.map Prod.fst).Nodup) {k j : Int} : mhas I64 (mdel I64 m k) j = true ↔ k ≠ j ∧ mhas I64 m j = true := by
  unfold mhas
  rw [mget_del hn]
  by_cases h : k = j <;> simp [h]
theorem mval_del {m : List (Int × Int)} (hn : (m.map Prod.fst).Nodup) {k j : Int} (h : k ≠ j) : mval I64 (mdel I64 m k) j = mval I64 m j := by
  unfold mval
  rw [mget_del hn, if_neg h]
theorem del_nodup {m : List (Int × Int)} (hn : (m.map Prod.fst).Nodup) (k : Int) : ((mdel I64 m k).map Prod.fst).Nodup := (del_sub m k).nodup hn
theorem getD_setN {α : Type} {l : List α} {d v : α} {i j : Nat} : (l.set i v).getD j d = if i = j then (if i < l.length then v else d) else l.getD j d := by
  unfold List.getD
  rw [List.getElem?_set]
  by_cases h : i = j
  · subst h
    by_cases h2 : i < l.length
    · simp [h2]
    · simp [h2]
  · simp [h]
def dueL (m : SM) (now : Int) : List TI2 := (m.filter fun e => decide (e.2 ≤ now)).map fun e => (e.2, e.1)
theorem dueK_eq {m : SM} {now : Int} : dueK m now = sortF (dueL m now) := rfl
theorem mem_dueL {m : SM} {now : Int} {t : TI2} : t ∈ dueL m now ↔ (t.2, t.1) ∈ m ∧ t.1 ≤ now := by
  unfold dueL
  rw [List.mem_map]
  constructor
  · rintro ⟨e, he, rfl⟩
    rw [List.mem_filter] at he
    exact ⟨he.1, by simpa using he.2⟩
  · rintro ⟨h1, h2⟩
    exact ⟨(t.2, t.1), by rw [List.mem_filter]; exact ⟨h1, by simpa using h2⟩, rfl⟩
theorem due_rest {m : SM} {now : Int} : (dueL m now).length + (restK m now).length = m.length := by
  unfold dueL restK
  rw [List.length_map]
  induction m with
  | nil => rfl
  | cons a r ih =>
    rw [List.filter_cons, List.filter_cons]
    by_cases h : a.2 ≤ now
    · simp only [h, decide_true, Bool.not_true, if_true, Bool.false_eq_true, if_false, List.length_cons]; omega
    · simp only [h, decide_false, Bool.not_false, if_true, Bool.false_eq_true, if_false, List.length_cons]; omega
theorem due_nodup {m : SM} (hn : (m.map Prod.fst).Nodup) (now : Int) : (dueL m now).Nodup := by
  have h : m.Nodup := by
    unfold List.Nodup at *
    rw [List.pairwise_map] at hn
    exact hn.imp fun h e => h (by rw [e])
  unfold dueL
  unfold List.Nodup
  rw [List.pairwise_map]
  have h2 : (m.filter fun e => decide (e.2 ≤ now)).Nodup := List.filter_sublist.nodup h
  exact h2.imp fun h e => h (by
    injection e with e1 e2
    exact Prod.ext e2 e1)
theorem del_filter {m : SM} {k : Int} (hn : (m.map Prod.fst).Nodup) : mdel I64 m k = m.filter fun e => !decide (e.1 = k) := by
  induction m with
  | nil => rfl
  | cons a r ih =>
    rw [List.map_cons, List.nodup_cons] at hn
    rw [List.filter_cons]
    by_cases h : a.1 = k
    · have e : r.filter (fun e => !decide (e.1 = k)) = r := by
        rw [List.filter_eq_self]
        intro x hx
        simp only [Bool.not_eq_true', decide_eq_false_iff_not]
        exact fun g => hn.1 (List.mem_map.2 ⟨x, hx, g.trans h.symm⟩)
      rw [if_neg (by simp [h]), e]
      simp [mdel, h]
    · rw [if_pos (by simp [h]), ← ih hn.2]
      simp [mdel, h]
theorem dels_filter {fs : List TI2} : ∀ {m : SM}, (m.map Prod.fst).Nodup → fs.foldl (fun a f => mdel I64 a f.2) m = m.filter fun e => !decide (e.1 ∈ fs.map Prod.snd) := by
  induction fs with
  | nil =>
    intro m _
    rw [eq_comm]
    show m.filter _ = m
    rw [List.filter_eq_self]
    intro x _; simp
  | cons f fs ih =>
    intro m hn
    show fs.foldl _ (mdel I64 m f.2) = _
    rw [ih (del_nodup hn _), del_filter hn, List.filter_filter]
    congr 1
    funext e
    by_cases h1 : e.1 = f.2 <;> by_cases h2 : e.1 ∈ fs.map Prod.snd <;> simp [h1, h2]
theorem key_one {m : SM} (hn : (m.map Prod.fst).Nodup) {a b : Int × Int} (ha : a ∈ m) (hb : b ∈ m) (h : a.1 = b.1) : a = b := by
  induction m with
  | nil => cases ha
  | cons c r ih =>
    rw [List.map_cons, List.nodup_cons] at hn
    rcases List.mem_cons.1 ha with e1 | ha
    · rcases List.mem_cons.1 hb with e2 | hb
      · rw [e1, e2]
      · exact absurd (List.mem_map.2 ⟨b, hb, by rw [← h, e1]⟩) hn.1
    · rcases List.mem_cons.1 hb with e2 | hb
      · exact absurd (List.mem_map.2 ⟨a, ha, by rw [h, e2]⟩) hn.1
      · exact ih hn.2 ha hb
theorem dels_rest {m : SM} {now : Int} (hn : (m.map Prod.fst).Nodup) : (sortF (dueL m now)).foldl (fun a f => mdel I64 a f.2) m = restK m now := by
  rw [dels_filter hn]
  unfold restK
  apply List.filter_congr
  intro e he
  congr 1
  rw [decide_eq_decide]
  constructor
  · intro h
    obtain ⟨t, ht, e1⟩ := List.mem_map.1 h
    obtain ⟨h1, h2⟩ := mem_dueL.1 (sortF_perm.mem_iff.1 ht)
    have := key_one hn he h1 e1.symm
    rw [this]; exact h2
  · intro h
    exact List.mem_map.2 ⟨(e.2, e.1), sortF_perm.mem_iff.2 (mem_dueL.2 ⟨he, h⟩), rfl⟩
/- A step of the reference. -/
theorem runK_next {ops : List TO} {k : Int} {s : KS} {e : List Int} (h0 : 0 ≤ k) (h1 : k < ops.length) (h : runK (ops.take k.toNat) = (s, e)) : runK (ops.take (k + 1).toNat) = (nextK s (opAt ops k), e ++ [errK s.2.1 (opAt ops k)]) := by
  rw [takeI_succ (0, 0, 0) h0 h1]
  unfold runK at h ⊢
  rw [List.foldl_append, h]
  rfl
theorem next_err {s : KS} {o : TO} (h : errK s.2.1 o ≠ 0) : nextK s o = s := by unfold nextK; rw [if_pos h]
theorem err5 {m : SM} {o : TO} (h : o.1 < 1 ∨ 3 < o.1) : errK m o = 5 := by unfold errK; rw [if_pos h]
theorem err2 {m : SM} {o : TO} (h : (o.1 = 1 ∧ (o.2.2 < 1 ∨ 511 < o.2.2)) ∨ (o.1 = 3 ∧ (o.2.2 < 0 ∨ 2000 < o.2.2))) : errK m o = 2 := by
  unfold errK; rw [if_neg (by omega), if_pos h]
theorem err6 {m : SM} {o : TO} (h : o.1 = 1) (h2 : ¬ (o.2.2 < 1 ∨ 511 < o.2.2)) (h3 : mhas I64 m o.2.1 = true) : errK m o = 6 := by
  unfold errK; rw [if_neg (by omega), if_neg (by omega), if_pos ⟨h, h3⟩]
theorem err3 {m : SM} {o : TO} (h : o.1 = 2) (h3 : mhas I64 m o.2.1 = false) : errK m o = 3 := by
  unfold errK; rw [if_neg (by omega), if_neg (by omega), if_neg (fun g => by omega), if_pos ⟨h, h3⟩]
theorem err_add {m : SM} {o : TO} (h : o.1 = 1) (h2 : ¬ (o.2.2 < 1 ∨ 511 < o.2.2)) (h3 : mhas I64 m o.2.1 = false) : errK m o = 0 := by
  unfold errK; rw [if_neg (by omega), if_neg (by omega), if_neg (fun g => by rw [h3] at g; cases g.2), if_neg (fun g => by omega)]
theorem err_can {m : SM} {o : TO} (h : o.1 = 2) (h3 : mhas I64 m o.2.1 = true) : errK m o = 0 := by
  unfold errK; rw [if_neg (by omega), if_neg (by omega), if_neg (fun g => by omega), if_neg (fun g => by rw [h3] at g; cases g.2)]
theorem err_tick {m : SM} {o : TO} (h : o.1 = 3) (h2 : ¬ (o.2.2 < 0 ∨ 2000 < o.2.2)) : errK m o = 0 := by
  unfold errK; rw [if_neg (by omega), if_neg (by omega), if_neg (fun g => by omega), if_neg (fun g => by omega)]
theorem next_add {s : KS} {o : TO} (h : o.1 = 1) (h2 : ¬ (o.2.2 < 1 ∨ 511 < o.2.2)) (h3 : mhas I64 s.2.1 o.2.1 = false) : nextK s o = (s.1, mput I64 s.2.1 o.2.1 (s.1 + o.2.2), s.2.2) := by
  have := err_add h h2 h3
  unfold nextK; rw [if_neg (by omega), if_pos h]
theorem next_can {s : KS} {o : TO} (h : o.1 = 2) (h3 : mhas I64 s.2.1 o.2.1 = true) : nextK s o = (s.1, mdel I64 s.2.1 o.2.1, s.2.2) := by
  have := err_can h h3
  unfold nextK; rw [if_neg (by omega), if_neg (by omega), if_pos h]
theorem next_tick {s : KS} {o : TO} (h : o.1 = 3) (h2 : ¬ (o.2.2 < 0 ∨ 2000 < o.2.2)) : nextK s o = (s.1 + o.2.2, restK s.2.1 (s.1 + o.2.2), s.2.2 ++ dueK s.2.1 (s.1 + o.2.2)) := by
  have := err_tick (m := s.2.1) h h2
  unfold nextK; rw [if_neg (by omega), if_neg (by omega), if_neg (by omega)]
theorem mem_put {m : SM} {k v : Int} {e : Int × Int} (h : e ∈ mput I64 m k v) : e = (k, v) ∨ e ∈ m := by
  induction m with
  | nil => exact .inl (List.mem_singleton.1 h)
  | cons a r ih =>
    unfold mput at h
    by_cases g : a.1 = k
    · simp only [g, decide_true, cond_true] at h
      rcases List.mem_cons.1 h with h | h
      · exact .inl h
      · exact .inr (List.mem_cons_of_mem _ h)
    · simp only [g, decide_false, cond_false] at h
      rcases List.mem_cons.1 h with h | h
      · exact .inr (by rw [h]; exact List.mem_cons_self ..)
      · exact (ih h).imp id (List.mem_cons_of_mem _)
theorem put_len {m : SM} {k v : Int} : (mput I64 m k v).length ≤ m.length + 1 := by
  induction m with
  | nil => exact Nat.le_refl _
  | cons a r ih =>
    unfold mput
    by_cases g : a.1 = k
    · simp only [g, decide_true, cond_true, List.length_cons]; omega
    · simp only [g, decide_false, cond_false, List.length_cons]
      exact Nat.add_le_add_right ih 1
theorem del_len {m : SM} {k : Int} : (mdel I64 m k).length ≤ m.length := by
  have := (del_sub m k).length_le
  simpa using this
theorem mem_del {m : SM} (hn : (m.map Prod.fst).Nodup) {k : Int} {e : Int × Int} : e ∈ mdel I64 m k ↔ e ∈ m ∧ e.1 ≠ k := by
  rw [del_filter hn, List.mem_filter]; simp
theorem mem_rest {m : SM} {now : Int} {e : Int × Int} : e ∈ restK m now ↔ e ∈ m ∧ now < e.2 := by
  unfold restK
  rw [List.mem_filter]; simp
theorem rest_nodup {m : SM} (hn : (m.map Prod.fst).Nodup) (now : Int) : ((restK m now).map Prod.fst).Nodup := (List.filter_sublist.map _).nodup hn
theorem kOk_same {s : KS} {k : Int} (h : kOk s k) : kOk s (k + 1) := ⟨⟨h.1.1, by have := h.1.2; omega⟩, h.2.1, h.2.2.1, by have := h.2.2.2; omega⟩
theorem kOk_add {s : KS} {k : Int} {o : TO} (h : kOk s k) (h2 : ¬ (o.2.2 < 1 ∨ 511 < o.2.2)) : kOk (s.1, mput I64 s.2.1 o.2.1 (s.1 + o.2.2), s.2.2) (k + 1) := by
  obtain ⟨a1, a2, a3, a4⟩ := h
  have := put_len (m := s.2.1) (k := o.2.1) (v := s.1 + o.2.2)
  refine ⟨⟨a1.1, by have := a1.2; show s.1 ≤ _; omega⟩, fun e he => ?_, put_nodup _ _ a3, by show ((_ + _ : Nat) : Int) ≤ _; simp only []; omega⟩
  rcases mem_put he with rfl | he
  · show s.1 < s.1 + o.2.2 ∧ s.1 + o.2.2 ≤ s.1 + 511
    omega
  · exact a2 e he
theorem kOk_can {s : KS} {k : Int} {id : Int} (h : kOk s k) : kOk (s.1, mdel I64 s.2.1 id, s.2.2) (k + 1) := by
  obtain ⟨a1, a2, a3, a4⟩ := h
  have := del_len (m := s.2.1) (k := id)
  refine ⟨⟨a1.1, by have := a1.2; show s.1 ≤ _; omega⟩, fun e he => a2 e ((mem_del a3).1 he).1, del_nodup a3 _, by show ((_ + _ : Nat) : Int) ≤ _; simp only []; omega⟩
theorem kOk_tick {s : KS} {k n : Int} (h : kOk s k) (h0 : 0 ≤ n) (h1 : n ≤ 2000) : kOk (s.1 + n, restK s.2.1 (s.1 + n), s.2.2 ++ dueK s.2.1 (s.1 + n)) (k + 1) := by
  obtain ⟨a1, a2, a3, a4⟩ := h
  have h2 := due_rest (m := s.2.1) (now := s.1 + n)
  have h3 : (dueK s.2.1 (s.1 + n)).length = (dueL s.2.1 (s.1 + n)).length := sortF_len
  refine ⟨⟨by show 0 ≤ s.1 + n; omega, by have := a1.2; show s.1 + n ≤ _; omega⟩, fun e he => ?_, rest_nodup a3 _, ?_⟩
  · obtain ⟨g1, g2⟩ := mem_rest.1 he
    have := a2 e g1
    show s.1 + n < e.2 ∧ e.2 ≤ s.1 + n + 511
    omega
  · show ((_ + (s.2.2 ++ dueK s.2.1 (s.1 + n)).length : Nat) : Int) ≤ _
    rw [List.length_append]
    simp only []
    omega

end Go.Proofs.Ytpnmfoojmodnlaa.Wheel
