/-
  RankPlays: maps and lists; the reference's play.
-/
import Derived.Test.YtpmfgdedkmddlaaRankpP0
namespace Go.Proofs.Ytpmfgdedkmddlaa.Rankp
open Go.Sx
set_option maxRecDepth 100000
set_option maxHeartbeats 1000000
set_option linter.unusedSimpArgs false
set_option linter.unusedVariables false

def Inv (n m : Int) (s : RS) : Prop := (s.1.length = m.toNat ∧ s.2.length = n.toNat) ∧ (∀ a ∈ s.1, -1 ≤ a) ∧ ∀ a ∈ s.2, -1 ≤ a
theorem mem_set {l : List Int} {i : Nat} {v : Int} (h : ∀ a ∈ l, -1 ≤ a) (hv : -1 ≤ v) : ∀ a ∈ l.set i v, -1 ≤ a := fun a ha => by
  rcases List.mem_or_eq_of_mem_set ha with h1 | h1
  · exact h a h1
  · omega
theorem rone_inv {n m : Int} {rk : Bool} {s : RS} {o : RO} (h : Inv n m s) : Inv n m (rone rk s o).1 := by
  obtain ⟨⟨h1, h2⟩, h3, h4⟩ := h
  unfold rone
  split
  · exact ⟨⟨h1, h2⟩, h3, h4⟩
  · split
    · exact ⟨⟨h1, h2⟩, h3, h4⟩
    · rename_i hr
      split
      · split
        · exact ⟨⟨h1, h2⟩, h3, h4⟩
        · exact ⟨⟨by simpa using h1, h2⟩, mem_set h3 (by omega), h4⟩
      · split
        · exact ⟨⟨h1, h2⟩, h3, h4⟩
        · split
          · exact ⟨⟨h1, h2⟩, h3, h4⟩
          · split
            · exact ⟨⟨h1, h2⟩, h3, h4⟩
            · split
              · exact ⟨⟨h1, by simpa using h2⟩, h3, mem_set h4 (by omega)⟩
              · exact ⟨⟨by simpa using h1, by simpa using h2⟩, mem_set h3 (by omega), mem_set h4 (by omega)⟩
theorem fold_inv {n m : Int} {rk : Bool} : ∀ (ops : List RO) (s : RS × List Int), Inv n m s.1 → Inv n m (ops.foldl (rst rk) s).1 ∧ (ops.foldl (rst rk) s).2.length = s.2.length + ops.length
  | [], s, h => ⟨h, rfl⟩
  | o :: r, s, h => by
    obtain ⟨h1, h2⟩ := fold_inv r (rst rk s o) (rone_inv h)
    refine ⟨h1, ?_⟩
    rw [List.foldl_cons, h2]
    simp only [rst, List.length_append, List.length_cons, List.length_nil]
    omega
theorem inv_start (n m : Int) : Inv n m (List.replicate m.toNat (-1), List.replicate n.toNat (-1)) := by
  refine ⟨⟨by simp, by simp⟩, fun a ha => ?_, fun a ha => ?_⟩
  · have := (List.mem_replicate.1 ha).2
    omega
  · have := (List.mem_replicate.1 ha).2
    omega
theorem rrun_inv {n m : Int} {rk : Bool} {ops : List RO} {h w e : List Int} (hr : rrun n m rk ops = ((h, w), e)) : Inv n m (h, w) ∧ e.length = ops.length := by
  have := fold_inv (rk := rk) ops ((List.replicate m.toNat (-1), List.replicate n.toNat (-1)), []) (inv_start n m)
  unfold rrun at hr
  rw [hr] at this
  simpa using this
theorem rrun_next {n m : Int} {rk : Bool} {ops : List RO} {s s' : RS} {e : List Int} {c k : Int} (h0 : 0 ≤ k) (h1 : k < ops.length) (hr : rrun n m rk (ops.take k.toNat) = (s, e))
    (hs : rone rk s (ops.getD k.toNat (0, 0, 0)) = (s', c)) : rrun n m rk (ops.take (k + 1).toNat) = (s', e ++ [c]) := by
  rw [takeI_succ (0, 0, 0) h0 h1]
  unfold rrun at hr ⊢
  rw [List.foldl_append, hr]
  simp only [List.foldl_cons, List.foldl_nil, rst, hs]
theorem mget_put (m : List (Int × Int)) (k v j : Int) : mget? I64 (mput I64 m k v) j = if k = j then some v else mget? I64 m j := by
  induction m with
  | nil => by_cases h : k = j <;> simp [mput, mget?, h]
  | cons a r ih =>
    by_cases h : a.1 = k
    · by_cases h2 : k = j <;> simp [mput, mget?, h, h2]
    · by_cases h2 : k = j
      · subst h2; simp [mput, mget?, h, ih]
      · simp [mput, mget?, h, ih, h2]
theorem mem_keys {m : List (Int × Int)} {k : Int} : k ∈ m.map Prod.fst ↔ (mget? I64 m k).isSome = true := by
  induction m with
  | nil => simp [mget?]
  | cons a r ih =>
    by_cases h : a.1 = k
    · simp [mget?, h]
    · have h' : ¬ k = a.1 := fun e => h e.symm
      simp only [List.map_cons, List.mem_cons, h', false_or, ih, mget?, h, decide_false, cond_false]
theorem put_keys (m : List (Int × Int)) (k v : Int) : (mput I64 m k v).map Prod.fst = if (mget? I64 m k).isSome = true then m.map Prod.fst else m.map Prod.fst ++ [k] := by
  induction m with
  | nil => rfl
  | cons a r ih =>
    by_cases h : a.1 = k
    · simp [mput, mget?, h]
    · simp only [mput, mget?, h, decide_false, cond_false, List.map_cons, ih]
      split <;> simp
theorem put_nodup {m : List (Int × Int)} (k v : Int) (h : (m.map Prod.fst).Nodup) : ((mput I64 m k v).map Prod.fst).Nodup := by
  rw [put_keys]
  split
  · exact h
  · rename_i hn
    rw [List.nodup_append]
    refine ⟨h, by simp, fun a ha b hb => ?_⟩
    simp only [List.mem_singleton] at hb
    subst hb
    intro e
    subst e
    exact hn (mem_keys.1 ha)
theorem del_sub (m : List (Int × Int)) (k : Int) : ((mdel I64 m k).map Prod.fst).Sublist (m.map Prod.fst) := by
  induction m with
  | nil => exact List.Sublist.refl _
  | cons a r ih =>
    by_cases h : a.1 = k
    · simp [mdel, h]
    · simp only [mdel, h, decide_false, cond_false, List.map_cons]
      exact ih.cons_cons _
theorem mget_del {m : List (Int × Int)} (hn : (m.map Prod.fst).Nodup) (k j : Int) : mget? I64 (mdel I64 m k) j = if k = j then none else mget? I64 m j := by
  induction m with
  | nil => by_cases h : k = j <;> simp [mdel, mget?, h]
  | cons a r ih =>
    simp only [List.map_cons, List.nodup_cons] at hn
    by_cases h : a.1 = k
    · simp only [mdel, h, decide_true, cond_true, mget?]
      by_cases h2 : k = j
      · subst h2
        rw [if_pos rfl]
        cases hc : mget? I64 r k with
        | none => rfl
        | some v =>
          exfalso
          exact hn.1 (by rw [h]; exact mem_keys.2 (by rw [hc]; rfl))
      · simp [h2]
    · simp only [mdel, h, decide_false, cond_false, mget?, ih hn.2]
      by_cases h2 : k = j
      · subst h2; simp [h]
      · simp [h2]
theorem mem_get {m : List (Int × Int)} (hn : (m.map Prod.fst).Nodup) {a b : Int} : (a, b) ∈ m ↔ mget? I64 m a = some b := by
  induction m with
  | nil => simp [mget?]
  | cons e r ih =>
    simp only [List.map_cons, List.nodup_cons] at hn
    obtain ⟨e1, e2⟩ := e
    by_cases h : e1 = a
    · subst h
      have : (e1, b) ∉ r := fun hm => hn.1 (List.mem_map.2 ⟨_, hm, rfl⟩)
      simp only [List.mem_cons, this, or_false, mget?, decide_true, cond_true, Prod.mk.injEq, true_and, Option.some.injEq]
      exact eq_comm
    · have h' : ¬ a = e1 := fun e => h e.symm
      simp only [List.mem_cons, Prod.mk.injEq, h', false_and, false_or, mget?, h, decide_false, cond_false]
      exact ih hn.2
theorem MR.has {m : List (Int × Int)} {l : List Int} (h : MR m l) {k : Int} (h0 : 0 ≤ k) (h1 : k < l.length) : mhas I64 m k = decide (0 ≤ l.getD k.toNat 0) := by
  unfold mhas
  rw [h.2 k]
  by_cases hv : 0 ≤ l.getD k.toNat 0
  · rw [if_pos ⟨h0, h1, hv⟩, decide_eq_true hv]; rfl
  · rw [if_neg (fun hh => hv hh.2.2), decide_eq_false hv]; rfl
theorem MR.val {m : List (Int × Int)} {l : List Int} (h : MR m l) {k : Int} (h0 : 0 ≤ k) (h1 : k < l.length) : mval I64 m k = if 0 ≤ l.getD k.toNat 0 then l.getD k.toNat 0 else 0 := by
  unfold mval
  rw [h.2 k]
  by_cases hv : 0 ≤ l.getD k.toNat 0
  · rw [if_pos ⟨h0, h1, hv⟩, if_pos hv]
  · rw [if_neg (fun hh => hv hh.2.2), if_neg hv]; rfl
theorem getD_setI {l : List Int} {i j v : Int} (hi : 0 ≤ i) (hl : i < l.length) (hj : 0 ≤ j) : (l.set i.toNat v).getD j.toNat 0 = if i = j then v else l.getD j.toNat 0 := by
  by_cases h : i = j
  · subst h
    have : i.toNat < l.length := by omega
    rw [if_pos rfl]
    simp [List.getD, this]
  · have : i.toNat ≠ j.toNat := by omega
    rw [if_neg h]
    simp [List.getD, List.getElem?_set_ne this]
theorem MR.put {m : List (Int × Int)} {l : List Int} (h : MR m l) {k v : Int} (h0 : 0 ≤ k) (h1 : k < l.length) (hv : 0 ≤ v) : MR (mput I64 m k v) (l.set k.toNat v) := by
  refine ⟨put_nodup k v h.1, fun j => ?_⟩
  rw [mget_put, h.2 j, List.length_set]
  by_cases hj : 0 ≤ j
  · rw [getD_setI h0 h1 hj]
    by_cases e : k = j
    · subst e
      rw [if_pos rfl, if_pos rfl, if_pos ⟨h0, h1, hv⟩]
    · rw [if_neg e, if_neg e]
  · have e : ¬ k = j := by omega
    rw [if_neg e, if_neg (fun hh => hj hh.1), if_neg (fun hh => hj hh.1)]
theorem MR.del {m : List (Int × Int)} {l : List Int} (h : MR m l) {k : Int} (h0 : 0 ≤ k) (h1 : k < l.length) : MR (mdel I64 m k) (l.set k.toNat (-1)) := by
  refine ⟨h.1.sublist (del_sub m k), fun j => ?_⟩
  rw [mget_del h.1, h.2 j, List.length_set]
  by_cases hj : 0 ≤ j
  · rw [getD_setI h0 h1 hj]
    by_cases e : k = j
    · subst e
      rw [if_pos rfl, if_pos rfl, if_neg (fun hh => by omega)]
    · rw [if_neg e, if_neg e]
  · have e : ¬ k = j := by omega
    rw [if_neg e, if_neg (fun hh => hj hh.1), if_neg (fun hh => hj hh.1)]
theorem MR.nil (n : Nat) : MR [] (List.replicate n (-1)) := by
  refine ⟨List.nodup_nil, fun j => ?_⟩
  rw [if_neg]
  · rfl
  · rintro ⟨h0, h1, h2⟩
    have : j.toNat < n := by rw [List.length_replicate] at h1; omega
    simp [List.getD, this] at h2
theorem MR.lm_eq {m : List (Int × Int)} {l : List Int} {n : Int} (h : MR m l) (hn : l.length = n.toNat) (hl : ∀ a ∈ l, -1 ≤ a) : lm m n.toNat = l := by
  refine List.ext_getElem (by simp [lm_len, hn]) fun i h1 h2 => ?_
  have hi : i < n.toNat := by rw [lm_len] at h1; exact h1
  have e : l.getD i 0 = l[i] := by simp [List.getD, h2]
  have hb := hl l[i] (List.getElem_mem _)
  have a1 := h.has (k := (i : Int)) (by omega) (by omega)
  have a2 := h.val (k := (i : Int)) (by omega) (by omega)
  rw [Int.toNat_natCast, e] at a1 a2
  have : (lm m n.toNat)[i] = if mhas I64 m (i : Int) = true then mval I64 m (i : Int) else -1 := by
    simp only [lm, List.getElem_map, List.getElem_range]
  rw [this, a1, a2]
  by_cases hv : 0 ≤ l[i]
  · simp [hv]
  · simp [hv]; omega
theorem above_iff {m : List (Int × Int)} {h : List Int} (hm : MR m h) {t l : Int} (ht : 0 ≤ t) (hl : 0 ≤ l) : above h t l = true ↔ ∃ a, (a, t) ∈ m ∧ l < a := by
  unfold above
  rw [List.any_eq_true]
  constructor
  · rintro ⟨i, hi, hd⟩
    have hi := List.mem_range.1 hi
    have hd := of_decide_eq_true hd
    refine ⟨(i : Int), (mem_get hm.1).2 ?_, hd.2⟩
    rw [hm.2, Int.toNat_natCast, hd.1, if_pos ⟨by omega, by omega, ht⟩]
  · rintro ⟨a, ha, hla⟩
    have := (mem_get hm.1).1 ha
    rw [hm.2] at this
    split at this
    · rename_i hc
      refine ⟨a.toNat, List.mem_range.2 (by omega), decide_eq_true ⟨by simpa using this, by omega⟩⟩
    · cases this
theorem bad_iff {rk : Bool} {o : RO} {a b : Int} : bad rk o (a, b) ↔ rk = true ∧ b = o.2.1 ∧ o.2.2 < a := Iff.rfl
set_option maxHeartbeats 16000000 in
theorem e_hplay (x : Int × Int × Bool × List RO × Unit) (hp : x.2.2.2.1.length * 24 ≤ 140737488355328) (hl : LensL cPlay.as x) : E_hplay x := by
  obtain ⟨n, m, rk, ops, u⟩ := x
  have hlen : ops.length ≤ 9223372036854775807 := hl.2.2.2.1.1
  simp only [] at hp
  unfold E_hplay
  simp only [Bool.not_eq_true', Bool.not_eq_false', Bool.not_eq_true, Bool.not_eq_false, beq_self_eq_true, decide_eq_true_eq, decide_eq_false_iff_not, Bool.not_false, Bool.not_true, beq_iff_eq, beq_eq_false_iff_ne, bne_iff_ne, ne_eq, bne_eq_false_iff_eq, holds_iff, true_and, and_true, and_self, eq_self, List.length_cons, List.length_nil, List.length_append, List.length_set, List.length_replicate, List.set_cons_zero, cond_true, cond_false, Bool.false_eq_true, Bool.true_eq_false, forall_const, false_imp_iff, imp_self, implies_true, and_imp, Decidable.not_not, Bool.and_eq_true, Bool.or_eq_true, Bool.and_eq_false_iff, Bool.or_eq_false_iff, ← List.length_eq_zero_iff, or_self, or_false, false_or, Prod.forall, Int.reduceEq, Int.reduceLT, Int.reduceLE, List.nil_append, Nat.zero_add, Int.toNat_zero, List.drop_zero, List.length_drop, List.length_take, not_true_eq_false, not_false_eq_true,  pair_eta, Int.toNat_natCast]
  refine ⟨fun hb => ?_, ?_⟩
  · have : n < 1 ∨ 16 < n ∨ m < 1 ∨ 16 < m := by omega
    unfold rplay
    rw [if_pos this]
    exact ⟨rfl, rfl, rfl, rfl⟩
  · intro h1 h2 h3 h4
    refine ⟨⟨by omega, _, _, rfl, MR.nil _, MR.nil _⟩, ?_⟩
    intro m1 m2 e k hk0 hk1 hex _ _ _ _ _ _
    obtain ⟨h, w, hrun, hm1, hm2⟩ := hex
    obtain ⟨⟨⟨hhl, hwl⟩, hh, hw⟩, hel⟩ := rrun_inv hrun
    simp only [] at hhl hwl hh hw
    rw [List.length_take] at hel
    refine ⟨fun hlt => ⟨⟨hk0, hlt⟩, ?_⟩, fun hge => ?_⟩
    · have hst := fun (s' : RS) (c : Int) hs => rrun_next (s' := s') (c := c) hk0 hlt hrun hs
      generalize ops.getD k.toNat (0, 0, 0) = o at hst ⊢
      have fin : ∀ (h' w' : List Int) (c : Int) (m1' m2' : List (Int × Int)), rone rk (h, w) o = ((h', w'), c) → MR m1' h' → MR m2' w' →
          (e.length + 1 ≤ 9223372036854775807 ∧ (e.length + 1 + (e.length + 1) / 4 + 192) * 8 ≤ 281474976710656) ∧ (-9223372036854775808 ≤ k + 1 ∧ k + 1 ≤ 9223372036854775807) ∧
            (0 ≤ k + 1 ∧ k + 1 ≤ (ops.length : Int) ∧ ∃ h w, rrun n m rk (ops.take (k + 1).toNat) = ((h, w), e ++ [c]) ∧ MR m1' h ∧ MR m2' w) ∧ ((ops.length : Int) - (k + 1)).toNat < ((ops.length : Int) - k).toNat :=
        fun h' w' c m1' m2' hs hm1' hm2' => ⟨by omega, by omega, ⟨by omega, by omega, h', w', hst _ _ hs, hm1', hm2'⟩, by omega⟩
      clear hst
      obtain ⟨o, t, l⟩ := o
      simp only [] at fin ⊢
      refine ⟨fun c1 c2 => fin h w 5 m1 m2 (by simp [rone, c1, c2]) hm1 hm2, fun c => ⟨fun c3 => ?_, fun t0 t1 l0 l1 => ?_⟩⟩
      · refine fin h w 2 m1 m2 ?_ hm1 hm2
        have g1 : ¬ (o ≠ 1 ∧ o ≠ 2) := by omega
        have g2 : t < 0 ∨ (w.length : Int) ≤ t ∨ l < 0 ∨ (h.length : Int) ≤ l := by omega
        unfold rone
        rw [if_neg g1, if_pos g2]
      have g1 : ¬ (o ≠ 1 ∧ o ≠ 2) := by omega
      have g2 : ¬ (t < 0 ∨ (w.length : Int) ≤ t ∨ l < 0 ∨ (h.length : Int) ≤ l) := by omega
      have A := hm1.has (k := l) (by omega) (by omega)
      have A2 := hm1.val (k := l) (by omega) (by omega)
      have B := hm2.has (k := t) (by omega) (by omega)
      have B2 := hm2.val (k := t) (by omega) (by omega)
      have C := above_iff hm1 (t := t) (l := l) (by omega) (by omega)
      have P1 := hm1.put (k := l) (v := t) (by omega) (by omega) (by omega)
      have P2 := hm2.put (k := t) (v := l) (by omega) (by omega) (by omega)
      have D1 := hm1.del (k := l) (by omega) (by omega)
      have D2 := hm2.del (k := t) (by omega) (by omega)
      have R : rone rk (h, w) (o, t, l) = if o = 2 then (if h.getD l.toNat 0 ≠ t ∨ 0 ≤ w.getD t.toNat 0 then ((h, w), 3) else ((h.set l.toNat (-1), w), 0))
          else if h.getD l.toNat 0 = t then ((h, w), 6)
          else if rk = true ∧ above h t l = true then ((h, w), 8)
          else if 0 ≤ w.getD t.toNat 0 ∧ w.getD t.toNat 0 ≠ l then ((h, w), 3)
          else if 0 ≤ h.getD l.toNat 0 then ((h, w.set t.toNat l), 7)
          else ((h.set l.toNat t, w.set t.toNat (-1)), 0) := by
        unfold rone
        rw [if_neg g1, if_neg g2]
      rw [R] at fin
      rw [A, A2, B, B2]
      clear R A A2 B B2 g1 g2
      generalize h.getD l.toNat 0 = a at fin ⊢
      generalize w.getD t.toNat 0 = b at fin ⊢
      simp only [decide_eq_true_eq, decide_eq_false_iff_not]
      refine ⟨fun c2 => ⟨fun d => ?_, fun d1 d2 d3 => ?_⟩, fun c2 => ⟨fun d1 d2 => ?_, fun d => ⟨fun a b hab => .inl hab, ?_⟩⟩⟩
      · refine fin h w 3 m1 m2 ?_ hm1 hm2
        rw [if_pos c2, if_pos]
        have d : (¬ 0 ≤ a ∨ ¬ (if 0 ≤ a then a else 0) = t) ∨ 0 ≤ b := d
        omega
      · have d2 : (if 0 ≤ a then a else 0) = t := d2
        refine fin _ w 0 _ m2 ?_ D1 hm2
        rw [if_pos c2, if_neg (by omega)]
      · have d2 : (if 0 ≤ a then a else 0) = t := d2
        refine fin h w 6 m1 m2 ?_ hm1 hm2
        rw [if_neg c2, if_pos (by omega)]
      · have hat : ¬ a = t := by
          have d : ¬ 0 ≤ a ∨ ¬ (if 0 ≤ a then a else 0) = t := d
          omega
        clear d
        intro rem hsub hrem _
        refine ⟨fun hz => ?_, fun i a' b' hi => ⟨fun r1 r2 r3 => ?_, fun r => ⟨⟨fun p q hpq => hsub p q (List.mem_of_mem_eraseIdx hpq), fun p q hpq => ?_⟩, ?_⟩⟩⟩
        · have hno : ¬ (rk = true ∧ above h t l = true) := by
            rintro ⟨q1, q2⟩
            obtain ⟨p, q3, q4⟩ := C.1 q2
            have := List.length_eq_zero_iff.1 hz
            subst this
            rcases hrem p t q3 with h5 | h5
            · cases h5
            · exact h5 ⟨q1, rfl, q4⟩
          refine ⟨fun d1 d2 => ?_, fun d1 => ⟨fun d2 => ?_, fun d2 => ?_⟩⟩
          · have d2 : ¬ (if 0 ≤ b then b else 0) = l := d2
            refine fin h w 3 m1 m2 ?_ hm1 hm2
            rw [if_neg c2, if_neg hat, if_neg hno, if_pos (by omega)]
          · have d3 : ¬ (0 ≤ b ∧ b ≠ l) := by
              have d1 : ¬ 0 ≤ b ∨ (if 0 ≤ b then b else 0) = l := d1
              omega
            refine fin h _ 7 m1 _ ?_ hm1 P2
            rw [if_neg c2, if_neg hat, if_neg hno, if_neg d3, if_pos d2]
          · have d3 : ¬ (0 ≤ b ∧ b ≠ l) := by
              have d1 : ¬ 0 ≤ b ∨ (if 0 ≤ b then b else 0) = l := d1
              omega
            refine fin _ _ 0 _ _ ?_ P1 D2
            rw [if_neg c2, if_neg hat, if_neg hno, if_neg d3, if_neg d2]
        · have hab : above h t l = true := C.2 ⟨a', by rw [← r2]; exact hsub _ _ (List.mem_of_getElem? hi), r3⟩
          refine fin h w 8 m1 m2 ?_ hm1 hm2
          rw [if_neg c2, if_neg hat, if_pos ⟨r1, hab⟩]
        · rcases hrem p q hpq with h5 | h5
          · by_cases e6 : bad rk (o, t, l) (p, q)
            · refine .inl (List.mem_eraseIdx_iff_getElem?.2 ?_)
              obtain ⟨j, hj⟩ := List.mem_iff_getElem?.1 h5
              refine ⟨j, fun e7 => ?_, hj⟩
              subst e7
              rw [hi] at hj
              simp only [Option.some.injEq, Prod.mk.injEq] at hj
              obtain ⟨rfl, rfl⟩ := hj
              obtain ⟨b1, b2, b3⟩ := e6
              rcases r with (r | r) | r
              · rw [b1] at r; cases r
              · exact r b2
              · exact r b3
            · exact .inr e6
          · exact .inr h5
        · rw [List.length_eraseIdx]
          have := (List.getElem?_eq_some_iff.1 hi).1
          rw [if_pos this]
          omega
    · have e1 : ops.take k.toNat = ops := takeI_all (by omega)
      rw [e1] at hrun
      have hn : ¬ (n < 1 ∨ 16 < n ∨ m < 1 ∨ 16 < m) := by omega
      refine ⟨by omega, by omega, ?_⟩
      unfold rplay
      rw [if_neg hn, hrun]
      exact ⟨rfl, hm1.lm_eq hhl hh, hm2.lm_eq hwl hw, rfl⟩
theorem held_zero (h : List Int) (t : Int) : held h t 0 = [] := rfl
theorem held_succ {h : List Int} {t k : Int} (h0 : 0 ≤ k) : held h t (k + 1).toNat = if h.getD k.toNat 0 = t then held h t k.toNat ++ [k] else held h t k.toNat := by
  have e : (k + 1).toNat = k.toNat + 1 := by omega
  rw [e]
  unfold held
  rw [List.range_succ, List.filter_append, List.map_append]
  by_cases hc : h.getD k.toNat 0 = t
  · rw [if_pos hc]
    simp only [List.filter_cons, hc, decide_true, if_true, List.filter_nil, List.map_cons, List.map_nil]
    rw [show Int.ofNat k.toNat = k by show ((k.toNat : Nat) : Int) = k; omega]
  · rw [if_neg hc]
    simp only [List.filter_cons, hc, decide_false, Bool.false_eq_true, if_false, List.filter_nil, List.map_nil, List.append_nil]
theorem held_mem {h : List Int} {t x : Int} {k : Nat} : x ∈ held h t k ↔ 0 ≤ x ∧ x < k ∧ h.getD x.toNat 0 = t := by
  unfold held
  simp only [List.mem_map, List.mem_filter, List.mem_range, decide_eq_true_eq]
  constructor
  · rintro ⟨i, ⟨h1, h2⟩, rfl⟩
    refine ⟨Int.natCast_nonneg _, Int.ofNat_lt.2 h1, h2⟩
  · rintro ⟨h1, h2, h3⟩
    refine ⟨x.toNat, ⟨by omega, h3⟩, ?_⟩
    show ((x.toNat : Nat) : Int) = x
    omega
theorem held_len (h : List Int) (t : Int) (k : Nat) : (held h t k).length ≤ k := by
  unfold held
  rw [List.length_map]
  exact Nat.le_trans (List.length_filter_le _ _) (by simp)
theorem idx_mem {l : List Int} {t : Int} : 0 ≤ idx l t ↔ t ∈ l := by
  unfold idx
  cases hc : l.idxOf? t with
  | none => rw [List.idxOf?_eq_none_iff] at hc; simp [hc]
  | some i =>
    have : ¬ t ∉ l := fun hn => by rw [List.idxOf?_eq_none_iff.2 hn] at hc; cases hc
    have := Classical.not_not.1 this
    simp [this]
theorem foldl_max (l : List Int) (a : Int) : (l.foldl max a = a ∨ l.foldl max a ∈ l) ∧ a ≤ l.foldl max a ∧ ∀ x ∈ l, x ≤ l.foldl max a := by
  induction l generalizing a with
  | nil => simp
  | cons b l ih =>
    obtain ⟨h1, h2, h3⟩ := ih (max a b)
    rw [List.foldl_cons]
    refine ⟨?_, by omega, fun x hx => ?_⟩
    · rcases h1 with h1 | h1
      · rcases Int.le_total a b with h4 | h4
        · right; rw [h1, Int.max_eq_right h4]; simp
        · left; rw [h1, Int.max_eq_left h4]
      · right; simp [h1]
    · rcases List.mem_cons.1 hx with rfl | hx
      · omega
      · exact h3 x hx
theorem mx_mem {l : List Int} (h : 0 < l.length) : mx l ∈ l ∧ ∀ x ∈ l, x ≤ mx l := by
  cases l with
  | nil => simp at h
  | cons a l =>
    obtain ⟨h1, h2, h3⟩ := foldl_max l a
    have e : mx (a :: l) = l.foldl max a := rfl
    rw [e]
    refine ⟨?_, fun x hx => ?_⟩
    · rcases h1 with h1 | h1
      · rw [h1]; simp
      · simp [h1]
    · rcases List.mem_cons.1 hx with rfl | hx
      · exact h2
      · exact h3 x hx
theorem above_held {h : List Int} {t l : Int} (hl : 0 ≤ l) : above h t l = true ↔ 0 < (held h t h.length).length ∧ l < mx (held h t h.length) := by
  have hA : above h t l = true ↔ ∃ x ∈ held h t h.length, l < x := by
    unfold above
    rw [List.any_eq_true]
    constructor
    · rintro ⟨i, hi, hd⟩
      have hi := List.mem_range.1 hi
      have hd := of_decide_eq_true hd
      exact ⟨(i : Int), held_mem.2 ⟨by omega, by omega, by simpa using hd.1⟩, hd.2⟩
    · rintro ⟨x, hx, hlx⟩
      obtain ⟨h1, h2, h3⟩ := held_mem.1 hx
      exact ⟨x.toNat, List.mem_range.2 (by omega), decide_eq_true ⟨h3, by omega⟩⟩
  rw [hA]
  constructor
  · rintro ⟨x, hx, hlx⟩
    have hp := List.length_pos_of_mem hx
    have := (mx_mem hp).2 x hx
    exact ⟨hp, by omega⟩
  · rintro ⟨hp, hlx⟩
    exact ⟨_, (mx_mem hp).1, hlx⟩
set_option maxHeartbeats 16000000 in
theorem e_play (x : Int × Int × Bool × List RO × Unit) (hp : x.2.2.2.1.length * 24 ≤ 140737488355328) (hl : LensL cPlay.as x) : E_play x := by
  obtain ⟨n, m, rk, ops, u⟩ := x
  have hlen : ops.length ≤ 9223372036854775807 := hl.2.2.2.1.1
  simp only [] at hp
  unfold E_play
  simp only [Bool.not_eq_true', Bool.not_eq_false', Bool.not_eq_true, Bool.not_eq_false, beq_self_eq_true, decide_eq_true_eq, decide_eq_false_iff_not, Bool.not_false, Bool.not_true, beq_iff_eq, beq_eq_false_iff_ne, bne_iff_ne, ne_eq, bne_eq_false_iff_eq, holds_iff, true_and, and_true, and_self, eq_self, List.length_cons, List.length_nil, List.length_append, List.length_set, List.length_replicate, List.set_cons_zero, cond_true, cond_false, Bool.false_eq_true, Bool.true_eq_false, forall_const, false_imp_iff, imp_self, implies_true, and_imp, Decidable.not_not, Bool.and_eq_true, Bool.or_eq_true, Bool.and_eq_false_iff, Bool.or_eq_false_iff, ← List.length_eq_zero_iff, or_self, or_false, false_or, Prod.forall, Int.reduceEq, Int.reduceLT, Int.reduceLE, List.nil_append, Nat.zero_add, Int.toNat_zero, List.drop_zero, List.length_drop, List.length_take, not_true_eq_false, not_false_eq_true,  pair_eta, Int.toNat_natCast]
  refine ⟨fun hb => ?_, ?_⟩
  · have : n < 1 ∨ 16 < n ∨ m < 1 ∨ 16 < m := by omega
    unfold rplay
    rw [if_pos this]
    exact ⟨rfl, rfl, rfl, rfl⟩
  · intro h1 h2 h3 h4
    refine ⟨by omega, by omega, ⟨by omega, rfl⟩, ?_⟩
    intro h w e k hk0 hk1 hrun _ _ _ _ _ _ _ _
    obtain ⟨⟨⟨hhl, hwl⟩, hh, hw⟩, hel⟩ := rrun_inv hrun
    simp only [] at hhl hwl hh hw
    rw [List.length_take] at hel
    refine ⟨fun hlt => ⟨⟨hk0, hlt⟩, ?_⟩, fun hge => ?_⟩
    · have hst := fun (s' : RS) (c : Int) hs => rrun_next (s' := s') (c := c) hk0 hlt hrun hs
      generalize ops.getD k.toNat (0, 0, 0) = o at hst ⊢
      obtain ⟨o, t, l⟩ := o
      simp only [] at hst ⊢
      have hst : ∀ (h' w' : List Int) (c : Int), rone rk (h, w) (o, t, l) = ((h', w'), c) → rrun n m rk (ops.take (k + 1).toNat) = ((h', w'), e ++ [c]) := fun h' w' c hs => hst _ _ hs
      refine ⟨fun c1 c2 => ⟨by omega, by omega, ⟨by omega, by omega, hst _ _ _ (by simp [rone, c1, c2])⟩, by omega⟩, fun c => ?_⟩
      have g1 : ¬ (o ≠ 1 ∧ o ≠ 2) := by omega
      have R2 : (t < 0 ∨ (w.length : Int) ≤ t ∨ l < 0 ∨ (h.length : Int) ≤ l) → rone rk (h, w) (o, t, l) = ((h, w), 2) := fun g2 => by
        unfold rone
        rw [if_neg g1, if_pos g2]
      refine ⟨fun t0 => ⟨fun t1 => ⟨fun l0 => ⟨fun l1 => ⟨by omega, by omega, ⟨by omega, by omega, hst _ _ _ (R2 (by omega))⟩, by omega⟩, fun l1 => ?_⟩,
        fun l0 => ⟨by omega, by omega, ⟨by omega, by omega, hst _ _ _ (R2 (by omega))⟩, by omega⟩⟩,
        fun t1 => ⟨by omega, by omega, ⟨by omega, by omega, hst _ _ _ (R2 (by omega))⟩, by omega⟩⟩,
        fun t0 => ⟨by omega, by omega, ⟨by omega, by omega, hst _ _ _ (R2 (by omega))⟩, by omega⟩⟩
      clear R2
      refine ⟨⟨by omega, rfl⟩, ?_⟩
      intro g i hi0 hi1 hg _ _ _ _
      have hgl := held_len h t i.toNat
      rw [← hg] at hgl
      refine ⟨fun hi => ⟨⟨hi0, hi⟩, fun e1 => ?_, fun e1 => ?_⟩, fun hi => ?_⟩
      · refine ⟨by omega, by omega, ⟨by omega, by omega, ?_⟩, by omega⟩
        rw [held_succ hi0, if_pos e1, hg]
      · refine ⟨by omega, ⟨by omega, by omega, ?_⟩, by omega⟩
        rw [held_succ hi0, if_neg e1, hg]
      have hil : i.toNat = h.length := by omega
      rw [hil] at hg
      have I : 0 ≤ idx g l ↔ h.getD l.toNat 0 = t := by
        rw [idx_mem, hg, held_mem]
        constructor
        · exact fun q => q.2.2
        · exact fun q => ⟨by omega, by omega, q⟩
      have A := above_held (h := h) (t := t) (l := l) (by omega)
      rw [← hg] at A
      have R : rone rk (h, w) (o, t, l) = if o = 2 then (if h.getD l.toNat 0 ≠ t ∨ 0 ≤ w.getD t.toNat 0 then ((h, w), 3) else ((h.set l.toNat (-1), w), 0))
          else if h.getD l.toNat 0 = t then ((h, w), 6)
          else if rk = true ∧ above h t l = true then ((h, w), 8)
          else if 0 ≤ w.getD t.toNat 0 ∧ w.getD t.toNat 0 ≠ l then ((h, w), 3)
          else if 0 ≤ h.getD l.toNat 0 then ((h, w.set t.toNat l), 7)
          else ((h.set l.toNat t, w.set t.toNat (-1)), 0) := by
        unfold rone
        have g2 : ¬ (t < 0 ∨ (w.length : Int) ≤ t ∨ l < 0 ∨ (h.length : Int) ≤ l) := by omega
        rw [if_neg g1, if_neg g2]
      rw [R] at hst
      have fin : ∀ (h' w' : List Int) (c : Int), _ = ((h', w'), c) → (e.length + 1 ≤ 9223372036854775807 ∧ (e.length + 1 + (e.length + 1) / 4 + 192) * 8 ≤ 281474976710656) ∧ (-9223372036854775808 ≤ k + 1 ∧ k + 1 ≤ 9223372036854775807) ∧
            (0 ≤ k + 1 ∧ k + 1 ≤ (ops.length : Int) ∧ rrun n m rk (ops.take (k + 1).toNat) = ((h', w'), e ++ [c])) ∧ ((ops.length : Int) - (k + 1)).toNat < ((ops.length : Int) - k).toNat :=
        fun h' w' c hs => ⟨by omega, by omega, ⟨by omega, by omega, hst _ _ _ hs⟩, by omega⟩
      rw [I]
      have ht : 0 ≤ t ∧ t < w.length := by omega
      have hl' : 0 ≤ l ∧ l < h.length := by omega
      clear hst R I hrun hg hgl hh hw hp hlen hl hhl hwl hel c g1 hk0 hk1 hi hil hi0 hi1 t0 t1 l0 l1 h1 h2 h3 h4
      generalize h.getD l.toNat 0 = a at fin ⊢
      generalize w.getD t.toNat 0 = b at fin ⊢
      generalize above h t l = ab at fin A
      generalize mx g = M at A ⊢
      repeat' (first | (refine fin _ _ _ ?_) | (refine And.intro ?_ ?_) | intro)
      all_goals try omega
      all_goals clear fin
      all_goals grind
    · have e1 : ops.take k.toNat = ops := takeI_all (by omega)
      rw [e1] at hrun
      have hn : ¬ (n < 1 ∨ 16 < n ∨ m < 1 ∨ 16 < m) := by omega
      unfold rplay
      rw [if_neg hn, hrun]
      exact ⟨rfl, rfl, rfl, rfl⟩
theorem e_ranks (x : Int × Int × Bool × List RO × Unit) (hp : x.2.2.2.1.length * 24 ≤ 140737488355328) (_ : LensL cLaw.as x) : E_ranks x := by
  unfold E_ranks
  simp only [beq_self_eq_true, decide_true, Bool.and_true, true_implies, and_true]
  simp only [Bool.not_eq_true', Bool.not_eq_false', Bool.not_eq_true, Bool.not_eq_false, beq_self_eq_true, decide_eq_true_eq, decide_eq_false_iff_not, Bool.not_false, Bool.not_true, beq_iff_eq, beq_eq_false_iff_ne, bne_iff_ne, ne_eq, bne_eq_false_iff_eq, holds_iff, true_and, and_true, and_self, eq_self, List.length_cons, List.length_nil, List.length_append, List.length_set, List.length_replicate, List.set_cons_zero, cond_true, cond_false, Bool.false_eq_true, Bool.true_eq_false, forall_const, false_imp_iff, imp_self, implies_true, and_imp, Decidable.not_not, Bool.and_eq_true, Bool.or_eq_true, Bool.and_eq_false_iff, Bool.or_eq_false_iff, ← List.length_eq_zero_iff, or_self, or_false, false_or, Prod.forall, Int.reduceEq, Int.reduceLT, Int.reduceLE, List.nil_append, Nat.zero_add, Int.toNat_zero, List.drop_zero, List.length_drop, List.length_take, not_true_eq_false, not_false_eq_true]
  try simp only [flip_f, flip_t, decide_eq_true_eq, decide_eq_false_iff_not]
  exact hp
theorem pre_ranks (x : HL cLaw.as) (_ : GoodL cLaw.as x) (h : FitL cLaw.as x) : x.2.2.2.1.length * 24 ≤ 140737488355328 := by
  have := h.2.2.2.1.1
  have e : Ty.low tyRankOp = 24 := by decide
  rw [e] at this
  omega

end Go.Proofs.Ytpmfgdedkmddlaa.Rankp
