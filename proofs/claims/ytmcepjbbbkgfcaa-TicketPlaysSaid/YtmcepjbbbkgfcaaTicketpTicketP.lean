/-
  TicketSteps: the conditions hold.
-/
import Derived.Test.YtmcepjbbbkgfcaaTicketpE
namespace Go.Proofs.Ytmcepjbbbkgfcaa.Ticketp
open Go.Sx
set_option maxRecDepth 100000
set_option maxHeartbeats 1000000
set_option linter.unusedSimpArgs false
set_option linter.unusedVariables false

def num (p : Int → Bool) : Nat → Nat
  | 0 => 0
  | k + 1 => num p k + (if p (k : Int) = true then 1 else 0)
theorem num_le {p q : Int → Bool} : ∀ {k : Nat}, (∀ c : Nat, c < k → p c = true → q c = true) → num p k ≤ num q k
  | 0, _ => Nat.le_refl _
  | k + 1, h => by
    have := num_le (k := k) (fun c hc => h c (by omega))
    have h2 := h k (by omega)
    simp only [num]
    split <;> split <;> first | omega | (exfalso; simp_all)
theorem num_eq {p q : Int → Bool} : ∀ {k : Nat}, (∀ c : Nat, c < k → p c = true → q c = true) → num p k = num q k → ∀ c : Nat, c < k → q c = true → p c = true
  | 0, _, _, c, hc, _ => by omega
  | k + 1, h, e, c, hc, hq => by
    have h1 := num_le (k := k) (fun c hc => h c (by omega))
    have h2 := h k (by omega)
    simp only [num] at e
    have e1 : num p k = num q k ∧ (q k = true → p k = true) := by
      cases hp : p k <;> cases hqq : q k <;> simp only [hp, hqq] at e h2 <;> simp at e h2 ⊢ <;> omega
    rcases Nat.lt_or_ge c k with hck | hck
    · exact num_eq (k := k) (fun c hc => h c (by omega)) e1.1 c hck hq
    · have : c = k := by omega
      subst this; exact e1.2 hq
theorem num_or {p q r : Int → Bool} : ∀ {k : Nat}, (∀ c : Nat, c < k → (r c = true ↔ (p c = true ∨ q c = true)) ∧ ¬ (p c = true ∧ q c = true)) → num r k = num p k + num q k
  | 0, _ => rfl
  | k + 1, h => by
    have h1 := num_or (k := k) (fun c hc => h c (by omega))
    have h2 := h k (by omega)
    simp only [num, h1]
    cases hp : p k <;> cases hq : q k <;> cases hr : r k <;> simp [hp, hq, hr] at h2 ⊢ <;> omega
theorem num_pos {p : Int → Bool} : ∀ {k : Nat} (c : Nat), c < k → p c = true → 1 ≤ num p k
  | 0, c, hc, _ => by omega
  | k + 1, c, hc, h => by
    simp only [num]
    rcases Nat.lt_or_ge c k with hck | hck
    · have := num_pos (k := k) c hck h; omega
    · have : c = k := by omega
      subst this; rw [if_pos h]; omega
theorem num_two {p : Int → Bool} : ∀ {k : Nat} (c d : Nat), c < d → d < k → p c = true → p d = true → 2 ≤ num p k
  | 0, c, d, _, hd, _, _ => by omega
  | k + 1, c, d, hcd, hd, h1, h2 => by
    simp only [num]
    rcases Nat.lt_or_ge d k with hdk | hdk
    · have := num_two (k := k) c d hcd hdk h1 h2; omega
    · have : d = k := by omega
      subst this
      have := num_pos (k := d) c hcd h1
      rw [if_pos h2]; omega
theorem num_one {p : Int → Bool} : ∀ {k : Nat}, (∀ c d : Nat, c < d → d < k → ¬ (p c = true ∧ p d = true)) → num p k ≤ 1
  | 0, _ => Nat.zero_le _
  | k + 1, h => by
    simp only [num]
    by_cases hk : p k = true
    · rw [if_pos hk]
      have : num p k = 0 := by
        rcases Nat.eq_zero_or_pos (num p k) with h0 | h0
        · exact h0
        · exfalso
          have : ∀ j, j ≤ k → num p j = 0 := fun j => by
            induction j with
            | zero => intro _; rfl
            | succ j ih =>
              intro hj
              simp only [num]
              rw [ih (by omega), if_neg (fun e => h j k (by omega) (by omega) ⟨e, hk⟩)]
          have := this k (Nat.le_refl _); omega
      omega
    · rw [if_neg hk]
      exact num_one (k := k) (fun c d h1 h2 => h c d h1 (by omega))
theorem hk_len (l : LK) (t : Int) : ∀ k, (hk l t k).length = num (fun c => decide (mi l c = t)) k
  | 0 => rfl
  | k + 1 => by
    simp only [hk, num, List.length_append, hk_len l t k, decide_eq_true_eq]
    split <;> simp
theorem hk_mem {l : LK} {t x : Int} : ∀ {k : Nat}, x ∈ hk l t k → 0 ≤ x ∧ x < k ∧ mi l x = t
  | 0, h => by simp [hk] at h
  | k + 1, h => by
    simp only [hk, List.mem_append] at h
    rcases h with h | h
    · have := hk_mem h; omega
    · by_cases e : mi l (k : Int) = t
      · rw [if_pos e] at h
        simp only [List.mem_singleton] at h
        subst h
        exact ⟨by omega, by omega, e⟩
      · rw [if_neg e] at h; cases h
theorem Q_mem {l : LK} {x : Int} : ∀ {j : Nat}, x ∈ Q l j → 0 ≤ x ∧ x < 8
  | 0, h => by simp [Q] at h
  | j + 1, h => by
    simp only [Q, List.mem_append] at h
    rcases h with h | h
    · exact Q_mem h
    · have := hk_mem h; omega
theorem cnt_num (l : LK) : ∀ k, cnt l k = (num (fun c => decide (mi l c ≠ -1)) k : Nat)
  | 0 => rfl
  | k + 1 => by
    simp only [cnt, num, cnt_num l k, decide_eq_true_eq]
    split <;> simp
theorem Q_len (l : LK) : ∀ j, (Q l j).length = num (fun c => decide (l.2.1 ≤ mi l c ∧ mi l c < l.2.1 + j)) 8
  | 0 => by
    have : num (fun c => decide (l.2.1 ≤ mi l c ∧ mi l c < l.2.1 + ((0 : Nat) : Int))) 8 ≤ num (fun _ => false) 8 := num_le (fun c _ h => by
      have := of_decide_eq_true h; omega)
    have h0 : num (fun _ => false) 8 = 0 := rfl
    simp only [Q, List.length_nil]; omega
  | j + 1 => by
    simp only [Q, List.length_append, Q_len l j, hk_len]
    rw [← num_or (r := fun c => decide (l.2.1 ≤ mi l c ∧ mi l c < l.2.1 + ((j + 1 : Nat) : Int)))]
    intro c _
    simp only [decide_eq_true_eq]
    omega
theorem Q_sum {l : LK} : ∀ (M : Nat), (∀ j : Nat, j < M → 1 ≤ (hk l (l.2.1 + j) 8).length) → M ≤ (Q l M).length ∧ ((Q l M).length = M → ∀ j : Nat, j < M → (hk l (l.2.1 + j) 8).length = 1)
  | 0, _ => ⟨Nat.zero_le _, fun _ j hj => by omega⟩
  | M + 1, h => by
    obtain ⟨h1, h2⟩ := Q_sum M (fun j hj => h j (by omega))
    have h3 := h M (by omega)
    simp only [Q, List.length_append]
    refine ⟨by omega, fun e j hj => ?_⟩
    rcases Nat.lt_or_ge j M with hjm | hjm
    · exact h2 (by omega) j hjm
    · have : j = M := by omega
      subst this; omega
theorem Q_at {l : LK} : ∀ (M : Nat), (∀ j : Nat, j < M → (hk l (l.2.1 + j) 8).length = 1) → (Q l M).length = M ∧ ∀ j : Nat, j < M → mi l ((Q l M).getD j 0) = l.2.1 + j
  | 0, _ => ⟨rfl, fun j hj => by omega⟩
  | M + 1, h => by
    obtain ⟨h1, h2⟩ := Q_at M (fun j hj => h j (by omega))
    have h3 := h M (by omega)
    refine ⟨by simp only [Q, List.length_append]; omega, fun j hj => ?_⟩
    simp only [Q]
    rcases Nat.lt_or_ge j M with hjm | hjm
    · rw [getD_lt (by simp only [List.length_append]; omega), List.getElem_append_left (by omega), ← getD_lt (d := 0)]
      exact h2 j hjm
    · have : j = M := by omega
      subst this
      rw [getD_lt (by simp only [List.length_append]; omega), List.getElem_append_right (by omega)]
      exact (hk_mem (List.getElem_mem _)).2.2
theorem Good_of {l : LK} (hb : inB l) (hi : inTo l 8) (hq : qok l (Q l (l.1 - l.2.1).toNat).length) : Good l := by
  obtain ⟨⟨q1, q2⟩, q3⟩ := hq
  have hb' := hb
  simp only [inB] at hb'
  have hm : ((l.1 - l.2.1).toNat : Int) = l.1 - l.2.1 := by omega
  have hlen : (Q l (l.1 - l.2.1).toNat).length = (l.1 - l.2.1).toNat := by omega
  have hin : ∀ c : Nat, c < 8 → mi l c ≠ -1 → l.2.1 ≤ mi l c ∧ mi l c < l.1 := fun c hc hne => by
    have e : num (fun c => decide (l.2.1 ≤ mi l c ∧ mi l c < l.2.1 + ((l.1 - l.2.1).toNat : Int))) 8 = num (fun c => decide (mi l c ≠ -1)) 8 := by
      rw [← Q_len]; have := cnt_num l 8; omega
    have := num_eq (fun c _ h => by have := of_decide_eq_true h; exact decide_eq_true (by omega)) e c hc (decide_eq_true hne)
    have := of_decide_eq_true this
    omega
  have hsurj : ∀ t : Int, l.2.1 ≤ t → t < l.1 → someTo l t 8 := fun t t0 t1 => by
    have hj := q3 (t - l.2.1) (by omega) (by omega)
    have hmem := Q_mem (getD_mem (d := 0) (xs := Q l (l.1 - l.2.1).toNat) (k := (t - l.2.1).toNat) (by omega))
    exact ⟨_, hmem.1, hmem.2, by rw [hj]; omega⟩
  have hge : ∀ j : Nat, j < (l.1 - l.2.1).toNat → 1 ≤ (hk l (l.2.1 + j) 8).length := fun j hj => by
    obtain ⟨c, c0, c1, hc⟩ := hsurj (l.2.1 + j) (by omega) (by omega)
    rw [hk_len]
    exact num_pos c.toNat (by omega) (decide_eq_true (by rw [show ((c.toNat : Nat) : Int) = c by omega]; exact hc))
  refine ⟨hb, fun c c0 c1 => ?_, fun c d c0 hcd d8 e => ?_, hsurj⟩
  · by_cases hne : mi l c = -1
    · refine .inl ⟨hne, ?_⟩
      cases hn : inn l c with
      | false => rfl
      | true => exact absurd hne (hi c c0 c1 hn).2
    · have := hin c.toNat (by omega) (by rw [show ((c.toNat : Nat) : Int) = c by omega]; exact hne)
      rw [show ((c.toNat : Nat) : Int) = c by omega] at this
      exact .inr ⟨this, fun h => (hi c c0 c1 h).1⟩
  · by_cases hne : mi l c = -1
    · exact hne
    · exfalso
      have := hin c.toNat (by omega) (by rw [show ((c.toNat : Nat) : Int) = c by omega]; exact hne)
      rw [show ((c.toNat : Nat) : Int) = c by omega] at this
      have h1 := (Q_sum _ hge).2 hlen (mi l c - l.2.1).toNat (by omega)
      rw [hk_len, show l.2.1 + (((mi l c - l.2.1).toNat : Nat) : Int) = mi l c by omega] at h1
      have := num_two (p := fun x => decide (mi l x = mi l c)) (k := 8) c.toNat d.toNat (by omega) (by omega)
        (decide_eq_true (by rw [show ((c.toNat : Nat) : Int) = c by omega])) (decide_eq_true (by rw [show ((d.toNat : Nat) : Int) = d by omega]; exact e.symm))
      omega
theorem Good_q {l : LK} (hg : Good l) : (Q l (l.1 - l.2.1).toNat).length = (l.1 - l.2.1).toNat ∧ qok l (Q l (l.1 - l.2.1).toNat).length ∧ inTo l 8 := by
  obtain ⟨hb, ho, h1, hs⟩ := hg
  have hb' := hb
  simp only [inB] at hb'
  have hlen1 : ∀ j : Nat, j < (l.1 - l.2.1).toNat → (hk l (l.2.1 + j) 8).length = 1 := fun j hj => by
    obtain ⟨c, c0, c1, hc⟩ := hs (l.2.1 + j) (by omega) (by omega)
    rw [hk_len]
    have a1 := num_pos (p := fun x => decide (mi l x = l.2.1 + j)) (k := 8) c.toNat (by omega) (decide_eq_true (by rw [show ((c.toNat : Nat) : Int) = c by omega]; exact hc))
    have a2 := num_one (p := fun x => decide (mi l x = l.2.1 + j)) (k := 8) (fun a b hab hb2 => by
      rintro ⟨e1, e2⟩
      have e1 := of_decide_eq_true e1
      have e2 := of_decide_eq_true e2
      have := h1 a b (by omega) (by omega) (by omega) (by rw [e1, e2])
      omega)
    omega
  obtain ⟨q1, q2⟩ := Q_at _ hlen1
  have hin : ∀ c : Int, 0 ≤ c → c < 8 → (mi l c ≠ -1 ↔ l.2.1 ≤ mi l c ∧ mi l c < l.1) := fun c c0 c1 => by
    rcases ho c c0 c1 with h | h <;> omega
  have hc : cnt l 8 = l.1 - l.2.1 := by
    rw [cnt_num]
    have a1 : num (fun c => decide (mi l c ≠ -1)) 8 ≤ num (fun c => decide (l.2.1 ≤ mi l c ∧ mi l c < l.2.1 + ((l.1 - l.2.1).toNat : Int))) 8 := num_le (fun c hc h => by
      have h := of_decide_eq_true h
      have := (hin c (by omega) (by omega)).1 h
      exact decide_eq_true (by omega))
    have a2 : num (fun c => decide (l.2.1 ≤ mi l c ∧ mi l c < l.2.1 + ((l.1 - l.2.1).toNat : Int))) 8 ≤ num (fun c => decide (mi l c ≠ -1)) 8 := num_le (fun c hc h => by
      have h := of_decide_eq_true h
      exact decide_eq_true (by omega))
    rw [← Q_len] at a1 a2
    omega
  refine ⟨q1, ⟨⟨by omega, hc⟩, fun j j0 j1 => ?_⟩, fun c c0 c1 hn => ?_⟩
  · have := q2 j.toNat (by omega)
    rw [this]; omega
  · rcases ho c c0 c1 with h | h
    · rw [hn] at h; exact absurd h.2 (by decide)
    · exact ⟨h.2 hn, by omega⟩
theorem right_iff {l : LK} : right l = true ↔ Good l := by simp [right]
theorem fq_ok (l : LK) : (fq l).2 = right l := by
  rw [Bool.eq_iff_iff, right_iff]
  unfold fq
  split
  · rename_i h
    simp only [decide_eq_true_eq]
    exact ⟨fun hq => Good_of h.1 h.2 hq, fun hg => (Good_q hg).2.1⟩
  · rename_i h
    exact ⟨fun e => (by cases e), fun hg => absurd ⟨hg.1, (Good_q hg).2.2⟩ h⟩
theorem some_zero {l : LK} {t : Int} : ¬ someTo l t 0 := fun ⟨c, h0, h1, _⟩ => by omega
theorem some_step {l : LK} {t k : Int} (h0 : 0 ≤ k) : someTo l t (k + 1) ↔ someTo l t k ∨ mi l k = t := by
  constructor
  · rintro ⟨c, c0, c1, hc⟩
    by_cases e : c = k
    · subst e; exact .inr hc
    · exact .inl ⟨c, c0, by omega, hc⟩
  · rintro (⟨c, c0, c1, hc⟩ | h)
    · exact ⟨c, c0, by omega, hc⟩
    · exact ⟨k, h0, by omega, h⟩
theorem okTo_step {l : LK} {k : Int} (h : okTo l k) (hk : okc l k) : okTo l (k + 1) := fun c c0 c1 => by
  by_cases e : c = k
  · subst e; exact hk
  · exact h c c0 (by omega)
theorem oneTo_step {l : LK} {k : Int} (h : oneTo l k) (hk : mi l k = -1 ∨ ¬ someTo l (mi l k) k) : oneTo l (k + 1) := fun c d c0 hcd hd e => by
  by_cases ed : d = k
  · subst ed
    rcases hk with hk | hk
    · rw [e]; exact hk
    · exact absurd ⟨c, c0, hcd, e⟩ hk
  · exact h c d c0 hcd (by omega) e
theorem nG_c {l : LK} {k : Int} (h0 : 0 ≤ k) (h1 : k < 8) (h : ¬ okc l k) : ¬ Good l := fun hg => h (hg.2.1 k h0 h1)
theorem nG_two {l : LK} {k : Int} (h0 : 0 ≤ k) (h1 : k < 8) (hs : someTo l (mi l k) k) (hne : mi l k ≠ -1) : ¬ Good l := fun ⟨_, _, h, _⟩ => by
  obtain ⟨c, c0, c1, hc⟩ := hs
  have := h c k c0 c1 h1 hc
  rw [hc] at this; exact hne this
theorem e_right (x : LK × Unit) (_ : True) (hx : LensL cRight.as x) : E_right x := by
  obtain ⟨⟨n, w, m, i⟩, u⟩ := x
  have hn : -9223372036854775808 ≤ n ∧ n ≤ 9223372036854775807 := hx.1.1
  unfold E_right
  simp only [right]
  simp only [Bool.not_eq_true', Bool.not_eq_false', Bool.not_eq_true, Bool.not_eq_false, beq_self_eq_true, decide_eq_true_eq, decide_eq_false_iff_not, Bool.not_false, Bool.not_true, beq_iff_eq, beq_eq_false_iff_ne, bne_iff_ne, ne_eq, bne_eq_false_iff_eq, holds_iff, true_and, and_true, and_self, eq_self, List.length_cons, List.length_nil, List.length_append, List.length_set, List.length_replicate, List.set_cons_zero, cond_true, cond_false, Bool.false_eq_true, Bool.true_eq_false, forall_const, false_imp_iff, imp_self, implies_true, and_imp, Decidable.not_not, Bool.and_eq_true, Bool.or_eq_true, Bool.and_eq_false_iff, Bool.or_eq_false_iff, ← List.length_eq_zero_iff, or_self, or_false, false_or, Prod.forall, Int.reduceEq, Int.reduceLT, Int.reduceLE, List.nil_append, Nat.zero_add, Int.toNat_zero, List.drop_zero, List.length_drop, List.length_take, not_true_eq_false, not_false_eq_true]
  try simp only [flip_f, flip_t, decide_eq_true_eq, decide_eq_false_iff_not]
  refine ⟨fun _ _ => by omega, fun hb hg => ?_, fun b1 b2 b3 b4 => ⟨by omega, by omega, ⟨by omega, fun c c0 c1 => by omega, fun c d c0 c1 c2 => by omega, fun j j0 j1 => ?_⟩, ?_⟩⟩
  · have := hg.1
    simp only [inB] at this; omega
  · refine ⟨fun e => ?_, fun e => absurd e some_zero⟩
    rw [getD_lt (by simp; omega)] at e
    simp at e
  intro o k k0 k1 hol hok hone hall _ _ _
  have hmi : m.getD k.toNat 0 = mi (n, w, m, i) k := rfl
  have hin : i.getD k.toNat false = inn (n, w, m, i) k := rfl
  refine ⟨fun hk => ⟨⟨k0, by omega⟩, fun e1 => ⟨⟨k0, by omega⟩, fun e2 hg => ?_, fun e2 => ⟨by omega, ⟨by omega, by omega, hol, ?_, ?_, ?_⟩, by omega⟩⟩, fun e1 => ?_⟩, fun hk => ⟨⟨by omega, fun t t0 t1 => by omega⟩, ?_⟩⟩
  · refine nG_c k0 hk (fun h => ?_) hg
    rcases h with h | h
    · rw [← hin, e2] at h; cases h.2
    · rw [← hmi, e1] at h; dsimp only at h; omega
  · exact okTo_step hok (.inl ⟨e1, e2⟩)
  · exact oneTo_step hone (.inl e1)
  · intro j j0 j1
    rw [some_step k0, ← hmi, e1]
    have := hall j j0 j1
    constructor
    · exact fun h => .inl (this.1 h)
    · rintro (h | h)
      · exact this.2 h
      · omega
  · have hv : ∀ h1 : ¬ m.getD k.toNat 0 < w, ∀ h2 : ¬ n ≤ m.getD k.toNat 0, (o.getD (m.getD k.toNat 0 - w).toNat false = true ↔ someTo (n, w, m, i) (mi (n, w, m, i) k) k) := fun h1 h2 => by
      have := hall (m.getD k.toNat 0 - w) (by omega) (by omega)
      rwa [show w + (m.getD k.toNat 0 - w) = mi (n, w, m, i) k by rw [← hmi]; omega] at this
    refine ⟨fun a b => ⟨⟨a, b⟩, by omega, by omega⟩, fun a b => ⟨⟨a, b⟩, by omega, by omega⟩, fun a b c => ⟨⟨⟨a, b⟩, c⟩, by omega, by omega⟩, fun a b c => ⟨⟨⟨a, b⟩, c⟩, fun d => ⟨⟨⟨a, b⟩, c⟩, d⟩⟩, fun hbad hg => ?_, fun a b c d => ?_⟩
    · rcases hbad with (hbad | hbad) | hbad
      · refine nG_c k0 hk (fun h => ?_) hg
        rcases h with h | h
        · exact e1 h.1
        · rw [← hmi] at h; dsimp only at h; omega
      · by_cases hr : m.getD k.toNat 0 < w ∨ n ≤ m.getD k.toNat 0
        · refine nG_c k0 hk (fun h => ?_) hg
          rcases h with h | h
          · exact e1 h.1
          · rw [← hmi] at h; dsimp only at h; omega
        · exact nG_two k0 hk ((hv (by omega) (by omega)).1 hbad) e1 hg
      · refine nG_c k0 hk (fun h => ?_) hg
        rcases h with h | h
        · exact e1 h.1
        · exact hbad.2 (h.2 hbad.1)
    · have hns : ¬ someTo (n, w, m, i) (mi (n, w, m, i) k) k := fun hs => by
        rw [(hv a b).2 hs] at c; cases c
      refine ⟨by omega, by omega, by omega, ⟨by omega, by omega, hol, ?_, ?_, ?_⟩, by omega⟩
      · refine okTo_step hok (.inr ⟨⟨by show w ≤ m.getD k.toNat 0; omega, by show m.getD k.toNat 0 < n; omega⟩, fun q => ?_⟩)
        rcases d with d | d
        · rw [← hin, d] at q; cases q
        · exact d
      · exact oneTo_step hone (.inr hns)
      · intro j j0 j1
        rw [some_step k0, ← hmi]
        have := hall j j0 j1
        by_cases ej : j = m.getD k.toNat 0 - w
        · subst ej
          rw [getD_lt (by rw [List.length_set]; omega)]
          simp only [List.getElem_set_self, true_iff]
          exact .inr (by omega)
        · have hne : (m.getD k.toNat 0 - w).toNat ≠ j.toNat := by omega
          rw [getD_lt (by rw [List.length_set]; omega), List.getElem_set_ne hne, ← getD_lt (d := false)]
          rw [this]
          constructor
          · exact .inl
          · rintro (h | h)
            · exact h
            · omega
  · have hk8 : k = 8 := by omega
    subst hk8
    intro p p0 p1 hs _ _
    refine ⟨fun hp => ⟨⟨p0, hp⟩, fun e hg => ?_, fun e => ⟨by omega, ⟨by omega, by omega, fun t t0 t1 => ?_⟩, by omega⟩⟩, fun hp => ?_⟩
    · have := (hall p p0 (by omega)).2 (hg.2.2.2 (w + p) (by dsimp only; omega) (by dsimp only; omega))
      rw [e] at this; cases this
    · by_cases et : t = w + p
      · subst et; exact (hall p p0 (by omega)).1 e
      · exact hs t t0 (by omega)
    · exact ⟨⟨by dsimp only; omega, by dsimp only; omega, by dsimp only; omega, by dsimp only; omega⟩, hok, hone, fun t t0 t1 => hs t t0 (by dsimp only at t1; omega)⟩
theorem hk_succ {l : LK} {t k : Int} (h0 : 0 ≤ k) : hk l t (k + 1).toNat = hk l t k.toNat ++ (if mi l k = t then [k] else []) := by
  rw [show (k + 1).toNat = k.toNat + 1 by omega]
  simp only [hk]
  rw [show ((k.toNat : Nat) : Int) = k by omega]
theorem cnt_succ {l : LK} {k : Int} (h0 : 0 ≤ k) : cnt l (k + 1).toNat = cnt l k.toNat + (if mi l k ≠ -1 then 1 else 0) := by
  rw [show (k + 1).toNat = k.toNat + 1 by omega]
  simp only [cnt]
  rw [show ((k.toNat : Nat) : Int) = k by omega]
theorem inTo_step {l : LK} {k : Int} (h : inTo l k) (hk : inn l k = true → mi l k = l.2.1 ∧ mi l k ≠ -1) : inTo l (k + 1) := fun c c0 c1 => by
  by_cases e : c = k
  · subst e; exact hk
  · exact h c c0 (by omega)
theorem fq_bad {l : LK} (h : ¬ (inB l ∧ inTo l 8)) : fq l = ([], false) := if_neg h
theorem fq_good {l : LK} (h : inB l ∧ inTo l 8) : (fq l).1 = Q l (l.1 - l.2.1).toNat ∧ ((fq l).2 = true ↔ qok l (Q l (l.1 - l.2.1).toNat).length) := by
  unfold fq; rw [if_pos h]; exact ⟨rfl, by simp⟩
theorem qok_step {l : LK} {j : Int} (j0 : 0 ≤ j) : qok l (j + 1) ↔ qok l j ∧ mi l ((Q l (l.1 - l.2.1).toNat).getD j.toNat 0) = l.2.1 + j := by
  constructor
  · exact fun h => ⟨⟨h.1, fun i i0 i1 => h.2 i i0 (by omega)⟩, h.2 j j0 (by omega)⟩
  · intro ⟨h, hj⟩
    refine ⟨h.1, fun i i0 i1 => ?_⟩
    by_cases e : i = j
    · subst e; exact hj
    · exact h.2 i i0 (by omega)
theorem e_fq (x : LK × Unit) (_ : True) (hx : LensL cFq.as x) : E_fq x := by
  obtain ⟨⟨n, w, m, i⟩, u⟩ := x
  have hn : -9223372036854775808 ≤ n ∧ n ≤ 9223372036854775807 := hx.1.1
  unfold E_fq
  simp only [Bool.not_eq_true', Bool.not_eq_false', Bool.not_eq_true, Bool.not_eq_false, beq_self_eq_true, decide_eq_true_eq, decide_eq_false_iff_not, Bool.not_false, Bool.not_true, beq_iff_eq, beq_eq_false_iff_ne, bne_iff_ne, ne_eq, bne_eq_false_iff_eq, holds_iff, true_and, and_true, and_self, eq_self, List.length_cons, List.length_nil, List.length_append, List.length_set, List.length_replicate, List.set_cons_zero, cond_true, cond_false, Bool.false_eq_true, Bool.true_eq_false, forall_const, false_imp_iff, imp_self, implies_true, and_imp, Decidable.not_not, Bool.and_eq_true, Bool.or_eq_true, Bool.and_eq_false_iff, Bool.or_eq_false_iff, ← List.length_eq_zero_iff, or_self, or_false, false_or, Prod.forall, Int.reduceEq, Int.reduceLT, Int.reduceLE, List.nil_append, Nat.zero_add, Int.toNat_zero, List.drop_zero, List.length_drop, List.length_take, not_true_eq_false, not_false_eq_true]
  try simp only [flip_f, flip_t, decide_eq_true_eq, decide_eq_false_iff_not]
  refine ⟨fun _ _ _ => by omega, fun hb => ?_, fun b1 b2 b3 b4 => ⟨⟨by omega, by omega, by rw [show (w - w).toNat = 0 by omega]; rfl, by omega⟩, ?_⟩⟩
  · rw [fq_bad (fun h => by have := h.1; simp only [inB] at this; omega)]; exact ⟨rfl, rfl⟩
  have hB : inB (n, w, m, i) := ⟨by dsimp only; omega, by dsimp only; omega, by dsimp only; omega, by dsimp only; omega⟩
  intro q t t0 t1 hq hql _ _ _ _
  refine ⟨fun ht => ⟨⟨by rw [hq]; simp [hk], by omega⟩, ?_⟩, fun ht => ?_⟩
  · intro q2 c c0 c1 hq2 hql2 _ _ _ _
    have hs := hk_succ (l := (n, w, m, i)) (t := t) c0
    refine ⟨fun hc => ⟨⟨c0, by omega⟩, fun e => ⟨by omega, by omega, ⟨by omega, by omega, ?_, by omega⟩, by omega⟩, fun e => ⟨by omega, ⟨by omega, by omega, ?_, by omega⟩, by omega⟩⟩, fun hc => ⟨by omega, ⟨by omega, by omega, ?_, by omega⟩, by omega⟩⟩
    · rw [hs, if_pos (show mi (n, w, m, i) c = t from e), ← List.append_assoc, ← hq2]
    · rw [hs, if_neg (show ¬ mi (n, w, m, i) c = t from e), List.append_nil]; exact hq2
    · rw [hq2, show c.toNat = 8 by omega, show (t + 1 - w).toNat = (t - w).toNat + 1 by omega]
      simp only [Q]
      rw [show w + (((t - w).toNat : Nat) : Int) = t by omega]
  have ht : t = n := by omega
  subst ht
  refine ⟨⟨rfl, fun c c0 c1 => by omega⟩, ?_⟩
  intro a c c0 c1 ha a0 a1 hin _ _ _ _
  have hs := cnt_succ (l := (t, w, m, i)) c0
  have hmi : m.getD c.toNat 0 = mi (t, w, m, i) c := rfl
  have hii : i.getD c.toNat false = inn (t, w, m, i) c := rfl
  have hbad : i.getD c.toNat false = true → (m.getD c.toNat 0 = -1 ∨ ¬m.getD c.toNat 0 = w) → c < 8 → [] = (fq (t, w, m, i)).1 ∧ (fq (t, w, m, i)).2 = false := fun e1 e2 hc => by
    rw [fq_bad (fun h => by
      have := h.2 c c0 hc e1
      rw [← hmi] at this
      dsimp only at this
      omega)]
    exact ⟨rfl, rfl⟩
  have hgo : (i.getD c.toNat false = false ∨ ¬m.getD c.toNat 0 = -1 ∧ m.getD c.toNat 0 = w) → inTo (t, w, m, i) (c + 1) := fun h => inTo_step hin (fun e => by
    rcases h with h | h
    · rw [← hii, h] at e; cases e
    · exact ⟨h.2, h.1⟩)
  refine ⟨fun hc => ⟨⟨c0, by omega⟩, fun e => ⟨by omega, ⟨c0, by omega⟩, fun p => ⟨p, fun q => ⟨p, q⟩⟩, fun p q => hbad p q hc, fun p => ⟨by omega, ⟨by omega, by omega, ?_, by omega, by omega, hgo p⟩, by omega⟩⟩,
    fun e => ⟨⟨c0, by omega⟩, fun p => ⟨p, fun q => ⟨p, q⟩⟩, fun p q => hbad p q hc, fun p => ⟨by omega, ⟨by omega, by omega, ?_, by omega, by omega, hgo p⟩, by omega⟩⟩⟩, fun hc => ?_⟩
  · rw [hs, if_pos (show mi (t, w, m, i) c ≠ -1 from e), ha]
  · rw [hs, if_neg (show ¬ mi (t, w, m, i) c ≠ -1 from fun h => h e), ha, Int.add_zero]
  have hc8 : c = 8 := by omega
  subst hc8
  obtain ⟨f1, f2⟩ := fq_good ⟨hB, hin⟩
  have ha' : a = cnt (t, w, m, i) 8 := ha
  have hqq : q = Q (t, w, m, i) (t - w).toNat := hq
  have hq0 : (a = (q.length : Int) ∧ a = t - w) ↔ qok (t, w, m, i) 0 := by
    rw [ha', hqq]
    exact ⟨fun h => ⟨h, fun j j0 j1 => by omega⟩, fun h => h.1⟩
  refine ⟨fun e => ⟨e, by omega⟩, ⟨by omega, hq0⟩, ?_⟩
  intro b j j0 j1 hb _ _
  have hlen : q.length = (Q (t, w, m, i) (t - w).toNat).length := by rw [hqq]
  have hst := qok_step (l := (t, w, m, i)) j0
  refine ⟨fun hj => ⟨⟨j0, hj⟩, fun e => ?_, fun e => ?_⟩, fun hj => ?_⟩
  · have hm0 := getD_mem (d := 0) (xs := q) (k := j.toNat) (by omega)
    have hm : 0 ≤ q.getD j.toNat 0 ∧ q.getD j.toNat 0 < 8 := Q_mem (l := (t, w, m, i)) (j := (t - w).toNat) (by rw [← hqq]; exact hm0)
    refine ⟨⟨hm.1, by omega⟩, by omega, by omega, ⟨by omega, by omega, ?_⟩, by omega⟩
    rw [hst, hqq]
    exact ⟨fun h => ⟨hb.1 e, h⟩, fun h => h.2⟩
  · refine ⟨by omega, ⟨by omega, by omega, ?_⟩, by omega⟩
    rw [hst]
    exact ⟨fun h => h.elim, fun h => by rw [hb.2 h.1] at e; cases e⟩
  · refine ⟨by rw [f1, hqq], ?_⟩
    rw [Bool.eq_iff_iff, hb, f2]
    rw [show j = ((Q (t, w, m, i) (t - w).toNat).length : Int) by omega]
theorem set_getD {α : Type} {xs : List α} {k : Nat} {y d : α} (h : k < xs.length) : (xs.set k y).getD k d = y := by
  rw [getD_lt (by simpa using h)]; simp
theorem e_step (x : LK × (Int × Int) × Unit) (_ : True) (hx : LensL cStep.as x) : E_step x := by
  obtain ⟨⟨n, w, m, i⟩, ⟨k, c⟩, u⟩ := x
  have hi : i.length = 8 := hx.1.2.2.2.1
  unfold E_step
  simp only [Bool.not_eq_true', Bool.not_eq_false', Bool.not_eq_true, Bool.not_eq_false, beq_self_eq_true, decide_eq_true_eq, decide_eq_false_iff_not, Bool.not_false, Bool.not_true, beq_iff_eq, beq_eq_false_iff_ne, bne_iff_ne, ne_eq, bne_eq_false_iff_eq, holds_iff, true_and, and_true, and_self, eq_self, List.length_cons, List.length_nil, List.length_append, List.length_set, List.length_replicate, List.set_cons_zero, cond_true, cond_false, Bool.false_eq_true, Bool.true_eq_false, forall_const, false_imp_iff, imp_self, implies_true, and_imp, Decidable.not_not, Bool.and_eq_true, Bool.or_eq_true, Bool.and_eq_false_iff, Bool.or_eq_false_iff, ← List.length_eq_zero_iff, or_self, or_false, false_or, Prod.forall, Int.reduceEq, Int.reduceLT, Int.reduceLE, List.nil_append, Nat.zero_add, Int.toNat_zero, List.drop_zero, List.length_drop, List.length_take, not_true_eq_false, not_false_eq_true,  pair_eta]
  refine ⟨fun hr => by simp [step, hr, bad], fun hr => ?_⟩
  obtain ⟨hb, ho, _, _⟩ := right_iff.1 hr
  simp only [inB] at hb
  have hc := ho c
  simp only [okc, mi, inn] at hc
  have hsg : 0 ≤ c → c < 8 → ∀ v : Bool, (i.set c.toNat v).getD c.toNat false = v := fun a b v => set_getD (by omega)
  clear ho hx
  repeat' (first | with_reducible apply And.intro | with_reducible intro _)
  all_goals first
    | omega
    | grind [step, bad, mi, inn]
theorem at_fact {l : LK} (hg : Good l) {c a : Int} (c0 : 0 ≤ c) (c8 : c < 8) (ha : -1 ≤ a) (haq : a < (fq l).1.length) (h1 : 0 ≤ a → (fq l).1.getD a.toNat 0 = c)
    (h2 : ∀ j : Int, a < j → 0 ≤ j → j < (fq l).1.length → ¬ (fq l).1.getD j.toNat 0 = c) : (0 ≤ a → mi l c = l.2.1 + a) ∧ (a < 0 → mi l c = -1) := by
  obtain ⟨g1, g2, g3⟩ := Good_q hg
  obtain ⟨f1, _⟩ := fq_good (l := l) ⟨hg.1, g3⟩
  rw [f1] at h1 h2 haq
  refine ⟨fun h => ?_, fun h => ?_⟩
  · rw [← h1 h]; exact g2.2 a h (by omega)
  · by_cases hne : mi l c = -1
    · exact hne
    · exfalso
      have hr : l.2.1 ≤ mi l c ∧ mi l c < l.1 := by
        rcases hg.2.1 c c0 c8 with q | q
        · exact absurd q.1 hne
        · exact q.1
      have hlen : ((Q l (l.1 - l.2.1).toNat).length : Int) = l.1 - l.2.1 := by omega
      have hq := g2.2 (mi l c - l.2.1) (by omega) (by omega)
      have hm := Q_mem (getD_mem (d := 0) (xs := Q l (l.1 - l.2.1).toNat) (k := (mi l c - l.2.1).toNat) (by omega))
      have hx := h2 (mi l c - l.2.1) (by omega) (by omega) (by omega)
      generalize (Q l (l.1 - l.2.1).toNat).getD (mi l c - l.2.1).toNat 0 = d at *
      have e : mi l d = mi l c := by omega
      have hb := hg.1
      simp only [inB] at hb
      rcases Int.lt_or_lt_of_ne hx with hlt | hlt
      · have := hg.2.2.1 d c hm.1 hlt c8 e
        omega
      · have := hg.2.2.1 c d c0 hlt hm.2 e.symm
        omega
theorem fq_len (l : LK) : (fq l).1.length ≤ 8 := by
  unfold fq
  split
  · rename_i h
    rw [Q_len]
    have := num_le (p := fun c => decide (l.2.1 ≤ mi l c ∧ mi l c < l.2.1 + ((l.1 - l.2.1).toNat : Int))) (q := fun _ => true) (k := 8) (fun _ _ _ => rfl)
    have h8 : num (fun _ => true) 8 = 8 := rfl
    omega
  · simp
theorem e_fstep (x : LK × (Int × Int) × Unit) (_ : True) (hx : LensL cStep.as x) : E_fstep x := by
  obtain ⟨⟨n, w, m, i⟩, ⟨k, c⟩, u⟩ := x
  have hl := fq_len (n, w, m, i)
  unfold E_fstep
  simp only [Bool.not_eq_true', Bool.not_eq_false', Bool.not_eq_true, Bool.not_eq_false, beq_self_eq_true, decide_eq_true_eq, decide_eq_false_iff_not, Bool.not_false, Bool.not_true, beq_iff_eq, beq_eq_false_iff_ne, bne_iff_ne, ne_eq, bne_eq_false_iff_eq, holds_iff, true_and, and_true, and_self, eq_self, List.length_cons, List.length_nil, List.length_append, List.length_set, List.length_replicate, List.set_cons_zero, cond_true, cond_false, Bool.false_eq_true, Bool.true_eq_false, forall_const, false_imp_iff, imp_self, implies_true, and_imp, Decidable.not_not, Bool.and_eq_true, Bool.or_eq_true, Bool.and_eq_false_iff, Bool.or_eq_false_iff, ← List.length_eq_zero_iff, or_self, or_false, false_or, Prod.forall, Int.reduceEq, Int.reduceLT, Int.reduceLE, List.nil_append, Nat.zero_add, Int.toNat_zero, List.drop_zero, List.length_drop, List.length_take, not_true_eq_false, not_false_eq_true,  pair_eta]
  refine ⟨⟨by omega, fun j _ _ _ => by omega⟩, ?_⟩
  intro a p p0 p1 a0 a1 h1 h2 _ _ _ _
  refine ⟨fun hp => ⟨⟨p0, hp⟩, fun e => ⟨by omega, ⟨by omega, by omega, by omega, by omega, fun _ => e, fun j _ _ _ => by omega⟩, by omega⟩, fun e => ⟨by omega, ⟨by omega, by omega, a0, by omega, h1, fun j j1 j2 j3 => ?_⟩, by omega⟩⟩, fun hp => ⟨fun hf => ?_, fun hf => ?_⟩⟩
  · by_cases ej : j = p
    · subst ej; exact e
    · exact h2 j j1 j2 (by omega)
  · rw [fq_ok] at hf
    simp [step, hf, bad]
  · rw [fq_ok] at hf
    have hg := right_iff.1 hf
    obtain ⟨hb, ho, _, _⟩ := right_iff.1 hf
    simp only [inB] at hb
    have hfact := fun c0 c8 => at_fact hg (c := c) (a := a) c0 c8 a0 (by omega) h1 (fun j j1 j2 j3 => h2 j j1 j2 (by omega))
    have hc := ho c
    simp only [okc, mi, inn] at hc hfact
    have hbe : 0 ≤ c → c < 8 → 0 ≤ a → (m.getD c.toNat 0 == w) = (a == 0) := fun c0 c8 ha => by
      have := (hfact c0 c8).1 ha
      rw [Bool.eq_iff_iff, beq_iff_eq, beq_iff_eq]; omega
    clear h1 h2 ho hg hx
    repeat' (first | with_reducible apply And.intro | with_reducible intro _)
    all_goals first
      | omega
      | grind [step, bad, mi, inn]

end Go.Proofs.Ytmcepjbbbkgfcaa.Ticketp
