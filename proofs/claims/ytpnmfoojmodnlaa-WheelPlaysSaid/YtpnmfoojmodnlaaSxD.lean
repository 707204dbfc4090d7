/-
  Sx, part D: how a state's meaning is kept when names are made, written and dropped.
-/
import Derived.Test.YtpnmfoojmodnlaaSxC
namespace Go.Sx
open Go.RowKit

theorem beq_ne {n k : Nat} (h : n ≠ k) : Nat.beq n k = false := by
  cases e : Nat.beq n k
  · rfl
  · exact absurd (Nat.eq_of_beq_eq_true e) h
theorem hset_same (hp : Nat → Option HE) (k : Nat) (he : Option HE) : hset hp k he k = he := by simp [hset]
theorem hset_other (hp : Nat → Option HE) {k n : Nat} (he : Option HE) (h : n ≠ k) : hset hp k he n = hp n := by
  simp [hset, beq_ne h]
theorem uset_same (us : Nat → Bool) (k : Nat) : uset us k k = true := by simp [uset]
theorem uset_of {us : Nat → Bool} {k n : Nat} (h : us n = true) : uset us k n = true := by
  simp only [uset]
  cases Nat.beq n k <;> simp [h]
theorem uset_other {us : Nat → Bool} {k n : Nat} (h : n ≠ k) : uset us k n = us n := by
  simp [uset, beq_ne h]

/-- The world w' is w with more behind it. -/
structure More (w w' : World) : Prop where
  below : Below w.heap.size w w'
theorem More.refl (w : World) : More w w := ⟨Below.refl _ _⟩
theorem More.alloc (w : World) (o : Obj) : More w (w.alloc o) := ⟨(Below.refl _ _).alloc (Nat.le_refl _) o⟩
theorem More.drew (w : World) : More w w.drew := ⟨(Below.refl _ _).drew⟩
theorem More.trans {a b c : World} (h : More a b) (k : More b c) : More a c := ⟨h.below.trans (k.below.mono h.below.size)⟩
theorem More.old {w w' : World} (h : More w w') {b : Nat} (hb : b < w.heap.size) : w'.heap[b]? = w.heap[b]? := h.below.block b hb

def rset (ρ : Nat → Value) (k : Nat) (v : Value) : Nat → Value := fun n => if n = k then v else ρ n
theorem rset_same (ρ : Nat → Value) (k : Nat) (v : Value) : rset ρ k v k = v := by simp [rset]
theorem rset_other (ρ : Nat → Value) {k n : Nat} (v : Value) (h : n ≠ k) : rset ρ k v n = ρ n := by simp [rset, h]

section
variable {w0 : Base} {w w' : World} {ρ : Nat → Value} {s : St} {a : Act}

/-- Only more has come. -/
theorem Ok.more (h : Ok w0 ρ s a w) (m : More w w') : Ok w0 ρ s a w' := by
  have hle : (cx w0 ρ s w).le (cx w0 ρ s w') :=
    ⟨fun _ hk => hk, fun _ _ => rfl, fun b hb => ⟨⟨Nat.lt_of_lt_of_le hb.1 m.below.size, hb.2.1, hb.2.2⟩, m.old hb.1⟩⟩
  exact h.move rfl rfl hle (h.belowS m.below) (fun k he hk => HEc.mono hle (h.used k he hk) (fun b hb => m.old (h.fresh k he b hk hb).2) (h.heap k he hk))
    h.used (fun k he b hk hb => ⟨(h.fresh k he b hk hb).1, Nat.lt_of_lt_of_le (h.fresh k he b hk hb).2 m.below.size⟩) h.apart

/-- A name that owns what its value tells, and no more. -/
def HE.pl : HE → Bool
  | .pool _ _ => false
  | .mapit _ _ _ _ _ _ => false
  | .orw _ _ => false
  | _ => true
theorem Bk_pl {he : HE} (h : he.pl = true) {v : Value} {b : Nat} : Bk he v b ↔ blkOf v = some b := by
  cases he <;> first | exact Iff.rfl | cases h

/-- Some names T are touched: what they own behind that, they owned ahead of it, or it is new. -/
theorem step_le {s' : St} {ρ' : Nat → Value} {T : Nat → Prop} (h : Ok w0 ρ s a w) (hus : ∀ n, s.us n = true → s'.us n = true) (hρ : ∀ n, s.us n = true → ρ' n = ρ n) (hsz : w.heap.size ≤ w'.heap.size)
    (same : ∀ n, ¬ T n → s'.hp n = s.hp n) (hold : ∀ b, b < w.heap.size → (∀ n he, T n → s.hp n = some he → ¬ Bk he (ρ n) b) → w'.heap[b]? = w.heap[b]?)
    (own : ∀ n he b, T n → s'.hp n = some he → Bk he (ρ' n) b → (∃ n0 h0, T n0 ∧ s.hp n0 = some h0 ∧ Bk h0 (ρ n0) b) ∨ (w.heap.size ≤ b ∧ b < w'.heap.size)) :
    (cx w0 ρ s w).le (cx w0 ρ' s' w') := by
  refine ⟨hus, hρ, fun b hS => ⟨⟨Nat.lt_of_lt_of_le hS.1 hsz, fun n h' hn hB => ?_, hS.2.2⟩, hold b hS.1 (fun n he _ hn => hS.2.1 n he hn)⟩⟩
  by_cases hT : T n
  · rcases own n h' b hT hn hB with ⟨n0, h0, _, h1, h2⟩ | ⟨h1, _⟩
    · exact hS.2.1 n0 h0 h1 h2
    · have := hS.1
      change b < w.heap.size at this
      omega
  · rw [same n hT] at hn
    rw [hρ n (h.used n h' hn)] at hB
    exact hS.2.1 n h' hn hB
theorem Ok.step {s' : St} {ρ' : Nat → Value} (T : Nat → Prop) (h : Ok w0 ρ s a w) (hfr : s'.fr = s.fr) (hbk : s'.bk = s.bk) (hus : ∀ n, s.us n = true → s'.us n = true) (hρ : ∀ n, s.us n = true → ρ' n = ρ n)
    (hb : BelowS w0.old w w') (same : ∀ n, ¬ T n → s'.hp n = s.hp n) (hold : ∀ b, b < w.heap.size → (∀ n he, T n → s.hp n = some he → ¬ Bk he (ρ n) b) → w'.heap[b]? = w.heap[b]?)
    (own : ∀ n he b, T n → s'.hp n = some he → Bk he (ρ' n) b → (∃ n0 h0, T n0 ∧ s.hp n0 = some h0 ∧ Bk h0 (ρ n0) b) ∨ (w.heap.size ≤ b ∧ b < w'.heap.size))
    (used : ∀ n he, T n → s'.hp n = some he → s'.us n = true)
    (apart : ∀ n n' he he' b, n ≠ n' → T n → T n' → s'.hp n = some he → s'.hp n' = some he' → Bk he (ρ' n) b → ¬ Bk he' (ρ' n') b)
    (heap : ∀ n he, T n → s'.hp n = some he → (cx w0 ρ s w).le (cx w0 ρ' s' w') → HEc (cx w0 ρ' s' w') n he) : Ok w0 ρ' s' a w' := by
  have hle := step_le h hus hρ hb.size same hold own
  have hnew : ∀ {n he b}, T n → s'.hp n = some he → Bk he (ρ' n) b → ∀ n' he', ¬ T n' → s.hp n' = some he' → ¬ Bk he' (ρ n') b := fun {n he b} hT hn hB n' he' hT' hn' hB' => by
    rcases own n he b hT hn hB with ⟨n0, h0, g0, g1, g2⟩ | ⟨g1, _⟩
    · exact h.apart n0 n' h0 he' b (fun e => hT' (by rw [← e]; exact g0)) g1 hn' g2 hB'
    · have := (h.fresh n' he' b hn' hB').2
      omega
  refine h.move hfr hbk hle hb (fun n he hn => ?_) (fun n he hn => ?_) (fun n he b hn hB => ?_) (fun n n' he he' b hne hn hn' hB hB' => ?_)
  · by_cases hT : T n
    · exact heap n he hT hn hle
    · rw [same n hT] at hn
      exact HEc.mono hle (h.used n he hn) (fun b hB => hold b (h.fresh n he b hn hB).2 (fun n0 h0 g0 g1 g2 => h.apart n0 n h0 he b (fun e => hT (by rw [← e]; exact g0)) g1 hn g2 hB)) (h.heap n he hn)
  · by_cases hT : T n
    · exact used n he hT hn
    · rw [same n hT] at hn
      exact hus n (h.used n he hn)
  · by_cases hT : T n
    · rcases own n he b hT hn hB with ⟨n0, h0, _, h1, h2⟩ | h1
      · have := h.fresh n0 h0 b h1 h2
        exact ⟨this.1, Nat.lt_of_lt_of_le this.2 hb.size⟩
      · exact ⟨h.newold h1.1, h1.2⟩
    · rw [same n hT] at hn
      rw [hρ n (h.used n he hn)] at hB
      have := h.fresh n he b hn hB
      exact ⟨this.1, Nat.lt_of_lt_of_le this.2 hb.size⟩
  · by_cases hT : T n
    · by_cases hT' : T n'
      · exact apart n n' he he' b hne hT hT' hn hn' hB hB'
      · rw [same n' hT'] at hn'
        rw [hρ n' (h.used n' he' hn')] at hB'
        exact hnew hT hn hB n' he' hT' hn' hB'
    · rw [same n hT] at hn
      rw [hρ n (h.used n he hn)] at hB
      by_cases hT' : T n'
      · exact hnew hT' hn' hB' n he hT hn hB
      · rw [same n' hT'] at hn'
        rw [hρ n' (h.used n' he' hn')] at hB'
        exact h.apart n n' he he' b hne hn hn' hB hB'
theorem new_hp {k n : Nat} {he : HE} (h : n ≠ k) : (s.new k he).hp n = s.hp n := hset_other _ _ h
theorem new_at {k : Nat} {he : HE} : (s.new k he).hp k = some he := hset_same _ _ _
theorem upd_hp {k n : Nat} {he : HE} (h : n ≠ k) : (s.upd k he).hp n = s.hp n := hset_other _ _ h
theorem upd_at {k : Nat} {he : HE} : (s.upd k he).hp k = some he := hset_same _ _ _
theorem drop_hp {k n : Nat} (h : n ≠ k) : (s.drop k).hp n = s.hp n := hset_other _ _ h
theorem drop_at {k : Nat} : (s.drop k).hp k = none := hset_same _ _ _

theorem new_le {k : Nat} {he : HE} {v : Value} (h : Ok w0 ρ s a w) (hk : s.us k = false) (m : More w w') (hb : ∀ b, Bk he v b → w.heap.size ≤ b ∧ b < w'.heap.size) :
    (cx w0 ρ s w).le (cx w0 (rset ρ k v) (s.new k he) w') :=
  step_le (T := fun n => n = k) h (fun n hn => uset_of hn) (fun n hn => rset_other ρ v (fun e => by rw [e, hk] at hn; cases hn)) m.below.size (fun n hn => new_hp hn) (fun b hb _ => m.old hb)
    (fun n h' b e hn hB => by subst e; rw [new_at] at hn; injection hn with hn; subst hn; rw [rset_same] at hB; exact .inr (hb b hB))
/-- A new name, for what lies in new memory (or in none). -/
theorem Ok.new (h : Ok w0 ρ s a w) {k : Nat} {he : HE} {v : Value} (hk : s.us k = false) (m : More w w')
    (hb : ∀ b, Bk he v b → w.heap.size ≤ b ∧ b < w'.heap.size) (hhe : HEc (cx w0 (rset ρ k v) (s.new k he) w') k he) :
    Ok w0 (rset ρ k v) (s.new k he) a w' :=
  h.step (fun n => n = k) rfl rfl (fun n hn => uset_of hn) (fun n hn => rset_other ρ v (fun e => by rw [e, hk] at hn; cases hn)) (h.belowS m.below) (fun n hn => new_hp hn) (fun b hb _ => m.old hb)
    (fun n h' b e hn hB => by subst e; rw [new_at] at hn; injection hn with hn; subst hn; rw [rset_same] at hB; exact .inr (hb b hB))
    (fun n h' e _ => by subst e; exact uset_same _ _) (fun n n' h1 h2 b hne e e' => absurd (e.trans e'.symm) hne)
    (fun n h' e hn _ => by subst e; rw [new_at] at hn; injection hn with hn; subst hn; exact hhe)

/-- A name is let go. -/
theorem drop_le {k : Nat} (h : Ok w0 ρ s a w) : (cx w0 ρ s w).le (cx w0 ρ (s.drop k) w) :=
  step_le (T := fun n => n = k) h (fun _ hn => hn) (fun _ _ => rfl) (Nat.le_refl _) (fun n hn => drop_hp hn) (fun _ _ _ => rfl)
    (fun n h' b e hn _ => by subst e; rw [drop_at] at hn; cases hn)
theorem Ok.drop (h : Ok w0 ρ s a w) (k : Nat) : Ok w0 ρ (s.drop k) a w :=
  h.step (fun n => n = k) rfl rfl (fun _ hn => hn) (fun _ _ => rfl) (BelowS.refl _ _) (fun n hn => drop_hp hn) (fun _ _ _ => rfl)
    (fun n h' b e hn _ => by subst e; rw [drop_at] at hn; cases hn) (fun n h' e hn => by subst e; rw [drop_at] at hn; cases hn)
    (fun n n' h1 h2 b hne e e' => absurd (e.trans e'.symm) hne) (fun n h' e hn _ => by subst e; rw [drop_at] at hn; cases hn)

/-- A name's own memory is written. -/
theorem upd_le {k : Nat} {he h0 : HE} (h : Ok w0 ρ s a w) (hk : s.hp k = some h0) (hB : ∀ b, Bk he (ρ k) b → Bk h0 (ρ k) b ∨ (w.heap.size ≤ b ∧ b < w'.heap.size)) (hsz : w.heap.size ≤ w'.heap.size)
    (hold : ∀ b, b < w.heap.size → ¬ Bk h0 (ρ k) b → w'.heap[b]? = w.heap[b]?) : (cx w0 ρ s w).le (cx w0 ρ (s.upd k he) w') :=
  step_le (T := fun n => n = k) h (fun _ hn => hn) (fun _ _ => rfl) hsz (fun n hn => upd_hp hn) (fun b hb hn => hold b hb (hn k h0 rfl hk))
    (fun n h' b e hn hb => by
      subst e; rw [upd_at] at hn; injection hn with hn; subst hn
      rcases hB b hb with h1 | h1
      · exact .inl ⟨n, h0, rfl, hk, h1⟩
      · exact .inr h1)
theorem Ok.upd (h : Ok w0 ρ s a w) {k : Nat} {he h0 : HE} (hk : s.hp k = some h0) (hB : ∀ b, Bk he (ρ k) b → Bk h0 (ρ k) b ∨ (w.heap.size ≤ b ∧ b < w'.heap.size)) (hb : BelowS w0.old w w')
    (hold : ∀ b, b < w.heap.size → ¬ Bk h0 (ρ k) b → w'.heap[b]? = w.heap[b]?) (hhe : HEc (cx w0 ρ (s.upd k he) w') k he) : Ok w0 ρ (s.upd k he) a w' :=
  h.step (fun n => n = k) rfl rfl (fun _ hn => hn) (fun _ _ => rfl) hb (fun n hn => upd_hp hn) (fun b hb hn => hold b hb (hn k h0 rfl hk))
    (fun n h' b e hn hb => by
      subst e; rw [upd_at] at hn; injection hn with hn; subst hn
      rcases hB b hb with h1 | h1
      · exact .inl ⟨n, h0, rfl, hk, h1⟩
      · exact .inr h1)
    (fun n h' e _ => by subst e; exact h.used n h0 hk) (fun n n' h1 h2 b hne e e' => absurd (e.trans e'.symm) hne)
    (fun n h' e hn _ => by subst e; rw [upd_at] at hn; injection hn with hn; subst hn; exact hhe)

/-- A name's block goes over to a new name. -/
theorem Ok.renew (h : Ok w0 ρ s a w) {k k' b : Nat} {he h0 : HE} {v : Value} (hk : s.hp k = some h0) (hp0 : h0.pl = true) (hp : he.pl = true) (hbk : blkOf (ρ k) = some b) (hus : s.us k' = false) (hv : blkOf v = some b)
    (hb : BelowS w0.old w w') (hold : ∀ b', b' ≠ b → b' < w.heap.size → w'.heap[b']? = w.heap[b']?)
    (hhe : ∀ c' : Cx, (cx w0 ρ s w).le c' → c'.w = w' → c'.ρ k' = v → HEc c' k' he) : Ok w0 (rset ρ k' v) ((s.drop k).new k' he) a w' := by
  have hkk : k ≠ k' := fun e => by have := h.used k h0 hk; rw [e, hus] at this; cases this
  have hat : ((s.drop k).new k' he).hp k = none := by rw [new_hp hkk]; exact drop_at
  refine h.step (fun n => n = k ∨ n = k') rfl rfl (fun n hn => uset_of hn) (fun n hn => rset_other ρ v (fun e => by rw [e, hus] at hn; cases hn)) hb
    (fun n hn => by rw [new_hp (fun e => hn (.inr e)), drop_hp (fun e => hn (.inl e))]) (fun b' hlt hn => hold b' (fun e => hn k h0 (.inl rfl) hk ((Bk_pl hp0).2 (by rw [e]; exact hbk))) hlt) ?_ ?_ ?_ ?_
  · intro n h' b' hT hn hB
    rcases hT with e | e
    · subst e; rw [hat] at hn; cases hn
    · subst e
      rw [new_at] at hn; injection hn with hn; subst hn
      rw [rset_same] at hB
      have := (Bk_pl hp).1 hB
      exact .inl ⟨k, h0, .inl rfl, hk, (Bk_pl hp0).2 (by rw [hbk, ← hv]; exact this)⟩
  · intro n h' hT hn
    rcases hT with e | e
    · subst e; rw [hat] at hn; cases hn
    · subst e; exact uset_same _ _
  · intro n n' h1 h2 b' hne hT hT' hn hn'
    rcases hT with e | e
    · subst e; rw [hat] at hn; cases hn
    · rcases hT' with e' | e'
      · subst e'; rw [hat] at hn'; cases hn'
      · exact absurd (e.trans e'.symm) hne
  · intro n h' hT hn hle
    rcases hT with e | e
    · subst e; rw [hat] at hn; cases hn
    · subst e
      rw [new_at] at hn; injection hn with hn; subst hn
      exact hhe _ hle rfl (rset_same _ _ _)
/-- A name is taken, for a value that lies anywhere: nothing of our own goes by it. -/
theorem Ok.use (h : Ok w0 ρ s a w) {k : Nat} {v : Value} (hk : s.us k = false) : Ok w0 (rset ρ k v) { s with us := uset s.us k } a w :=
  h.step (fun _ => False) rfl rfl (fun n hn => uset_of hn) (fun n hn => rset_other ρ v (fun e => by rw [e, hk] at hn; cases hn)) (BelowS.refl _ _) (fun _ _ => rfl) (fun _ _ _ => rfl) (fun _ _ _ hT => hT.elim) (fun _ _ hT => hT.elim) (fun _ _ _ _ _ _ hT => hT.elim) (fun _ _ hT => hT.elim)
theorem use_le {k : Nat} {v : Value} (h : Ok w0 ρ s a w) (hk : s.us k = false) : (cx w0 ρ s w).le (cx w0 (rset ρ k v) { s with us := uset s.us k } w) :=
  step_le (T := fun _ => False) h (fun n hn => uset_of hn) (fun n hn => rset_other ρ v (fun e => by rw [e, hk] at hn; cases hn)) (Nat.le_refl _) (fun _ _ => rfl) (fun _ _ _ => rfl) (fun _ _ _ hT => hT.elim)
/-- A name's memory goes over to another name that was taken for it. -/
theorem Ok.root (h : Ok w0 ρ s a w) {k k' : Nat} {he h0 : HE} (hk : s.hp k = some h0) (hp0 : h0.pl = true) (hp : he.pl = true) (hk' : s.hp k' = none) (hu : s.us k' = true) (hb : blkOf (ρ k') = none ∨ blkOf (ρ k') = blkOf (ρ k))
    (hhe : ∀ c' : Cx, (cx w0 ρ s w).le c' → c'.w = w → c'.ρ = ρ → HEc c' k' he) : Ok w0 ρ ((s.drop k).upd k' he) a w := by
  have hkk : k ≠ k' := fun e => by rw [e, hk'] at hk; cases hk
  have hat : ((s.drop k).upd k' he).hp k = none := by rw [upd_hp hkk]; exact drop_at
  refine h.step (fun n => n = k ∨ n = k') rfl rfl (fun n hn => hn) (fun n hn => rfl) (BelowS.refl _ _)
    (fun n hn => by rw [upd_hp (fun e => hn (.inr e)), drop_hp (fun e => hn (.inl e))]) (fun b' hlt hn => rfl) ?_ ?_ ?_ ?_
  · intro n h' b' hT hn hB
    rcases hT with e | e
    · subst e; rw [hat] at hn; cases hn
    · subst e
      rw [upd_at] at hn; injection hn with hn; subst hn
      have := (Bk_pl hp).1 hB
      rcases hb with hb | hb
      · rw [hb] at this; cases this
      · exact .inl ⟨k, h0, .inl rfl, hk, (Bk_pl hp0).2 (by rw [← hb]; exact this)⟩
  · intro n h' hT hn
    rcases hT with e | e
    · subst e; rw [hat] at hn; cases hn
    · subst e; exact hu
  · intro n n' h1 h2 b' hne hT hT' hn hn'
    rcases hT with e | e
    · subst e; rw [hat] at hn; cases hn
    · rcases hT' with e' | e'
      · subst e'; rw [hat] at hn'; cases hn'
      · exact absurd (e.trans e'.symm) hne
  · intro n h' hT hn hle
    rcases hT with e | e
    · subst e; rw [hat] at hn; cases hn
    · subst e
      rw [upd_at] at hn; injection hn with hn; subst hn
      exact hhe _ hle rfl rfl
end
end Go.Sx
