/-
  Sx, part D: how a state's meaning is kept when names are made, written and dropped.
-/
import Derived.Test.YtlkhpbjjimjhbaaSxC
namespace Go.Sx
open Go.RowKit

theorem beq_ne {n k : Nat} (h : n ≠ k) : Nat.beq n k = false := by
  cases e : Nat.beq n k
  · rfl
  · exact absurd (Nat.eq_of_beq_eq_true e) h
theorem hset_same (hp : Nat → Option HE) (k : Nat) (he : Option HE) : hset hp k he k = he := by simp [hset]
theorem hset_other (hp : Nat → Option HE) {k n : Nat} (he : Option HE) (h : n ≠ k) : hset hp k he n = hp n := by
  simp [hset, beq_ne h]
theorem uset_same (us : Nat → Bool) (k : Nat) : uset us k k = true := by simp [uset]
theorem uset_of {us : Nat → Bool} {k n : Nat} (h : us n = true) : uset us k n = true := by
  simp only [uset]
  cases Nat.beq n k <;> simp [h]
theorem uset_other {us : Nat → Bool} {k n : Nat} (h : n ≠ k) : uset us k n = us n := by
  simp [uset, beq_ne h]

/-- The world w' is w with more behind it. -/
structure More (w w' : World) : Prop where
  below : Below w.heap.size w w'
theorem More.refl (w : World) : More w w := ⟨Below.refl _ _⟩
theorem More.alloc (w : World) (o : Obj) : More w (w.alloc o) := ⟨(Below.refl _ _).alloc (Nat.le_refl _) o⟩
theorem More.drew (w : World) : More w w.drew := ⟨(Below.refl _ _).drew⟩
theorem More.trans {a b c : World} (h : More a b) (k : More b c) : More a c := ⟨h.below.trans (k.below.mono h.below.size)⟩
theorem More.old {w w' : World} (h : More w w') {b : Nat} (hb : b < w.heap.size) : w'.heap[b]? = w.heap[b]? := h.below.block b hb

def rset (ρ : Nat → Value) (k : Nat) (v : Value) : Nat → Value := fun n => if n = k then v else ρ n
theorem rset_same (ρ : Nat → Value) (k : Nat) (v : Value) : rset ρ k v k = v := by simp [rset]
theorem rset_other (ρ : Nat → Value) {k n : Nat} (v : Value) (h : n ≠ k) : rset ρ k v n = ρ n := by simp [rset, h]

section
variable {w0 : Base} {w w' : World} {ρ : Nat → Value} {s : St} {a : Act}

/-- Only more has come. -/
theorem Ok.more (h : Ok w0 ρ s a w) (m : More w w') : Ok w0 ρ s a w' := by
  have hle : (cx w0 ρ s w).le (cx w0 ρ s w') :=
    ⟨fun _ hk => hk, fun _ _ => rfl, fun b hb => ⟨⟨Nat.lt_of_lt_of_le hb.1 m.below.size, hb.2.1, hb.2.2⟩, m.old hb.1⟩⟩
  exact h.move rfl rfl hle (m.below.mono h.base) (fun k he hk => HEc.mono hle (h.used k he hk) (fun b hb => m.old (h.fresh k he b hk hb).2) (h.heap k he hk))
    h.used (fun k he b hk hb => ⟨(h.fresh k he b hk hb).1, Nat.lt_of_lt_of_le (h.fresh k he b hk hb).2 m.below.size⟩) h.apart

theorem new_le {k : Nat} {he : HE} {v : Value} (hk : s.us k = false) (m : More w w') (hb : ∀ b, blkOf v = some b → w.heap.size ≤ b) :
    (cx w0 ρ s w).le (cx w0 (rset ρ k v) (s.new k he) w') := by
  have hne : ∀ {n}, s.us n = true → n ≠ k := fun hn e => by rw [e, hk] at hn; cases hn
  refine ⟨fun n hn => uset_of hn, fun n hn => rset_other ρ v (hne hn), fun b hS => ⟨⟨Nat.lt_of_lt_of_le hS.1 m.below.size, fun n h' hn => ?_, hS.2.2⟩, m.old hS.1⟩⟩
  by_cases e : n = k
  · subst e
    rw [rset_same]
    intro e2
    have := hb b e2
    have := hS.1
    change b < w.heap.size at this
    omega
  · have hn' : s.hp n = some h' := by
      have : (s.new k he).hp n = s.hp n := hset_other _ _ e
      rw [← this]; exact hn
    rw [rset_other _ _ e]
    exact hS.2.1 n h' hn'

/-- A new name, for what lies in new memory (or in none). -/
theorem Ok.new (h : Ok w0 ρ s a w) {k : Nat} {he : HE} {v : Value} (hk : s.us k = false) (m : More w w')
    (hb : ∀ b, blkOf v = some b → w.heap.size ≤ b ∧ b < w'.heap.size) (hhe : HEc (cx w0 (rset ρ k v) (s.new k he) w') k he) :
    Ok w0 (rset ρ k v) (s.new k he) a w' := by
  have hle := new_le (w0 := w0) (ρ := ρ) (he := he) (v := v) hk m (fun b e => (hb b e).1)
  have hold : ∀ {n h'}, n ≠ k → (s.new k he).hp n = some h' → s.hp n = some h' := fun e hn => by rw [← hset_other s.hp (some he) e]; exact hn
  refine h.move rfl rfl hle (m.below.mono h.base) ?_ ?_ ?_ ?_
  · intro n h' hn
    by_cases e : n = k
    · subst e
      have : h' = he := by have := hn; rw [show (s.new n he).hp n = some he from hset_same _ _ _] at this; injection this with this; exact this.symm
      subst this; exact hhe
    · have hn' := hold e hn
      exact HEc.mono hle (h.used n h' hn') (fun b hb' => m.old (h.fresh n h' b hn' hb').2) (h.heap n h' hn')
  · intro n h' hn
    by_cases e : n = k
    · subst e; exact uset_same _ _
    · exact uset_of (h.used n h' (hold e hn))
  · intro n h' b hn hb'
    by_cases e : n = k
    · subst e
      rw [rset_same] at hb'
      exact ⟨Nat.le_trans h.base (hb b hb').1, (hb b hb').2⟩
    · rw [rset_other _ _ e] at hb'
      have := h.fresh n h' b (hold e hn) hb'
      exact ⟨this.1, Nat.lt_of_lt_of_le this.2 m.below.size⟩
  · intro n n' h1 h2 b hne hn hn' hb1 hb2
    by_cases e : n = k
    · subst e
      have e' : n' ≠ n := fun x => hne x.symm
      rw [rset_same] at hb1
      rw [rset_other _ _ e'] at hb2
      have := (h.fresh n' h2 b (hold e' hn') hb2).2
      have := (hb b hb1).1
      omega
    · rw [rset_other _ _ e] at hb1
      by_cases e' : n' = k
      · subst e'
        rw [rset_same] at hb2
        have := (h.fresh n h1 b (hold e hn) hb1).2
        have := (hb b hb2).1
        omega
      · rw [rset_other _ _ e'] at hb2
        exact h.apart n n' h1 h2 b hne (hold e hn) (hold e' hn') hb1 hb2

/-- A name is let go. -/
theorem drop_le {k : Nat} : (cx w0 ρ s w).le (cx w0 ρ (s.drop k) w) := by
  refine ⟨fun _ hn => hn, fun _ _ => rfl, fun b hS => ⟨⟨hS.1, fun n h' hn => ?_, hS.2.2⟩, rfl⟩⟩
  by_cases e : n = k
  · subst e
    have : (s.drop n).hp n = none := hset_same _ _ _
    rw [this] at hn; cases hn
  · exact hS.2.1 n h' (by rw [← hset_other s.hp none e]; exact hn)
theorem Ok.drop (h : Ok w0 ρ s a w) (k : Nat) : Ok w0 ρ (s.drop k) a w := by
  have hold : ∀ {n h'}, (s.drop k).hp n = some h' → s.hp n = some h' := fun {n h'} hn => by
    by_cases e : n = k
    · subst e; rw [show (s.drop n).hp n = none from hset_same _ _ _] at hn; cases hn
    · rw [← hset_other s.hp none e]; exact hn
  exact h.move rfl rfl drop_le (Below.refl _ _) (fun n h' hn => HEc.mono drop_le (h.used n h' (hold hn)) (fun _ _ => rfl) (h.heap n h' (hold hn)))
    (fun n h' hn => h.used n h' (hold hn)) (fun n h' b hn hb => h.fresh n h' b (hold hn) hb)
    (fun n n' h1 h2 b hne hn hn' => h.apart n n' h1 h2 b hne (hold hn) (hold hn'))

/-- A name's own block is written. -/
theorem upd_le {k : Nat} {he : HE} (hk : ∃ h', s.hp k = some h') (hsz : w.heap.size ≤ w'.heap.size)
    (hold : ∀ b, blkOf (ρ k) ≠ some b → w'.heap[b]? = w.heap[b]?) : (cx w0 ρ s w).le (cx w0 ρ (s.upd k he) w') := by
  obtain ⟨hh, hk⟩ := hk
  refine ⟨fun _ hn => hn, fun _ _ => rfl, fun b hS => ⟨⟨Nat.lt_of_lt_of_le hS.1 hsz, fun n h' hn => ?_, hS.2.2⟩, hold b (hS.2.1 k hh hk)⟩⟩
  by_cases e : n = k
  · subst e; exact hS.2.1 n hh hk
  · exact hS.2.1 n h' (by rw [← hset_other s.hp (some he) e]; exact hn)
theorem Ok.upd (h : Ok w0 ρ s a w) {k : Nat} {he h0 : HE} (hk : s.hp k = some h0) (hb : Below w0.w.heap.size w w')
    (hold : ∀ b, blkOf (ρ k) ≠ some b → w'.heap[b]? = w.heap[b]?) (hhe : HEc (cx w0 ρ (s.upd k he) w') k he) : Ok w0 ρ (s.upd k he) a w' := by
  have hle := upd_le (w0 := w0) (ρ := ρ) (he := he) ⟨h0, hk⟩ hb.size hold
  have hback : ∀ {n h'}, n ≠ k → (s.upd k he).hp n = some h' → s.hp n = some h' := fun e hn => by rw [← hset_other s.hp (some he) e]; exact hn
  have hsome : ∀ {n h'}, (s.upd k he).hp n = some h' → ∃ h'', s.hp n = some h'' := fun {n h'} hn => by
    by_cases e : n = k
    · subst e; exact ⟨h0, hk⟩
    · exact ⟨h', hback e hn⟩
  refine h.move rfl rfl hle hb ?_ ?_ ?_ ?_
  · intro n h' hn
    by_cases e : n = k
    · subst e
      have : h' = he := by have := hn; rw [show (s.upd n he).hp n = some he from hset_same _ _ _] at this; injection this with this; exact this.symm
      subst this; exact hhe
    · have hn' := hback e hn
      exact HEc.mono hle (h.used n h' hn') (fun b hb' => hold b (fun e2 => h.apart k n h0 h' b (fun x => e x.symm) hk hn' e2 hb')) (h.heap n h' hn')
  · intro n h' hn
    obtain ⟨h'', hn'⟩ := hsome hn
    exact h.used n h'' hn'
  · intro n h' b hn hb'
    obtain ⟨h'', hn'⟩ := hsome hn
    have := h.fresh n h'' b hn' hb'
    exact ⟨this.1, Nat.lt_of_lt_of_le this.2 hb.size⟩
  · intro n n' h1 h2 b hne hn hn'
    obtain ⟨h1', hn1⟩ := hsome hn
    obtain ⟨h2', hn2⟩ := hsome hn'
    exact h.apart n n' h1' h2' b hne hn1 hn2

/-- A name's block goes over to a new name. -/
theorem Ok.renew (h : Ok w0 ρ s a w) {k k' b : Nat} {he h0 : HE} {v : Value} (hk : s.hp k = some h0) (hbk : blkOf (ρ k) = some b) (hus : s.us k' = false) (hv : blkOf v = some b)
    (hb : Below w0.w.heap.size w w') (hold : ∀ b', b' ≠ b → b' < w.heap.size → w'.heap[b']? = w.heap[b']?)
    (hhe : ∀ c' : Cx, (cx w0 ρ s w).le c' → c'.w = w' → c'.ρ k' = v → HEc c' k' he) : Ok w0 (rset ρ k' v) ((s.drop k).new k' he) a w' := by
  have hne : ∀ {n}, s.us n = true → n ≠ k' := fun hn e => by rw [e, hus] at hn; cases hn
  have hback : ∀ {n h'}, n ≠ k' → ((s.drop k).new k' he).hp n = some h' → n ≠ k ∧ s.hp n = some h' := fun {n h'} e hn => by
    have h1 : ((s.drop k).new k' he).hp n = (s.drop k).hp n := hset_other _ _ e
    rw [h1] at hn
    by_cases e2 : n = k
    · subst e2; rw [show (s.drop n).hp n = none from hset_same _ _ _] at hn; cases hn
    · exact ⟨e2, by rw [← hset_other s.hp none e2]; exact hn⟩
  have hle : (cx w0 ρ s w).le (cx w0 (rset ρ k' v) ((s.drop k).new k' he) w') := by
    refine ⟨fun n hn => uset_of hn, fun n hn => rset_other ρ v (hne hn), fun b1 hS => ?_⟩
    have hb1 : b1 ≠ b := fun e => hS.2.1 k h0 hk (by rw [e]; exact hbk)
    refine ⟨⟨Nat.lt_of_lt_of_le hS.1 hb.size, fun n h' hn => ?_, hS.2.2⟩, hold b1 hb1 hS.1⟩
    by_cases e : n = k'
    · subst e
      rw [rset_same, hv]
      intro e2; injection e2 with e2; exact hb1 e2.symm
    · obtain ⟨_, hn'⟩ := hback e hn
      rw [rset_other _ _ e]
      exact hS.2.1 n h' hn'
  refine h.move rfl rfl hle hb ?_ ?_ ?_ ?_
  · intro n h' hn
    by_cases e : n = k'
    · subst e
      have : h' = he := by have := hn; rw [show ((s.drop k).new n he).hp n = some he from hset_same _ _ _] at this; injection this with this; exact this.symm
      subst this
      exact hhe _ hle rfl (rset_same _ _ _)
    · obtain ⟨e2, hn'⟩ := hback e hn
      exact HEc.mono hle (h.used n h' hn') (fun b1 hb1 => hold b1 (fun e3 => h.apart k n h0 h' b (fun x => e2 x.symm) hk hn' hbk (by rw [← e3]; exact hb1)) (h.fresh n h' b1 hn' hb1).2) (h.heap n h' hn')
  · intro n h' hn
    by_cases e : n = k'
    · subst e; exact uset_same _ _
    · exact uset_of (h.used n h' (hback e hn).2)
  · intro n h' b1 hn hb1
    by_cases e : n = k'
    · subst e
      rw [rset_same, hv] at hb1
      injection hb1 with hb1
      subst hb1
      have := h.fresh k h0 b hk hbk
      exact ⟨this.1, Nat.lt_of_lt_of_le this.2 hb.size⟩
    · rw [rset_other _ _ e] at hb1
      have := h.fresh n h' b1 (hback e hn).2 hb1
      exact ⟨this.1, Nat.lt_of_lt_of_le this.2 hb.size⟩
  · intro n n' h1 h2 b1 hnn hn hn' hb1 hb2
    by_cases e : n = k'
    · subst e
      have e' : n' ≠ n := fun x => hnn x.symm
      rw [rset_same, hv] at hb1
      rw [rset_other _ _ e'] at hb2
      injection hb1 with hb1
      subst hb1
      obtain ⟨e2, hn2⟩ := hback e' hn'
      exact h.apart k n' h0 h2 b (fun x => e2 x.symm) hk hn2 hbk hb2
    · rw [rset_other _ _ e] at hb1
      obtain ⟨e2, hn1⟩ := hback e hn
      by_cases e' : n' = k'
      · subst e'
        rw [rset_same, hv] at hb2
        injection hb2 with hb2
        subst hb2
        exact h.apart k n h0 h1 b (fun x => e2 x.symm) hk hn1 hbk hb1
      · rw [rset_other _ _ e'] at hb2
        exact h.apart n n' h1 h2 b1 hnn hn1 (hback e' hn').2 hb1 hb2
/-- A name is taken, for a value that lies anywhere: nothing of our own goes by it. -/
theorem use_le {k : Nat} {v : Value} (hk : s.us k = false) (hu : ∀ n he, s.hp n = some he → s.us n = true) : (cx w0 ρ s w).le (cx w0 (rset ρ k v) { s with us := uset s.us k } w) := by
  have hne : ∀ {n}, s.us n = true → n ≠ k := fun hn e => by rw [e, hk] at hn; cases hn
  refine ⟨fun n hn => uset_of hn, fun n hn => rset_other ρ v (hne hn), fun b hS => ⟨⟨hS.1, fun n h' hn => ?_, hS.2.2⟩, rfl⟩⟩
  rw [rset_other _ _ (hne (hu n h' hn))]
  exact hS.2.1 n h' hn
theorem Ok.use (h : Ok w0 ρ s a w) {k : Nat} {v : Value} (hk : s.us k = false) : Ok w0 (rset ρ k v) { s with us := uset s.us k } a w := by
  have hne : ∀ {n h'}, s.hp n = some h' → n ≠ k := fun {n h'} hn e => by have := h.used n h' hn; rw [e, hk] at this; cases this
  have hle := use_le (w0 := w0) (ρ := ρ) (w := w) (v := v) hk h.used
  refine h.move rfl rfl hle (Below.refl _ _) (fun n h' hn => HEc.mono hle (h.used n h' hn) (fun _ _ => rfl) (h.heap n h' hn)) (fun n h' hn => uset_of (h.used n h' hn)) (fun n h' b hn hb => ?_) (fun n n' h1 h2 b hnn hn hn' hb => ?_)
  · rw [rset_other _ _ (hne hn)] at hb; exact h.fresh n h' b hn hb
  · rw [rset_other _ _ (hne hn)] at hb; rw [rset_other _ _ (hne hn')]; exact h.apart n n' h1 h2 b hnn hn hn' hb
/-- A name's memory goes over to another name that was taken for it. -/
theorem root_le {k k' : Nat} {he h0 : HE} (hk : s.hp k = some h0) (hb : blkOf (ρ k') = none ∨ blkOf (ρ k') = blkOf (ρ k)) : (cx w0 ρ s w).le (cx w0 ρ ((s.drop k).upd k' he) w) := by
  refine ⟨fun n hn => hn, fun n hn => rfl, fun b hS => ⟨⟨hS.1, fun n h' hn => ?_, hS.2.2⟩, rfl⟩⟩
  by_cases e : n = k'
  · subst e
    rcases hb with hb | hb
    · rw [hb]; simp
    · rw [hb]; exact hS.2.1 k h0 hk
  · have h1 : ((s.drop k).upd k' he).hp n = (s.drop k).hp n := hset_other _ _ e
    rw [h1] at hn
    by_cases e2 : n = k
    · subst e2; rw [show (s.drop n).hp n = none from hset_same _ _ _] at hn; cases hn
    · exact hS.2.1 n h' (by rw [← hset_other s.hp none e2]; exact hn)
theorem Ok.root (h : Ok w0 ρ s a w) {k k' : Nat} {he h0 : HE} (hk : s.hp k = some h0) (hk' : s.hp k' = none) (hu : s.us k' = true) (hb : blkOf (ρ k') = none ∨ blkOf (ρ k') = blkOf (ρ k))
    (hhe : ∀ c' : Cx, (cx w0 ρ s w).le c' → c'.w = w → c'.ρ = ρ → HEc c' k' he) : Ok w0 ρ ((s.drop k).upd k' he) a w := by
  have hle := root_le (w0 := w0) (w := w) (he := he) hk hb
  have hback : ∀ {n h'}, n ≠ k' → ((s.drop k).upd k' he).hp n = some h' → n ≠ k ∧ s.hp n = some h' := fun {n h'} e hn => by
    have h1 : ((s.drop k).upd k' he).hp n = (s.drop k).hp n := hset_other _ _ e
    rw [h1] at hn
    by_cases e2 : n = k
    · subst e2; rw [show (s.drop n).hp n = none from hset_same _ _ _] at hn; cases hn
    · exact ⟨e2, by rw [← hset_other s.hp none e2]; exact hn⟩
  have hsome : ∀ {b}, blkOf (ρ k') = some b → blkOf (ρ k) = some b := fun {b} e => by
    rcases hb with hb | hb
    · rw [hb] at e; cases e
    · rw [← hb]; exact e
  refine h.move rfl rfl hle (Below.refl _ _) ?_ ?_ ?_ ?_
  · intro n h' hn
    by_cases e : n = k'
    · subst e
      have : h' = he := by have := hn; rw [show ((s.drop k).upd n he).hp n = some he from hset_same _ _ _] at this; injection this with this; exact this.symm
      subst this
      exact hhe _ hle rfl rfl
    · obtain ⟨_, hn'⟩ := hback e hn
      exact HEc.mono hle (h.used n h' hn') (fun _ _ => rfl) (h.heap n h' hn')
  · intro n h' hn
    by_cases e : n = k'
    · subst e; exact hu
    · exact h.used n h' (hback e hn).2
  · intro n h' b hn hb1
    by_cases e : n = k'
    · subst e; exact h.fresh k h0 b hk (hsome hb1)
    · exact h.fresh n h' b (hback e hn).2 hb1
  · intro n n' h1 h2 b hnn hn hn' hb1 hb2
    by_cases e : n = k'
    · subst e
      obtain ⟨e2, hn2⟩ := hback (fun x => hnn x.symm) hn'
      exact h.apart k n' h0 h2 b (fun x => e2 x.symm) hk hn2 (hsome hb1) hb2
    · obtain ⟨e2, hn1⟩ := hback e hn
      by_cases e' : n' = k'
      · subst e'
        exact h.apart k n h0 h1 b (fun x => e2 x.symm) hk hn1 (hsome hb2) hb1
      · exact h.apart n n' h1 h2 b hnn hn1 (hback e' hn').2 hb1 hb2
end
end Go.Sx
