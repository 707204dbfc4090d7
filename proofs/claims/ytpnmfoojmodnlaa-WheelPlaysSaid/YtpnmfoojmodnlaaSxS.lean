/-
  Sx, part S: what one operation looks at, and what it changes.
-/
import Derived.Test.YtpnmfoojmodnlaaSxC
set_option linter.unusedSimpArgs false
namespace Go.Sx

def PV.names : PV → List Nat
  | .row k => [k]
  | .ptr k _ => [k]
  | .pel k _ _ _ _ _ => [k]
  | .rel k _ _ _ => [k]
  | .rea k _ _ _ _ _ _ _ => [k]
  | .pea k _ _ _ _ _ _ _ _ _ => [k]
  | .clo k => [k]
  | .sub k k' _ _ _ => [k, k']
  | .bsl k _ _ _ => [k]
  | .itr k _ => [k]
  | .opt p _ _ => [poolN p]
  | .oel p _ _ _ _ _ _ => [poolN p]
  | .orp k _ h => (match h with
    | none => [k]
    | some (_, k') => [k, k'])
  | _ => []
def psNames : List PV → List Nat
  | [] => []
  | p :: ps => p.names ++ psNames ps
def tupNames : List (Bool × List PV) → List Nat
  | [] => []
  | e :: es => psNames e.2 ++ tupNames es
def SV.names : SV → List Nat
  | .one p => p.names
  | .agg ps => psNames ps
  | .tup es => tupNames es
  | .cnd _ p => p.names

/-- A change of names, one after the other. -/
def apH : List (Nat × Option HE) → (Nat → Option HE) → (Nat → Option HE)
  | [], hp => hp
  | (k, h) :: r, hp => apH r (hset hp k h)
def apU : List Nat → (Nat → Bool) → (Nat → Bool)
  | [], us => us
  | k :: r, us => apU r (uset us k)
def ap (d : Option Nat) (v : SV) (hs : List (Nat × Option HE)) (un : List Nat) (s : St) : St :=
  ({ s with hp := apH hs s.hp, us := apU un s.us } : St).put d v

/-- What an operation makes of s, it makes of s' too. -/
def Fr (s s' : St) (d : Option Nat) (W : List Nat) (r' : Res) (p : Option Prop) (u : St) : Prop :=
  ∃ v hs un, u = ap d v hs un s ∧ r' = some (p, ap d v hs un s') ∧ (∀ e ∈ hs, e.1 ∈ W) ∧ (∀ n ∈ un, n ∈ W)

theorem Fr.light {s s' : St} {d : Option Nat} {W : List Nat} {p : Option Prop} {v : SV} : Fr s s' d W (some (p, s'.put d v)) p (s.put d v) :=
  ⟨v, [], [], rfl, rfl, by simp, by simp⟩
theorem Fr.new {s s' : St} {d : Option Nat} {W : List Nat} {p : Option Prop} {v : SV} {k : Nat} {h : HE} (hk : k ∈ W) : Fr s s' d W (some (p, (s'.new k h).put d v)) p ((s.new k h).put d v) :=
  ⟨v, [(k, some h)], [k], rfl, rfl, by simpa using hk, by simpa using hk⟩
theorem Fr.renew {s s' : St} {d : Option Nat} {W : List Nat} {p : Option Prop} {v : SV} {j k : Nat} {h : HE} (hj : j ∈ W) (hk : k ∈ W) :
    Fr s s' d W (some (p, ((s'.drop j).new k h).put d v)) p (((s.drop j).new k h).put d v) :=
  ⟨v, [(j, none), (k, some h)], [k], rfl, rfl, by simp [hj, hk], by simpa using hk⟩
theorem Fr.upd {s s' : St} {d : Option Nat} {W : List Nat} {p : Option Prop} {v : SV} {k : Nat} {h : HE} (hk : k ∈ W) : Fr s s' d W (some (p, (s'.upd k h).put d v)) p ((s.upd k h).put d v) :=
  ⟨v, [(k, some h)], [], rfl, rfl, by simpa using hk, by simp⟩

section
variable {E : Env} {s s' : St} {dst : Option Nat} {k : Nat} {p : Option Prop} {u : St} {W : List Nat}

/-- The names that a load or a store through it looks at. -/
def adrNames : SV → List Nat
  | .one (.d (.ref p) _) => [poolN p]
  | v => v.names
theorem adr_sub {x : SV} {n : Nat} (h : n ∈ x.names) : n ∈ adrNames x := by
  unfold adrNames
  split
  · simp [SV.names, PV.names] at h
  · exact h
theorem locR_frame {x : SV} (hl : ∀ n ∈ adrNames x, s'.hp n = s.hp n) : locR s' x = locR s x := by
  unfold locR
  split
  · rw [hl _ (by simp [adrNames, SV.names, PV.names])]
  · rw [hl _ (by simp [adrNames])]
  · rw [hl _ (by simp [adrNames, SV.names, PV.names])]
  · rfl
theorem locS_frame {x : SV} (hl : ∀ n ∈ x.names, s'.hp n = s.hp n) : locS s' x = locS s x := by
  cases x with
  | one p => cases p <;> simp [SV.names, PV.names] at hl <;> simp [locS, hl]
  | _ => rfl
theorem slD_frame {x : SV} (hl : ∀ n ∈ x.names, s'.hp n = s.hp n) : slD s' x = slD s x := by
  cases x with
  | one p => cases p with
    | d t x => cases t <;> rfl
    | row k => simp [SV.names, PV.names] at hl; simp [slD, hl]
    | sub k k' sz a b => simp [SV.names, PV.names] at hl; simp [slD, hl.1]
    | bsl k off n sz => simp [SV.names, PV.names] at hl; simp [slD, hl]
    | _ => rfl
  | _ => rfl

theorem loadS_frame {t : TypeId} {x : SV} (hl : ∀ n ∈ adrNames x, s'.hp n = s.hp n) (h : loadS E s dst t x = some (p, u)) : Fr s s' dst W (loadS E s' dst t x) p u := by
  unfold loadS at h ⊢
  rw [locS_frame (fun n hn => hl n (adr_sub hn)), locR_frame hl]
  repeat' (split at h)
  all_goals (cases h <;> (try simp only [*]) <;> exact Fr.light)

theorem storeR_frame {x : SV} {n : Nat} {qs : List PV} (hl : ∀ n ∈ adrNames x, s'.hp n = s.hp n ∧ n ∈ W) (h : storeR s n qs x = some (p, u)) :
    ∃ hs, u = { s with hp := apH hs s.hp } ∧ storeR s' n qs x = some (p, { s' with hp := apH hs s'.hp }) ∧ ∀ e ∈ hs, e.1 ∈ W := by
  unfold storeR at h ⊢
  split at h
  · rename_i q a off
    have hk := hl (poolN q) (by simp [adrNames, SV.names, PV.names])
    try dsimp only at h ⊢
    rw [hk.1]
    repeat' (split at h)
    all_goals (cases h <;> (try simp only [*]) <;> exact ⟨[(poolN q, some _)], rfl, rfl, by simpa using hk.2⟩)
  · rename_i q a
    have hk := hl (poolN q) (by simp [adrNames])
    try dsimp only at h ⊢
    rw [hk.1]
    repeat' (split at h)
    all_goals (cases h <;> (try simp only [*]) <;> exact ⟨[(poolN q, some _)], rfl, rfl, by simpa using hk.2⟩)
  · rename_i q a off k sz i j
    have hk := hl (poolN q) (by simp [adrNames, SV.names, PV.names])
    try dsimp only at h ⊢
    rw [hk.1]
    repeat' (split at h)
    all_goals (cases h <;> (try simp only [*]) <;> exact ⟨[(poolN q, some _)], rfl, rfl, by simpa using hk.2⟩)
  · cases h
theorem storeS_frame {t : TypeId} {x y : SV} (hla : ∀ n ∈ adrNames x, s'.hp n = s.hp n ∧ n ∈ W) (h : storeS E s t x y = some (p, u)) :
    ∃ hs, u = { s with hp := apH hs s.hp } ∧ storeS E s' t x y = some (p, { s' with hp := apH hs s'.hp }) ∧ ∀ e ∈ hs, e.1 ∈ W := by
  have hl : ∀ n ∈ x.names, s'.hp n = s.hp n ∧ n ∈ W := fun n hn => hla n (adr_sub hn)
  unfold storeS at h ⊢
  split at h
  · cases x with
    | one q => cases q with
      | ptr k off =>
        have hk := hl k (by simp [SV.names, PV.names])
        dsimp only at h ⊢
        rw [hk.1]
        repeat' (split at h)
        all_goals (cases h <;> (try simp only [*]) <;> exact ⟨[(k, some _)], rfl, rfl, by simpa using hk.2⟩)
      | pel k off n sz i j =>
        have hk := hl k (by simp [SV.names, PV.names])
        dsimp only at h ⊢
        rw [hk.1]
        repeat' (split at h)
        all_goals (cases h <;> (try simp only [*]) <;> exact ⟨[(k, some _)], rfl, rfl, by simpa using hk.2⟩)
      | rel k sz i j =>
        have hk := hl k (by simp [SV.names, PV.names])
        dsimp only at h ⊢
        rw [hk.1]
        split at h
        · rename_i u' xs hx
          cases hb : Nat.beq u'.size sz with
          | false => rw [hb] at h; cases h
          | true =>
            rw [hb] at h
            simp only [cond_true] at h
            repeat' (split at h)
            all_goals (cases h <;> (try simp only [*]) <;> exact ⟨[(k, some _)], rfl, rfl, by simpa using hk.2⟩)
        · cases h
      | rea k sz i j n' sz' i' j' =>
        have hk := hl k (by simp [SV.names, PV.names])
        dsimp only at h ⊢
        rw [hk.1]
        split at h
        · rename_i u' xs hx
          cases hb : Nat.beq u'.size sz with
          | false => rw [hb] at h; cases h
          | true =>
            rw [hb] at h
            simp only [cond_true] at h
            repeat' (split at h)
            all_goals (cases h <;> (try simp only [*]) <;> exact ⟨[(k, some _)], rfl, rfl, by simpa using hk.2⟩)
        · cases h
      | pea k off n sz i j n' sz' i' j' =>
        have hk := hl k (by simp [SV.names, PV.names])
        dsimp only at h ⊢
        rw [hk.1]
        repeat' (split at h)
        all_goals (cases h <;> (try simp only [*]) <;> exact ⟨[(k, some _)], rfl, rfl, by simpa using hk.2⟩)
      | d t y => exact storeR_frame hla h
      | opt q a off => exact storeR_frame hla h
      | oel q a off n sz i j => exact storeR_frame hla h
      | _ => cases h
    | _ => cases h
  · cases h

theorem fieldAddrS_frame {t : TypeId} {x : SV} {i : Nat} (h : fieldAddrS E s dst t x i = some (p, u)) : Fr s s' dst W (fieldAddrS E s' dst t x i) p u := by
  unfold fieldAddrS at h ⊢
  split at h
  · rename_i fo fi hf
    cases hb : Nat.beq fi.size 0 with
    | true => rw [hb] at h; cases h
    | false =>
      rw [hb] at h
      simp only [cond_false] at h ⊢
      repeat' (split at h)
      all_goals (cases h <;> (try simp only [*]) <;> exact Fr.light)
  · cases h
theorem fieldS_frame {t : TypeId} {x : SV} {i : Nat} (h : fieldS E s dst t x i = some (p, u)) : Fr s s' dst W (fieldS E s' dst t x i) p u := by
  unfold fieldS at h ⊢
  split at h
  · rename_i fo fi ps hf hp
    cases hb : x.isAgg with
    | false => rw [hb] at h; cases h
    | true =>
      rw [hb] at h
      simp only [Bool.not_true, cond_false] at h
      repeat' (split at h)
      all_goals (cases h <;> (try simp only [*, Bool.not_true, cond_false]) <;> exact Fr.light)
  · cases h

theorem indexAddrS_frame {t : TypeId} {x ix : SV} {lit : Bool} (hl : ∀ j, x = .one (.row j) → s'.hp j = s.hp j) (h : indexAddrS E lit s dst t x ix = some (p, u)) : Fr s s' dst W (indexAddrS E lit s' dst t x ix) p u := by
  unfold indexAddrS at h ⊢
  split at h
  · cases lit <;> simp only [cond_true, cond_false] at h ⊢ <;> repeat' (split at h)
    all_goals (cases h <;> (try simp only [*]) <;> exact Fr.light)
  · split at h
    · rename_i ei k he
      have hk := hl k rfl
      split at h
      · rename_i uu xs hx
        cases hb : Nat.beq uu.size ei.size with
        | false => rw [hb] at h; cases h
        | true =>
          rw [hb] at h
          simp only [cond_true] at h
          cases h
          simp only [*, cond_true]
          exact Fr.light
      · cases h
    · rename_i ei uu xs he
      cases hb : Nat.beq uu.size ei.size with
      | false => rw [hb] at h; cases h
      | true =>
        rw [hb] at h
        simp only [cond_true] at h
        cases h
        simp only [*, cond_true]
        exact Fr.light
    · rename_i ei kk kk' sz a b he
      cases hb : Nat.beq sz ei.size with
      | false => rw [hb] at h; cases h
      | true =>
        rw [hb] at h
        simp only [cond_true] at h
        cases h
        simp only [*, cond_true]
        exact Fr.light
    · rename_i ei kk off n sz he
      cases hb : Nat.beq sz ei.size with
      | false => rw [hb] at h; cases h
      | true =>
        rw [hb] at h
        simp only [cond_true] at h
        cases h
        simp only [*, cond_true]
        exact Fr.light
    · cases h
  · cases h
theorem indexS_frame {t : TypeId} {x ix : SV} (h : indexS E s dst t x ix = some (p, u)) : Fr s s' dst W (indexS E s' dst t x ix) p u := by
  unfold indexS at h ⊢
  revert h
  cases asStr? x with
  | some l =>
    simp only []
    cases isStrT E t with
    | false => intro h; cases h
    | true =>
      simp only [cond_true]
      intro h
      split at h
      · cases h; (try simp only [*]); exact Fr.light
      · cases h
  | none =>
  simp only []
  intro h
  split at h
  · split at h
    · try simp only [*]
      generalize (x.isAgg && _ && _) = b at h ⊢
      cases b with
      | false => cases h
      | true =>
        simp only [cond_true] at h
        repeat' (split at h)
        all_goals (cases h <;> (try simp only [*, cond_true]) <;> exact Fr.light)
    · cases h
  · cases h
theorem lenS_frame {t : TypeId} {x : SV} (hl : ∀ n ∈ x.names, s'.hp n = s.hp n) (h : lenS E s dst t x = some (p, u)) : Fr s s' dst W (lenS E s' dst t x) p u := by
  unfold lenS at h ⊢
  rw [slD_frame hl]
  revert h
  cases asStr? x with
  | some l =>
    simp only []
    cases isStrT E t with
    | false => intro h; cases h
    | true => intro h; cases h; exact Fr.light
  | none =>
  simp only []
  intro h
  cases hb : isSliceT E t with
  | false => rw [hb] at h; cases h
  | true =>
    rw [hb] at h
    simp only [Bool.not_true, cond_false] at h ⊢
    split at h
    · cases h; exact Fr.light
    · repeat' (split at h)
      all_goals (cases h <;> (try simp only [*]) <;> exact Fr.light)
theorem sliceS_frame {t : TypeId} {x : SV} {lo hi : Option SV} (hl : ∀ n ∈ x.names, s'.hp n = s.hp n ∧ n ∈ W) (hu : s'.us k = s.us k) (hkW : k ∈ W)
    (h : sliceS E s k dst t x lo hi = some (p, u)) : Fr s s' dst W (sliceS E s' k dst t x lo hi) p u := by
  unfold sliceS at h ⊢
  rw [slD_frame fun n hn => (hl n hn).1]
  revert h
  cases asStr? x with
  | some l =>
    simp only []
    cases isStrT E t with
    | false => intro h; cases h
    | true =>
      simp only [cond_true]
      intro h
      split at h
      · cases h; (try simp only [*]); exact Fr.light
      · cases h
  | none =>
  simp only []
  intro h
  split at h
  · rename_i tt xs hx
    cases hb : sliceOf E t tt with
    | false => rw [hb] at h; cases h
    | true =>
      rw [hb] at h
      simp only [Bool.not_true, cond_false] at h ⊢
      split at h
      · rename_i l hh hlo hhi
        simp only [*]
        split at h
        · rename_i j
          have hj := hl j (by simp [SV.names, PV.names])
          cases hus : s.us k with
          | true => rw [hus] at h; cases h
          | false =>
            rw [hus] at h
            simp only [cond_false] at h ⊢
            cases h
            exact Fr.renew hj.2 hkW
        · cases h; exact Fr.light
        · cases h
      · cases h
  · cases h
theorem sliceS_light {t : TypeId} {x : SV} {lo hi : Option SV} (hl : ∀ n ∈ x.names, s'.hp n = s.hp n) (hr : ¬ ∃ j, x = .one (.row j))
    (h : sliceS E s k dst t x lo hi = some (p, u)) : Fr s s' dst W (sliceS E s' k dst t x lo hi) p u := by
  unfold sliceS at h ⊢
  rw [slD_frame hl]
  revert h
  cases asStr? x with
  | some l =>
    simp only []
    cases isStrT E t with
    | false => intro h; cases h
    | true =>
      simp only [cond_true]
      intro h
      split at h
      · cases h; (try simp only [*]); exact Fr.light
      · cases h
  | none =>
  simp only []
  intro h
  split at h
  · rename_i tt xs hx
    cases hb : sliceOf E t tt with
    | false => rw [hb] at h; cases h
    | true =>
      rw [hb] at h
      simp only [Bool.not_true, cond_false] at h ⊢
      split at h
      · rename_i l hh hlo hhi
        try simp only [*]
        split at h
        · exact absurd ⟨_, rfl⟩ hr
        · cases h; exact Fr.light
        · cases h
      · cases h
  · cases h
theorem Fr.use {s s' : St} {d : Option Nat} {W : List Nat} {p : Option Prop} {v : SV} {k : Nat} (hk : k ∈ W) : Fr s s' d W (some (p, ({ s' with us := uset s'.us k } : St).put d v)) p (({ s with us := uset s.us k } : St).put d v) :=
  ⟨v, [], [k], rfl, rfl, by simp, by simpa using hk⟩
theorem subS_frame {t : TypeId} {x : SV} {lo hi : Option SV} (hl : ∀ n ∈ x.names, s'.hp n = s.hp n) (hu : s'.us k = s.us k) (hkW : k ∈ W)
    (h : subS E s k dst t x lo hi = some (p, u)) : Fr s s' dst W (subS E s' k dst t x lo hi) p u := by
  unfold subS at h ⊢
  split at h
  · rename_i j
    have hj := hl j (by simp [SV.names, PV.names])
    simp only [hj]
    split at h
    · rename_i tt xs hx
      rw [hu]
      cases hb : (!(sliceOf E t tt) || s.us k) with
      | true => rw [hb] at h; cases h
      | false =>
        rw [hb] at h
        simp only [cond_false] at h
        split at h
        · cases h
          simp only [*, cond_false]
          exact Fr.use hkW
        · cases h
    · cases h
  · cases h
theorem bslS_frame {t : TypeId} {x : SV} {lo hi : Option SV} (h : bslS E s dst t x lo hi = some (p, u)) : Fr s s' dst W (bslS E s' dst t x lo hi) p u := by
  unfold bslS at h ⊢
  repeat' (split at h)
  all_goals (cases h <;> (try simp only [*]) <;> exact Fr.light)
theorem makeMapS_frame {t : TypeId} (hu : s'.us k = s.us k) (hkW : k ∈ W) (h : makeMapS E s k dst t = some (p, u)) : Fr s s' dst W (makeMapS E s' k dst t) p u := by
  unfold makeMapS at h ⊢
  rw [hu]
  split at h
  · cases hb : s.us k with
    | true => rw [hb] at h; cases h
    | false =>
      rw [hb] at h
      simp only [cond_false] at h ⊢
      split at h
      all_goals (cases h <;> (try simp only [*]) <;> exact Fr.new hkW)
  · cases h
theorem insertS_frame {t : TypeId} {x ix v : SV} (hl : ∀ n ∈ x.names, s'.hp n = s.hp n ∧ n ∈ W) (h : insertS E s t x ix v = some (p, u)) :
    ∃ hs, u = { s with hp := apH hs s.hp } ∧ insertS E s' t x ix v = some (p, { s' with hp := apH hs s'.hp }) ∧ ∀ e ∈ hs, e.1 ∈ W := by
  unfold insertS at h ⊢
  split at h
  · rename_i kk ei kk' i j hm hi
    have hj := hl j (by simp [SV.names, PV.names])
    cases hk : decide (kk = kk') with
    | false => rw [hk] at h; cases h
    | true =>
      rw [hk] at h
      simp only [cond_true, hj.1] at h ⊢
      split at h
      · rename_i kk2 uu xs hx
        cases hg : (decide (kk2 = kk') && !uu.agg) with
        | false => rw [hg] at h; cases h
        | true =>
          rw [hg] at h
          simp only [cond_true] at h ⊢
          split at h
          · cases h
          · rename_i q hq
            cases hqa : q.agg with
            | true => rw [hqa] at h; cases h
            | false =>
              rw [hqa] at h
              simp only [cond_false] at h
              split at h
              · rename_i y hy
                cases h
                refine ⟨[(j, some (.map kk2 uu (mput uu xs i y)))], rfl, ?_, by simpa using hj.2⟩
                try simp only [hm, hi, hk, cond_true, hx, hg]
                cases q <;> first | exact absurd rfl (hq) | (simp only [hqa, cond_false, hy]; rfl)
              · cases h
          · cases h
      · split at h
        case h_2 => cases h
        rename_i hx0 _ kk2 xs hx
        cases hg : decide (kk2 = kk') with
        | false => rw [hg] at h; cases h
        | true =>
          rw [hg] at h
          simp only [cond_true] at h ⊢
          split at h
          · cases h
          · rename_i q hq
            cases hqa : q.agg with
            | true => rw [hqa] at h; cases h
            | false =>
              rw [hqa] at h
              simp only [cond_false] at h
              cases h
              refine ⟨[(j, some (.pmap kk2 (pput xs i q)))], rfl, ?_, by simpa using hj.2⟩
              try simp only [hm, hi, hk, cond_true, hx0, hx, hg]
              cases q <;> first | exact absurd rfl (hq) | (simp only [hqa, cond_false]; rfl)
          · cases h
  · cases h
theorem lookupS_frame {t : TypeId} {x ix : SV} {two : Bool} (hl : ∀ n ∈ x.names, s'.hp n = s.hp n) (h : lookupS E s dst t x ix two = some (p, u)) : Fr s s' dst W (lookupS E s' dst t x ix two) p u := by
  unfold lookupS at h ⊢
  split at h
  · rename_i kk ei kk' i j hm hi
    have hj := hl j (by simp [SV.names, PV.names])
    cases hk : decide (kk = kk') with
    | false => rw [hk] at h; cases h
    | true =>
      rw [hk] at h
      simp only [cond_true, hj] at h ⊢
      split at h
      · rename_i kk2 uu xs hx
        cases hg : (decide (kk2 = kk') && !uu.agg && tyO uu ei.ty) with
        | false => rw [hg] at h; cases h
        | true =>
          rw [hg] at h
          cases two <;> (simp only [cond_true, cond_false] at h; cases h; simp only [hm, hi, hk, hx, hg, cond_true, cond_false]; exact Fr.light)
      · cases h
  · rename_i kk ei kk' i kk2 uu xs hm hi
    cases hg : (decide (kk = kk') && (decide (kk2 = kk') && !uu.agg && tyO uu ei.ty)) with
    | false => rw [hg] at h; cases h
    | true =>
      rw [hg] at h
      cases two <;> (simp only [cond_true, cond_false] at h; cases h; simp only [hm, hi, hg, cond_true, cond_false]; exact Fr.light)
  · cases h
theorem deleteS_frame {t : TypeId} {x ix : SV} (hl : ∀ n ∈ x.names, s'.hp n = s.hp n ∧ n ∈ W) (h : deleteS E s dst t x ix = some (p, u)) : Fr s s' dst W (deleteS E s' dst t x ix) p u := by
  unfold deleteS at h ⊢
  split at h
  · rename_i kk ei kk' i j hm hi
    have hj := hl j (by simp [SV.names, PV.names])
    cases hk : decide (kk = kk') with
    | false => rw [hk] at h; cases h
    | true =>
      rw [hk] at h
      simp only [cond_true, hj.1] at h ⊢
      split at h
      · rename_i kk2 uu xs hx
        cases hg : decide (kk2 = kk') with
        | false => rw [hg] at h; cases h
        | true =>
          rw [hg] at h
          simp only [cond_true] at h
          cases h
          simp only [hm, hi, hk, hx, hg, cond_true]
          exact Fr.upd hj.2
      · cases h
  · cases h
theorem lenMapS_frame {t : TypeId} {x : SV} (hl : ∀ n ∈ x.names, s'.hp n = s.hp n) (h : lenMapS E s dst t x = some (p, u)) : Fr s s' dst W (lenMapS E s' dst t x) p u := by
  unfold lenMapS at h ⊢
  split at h
  · rename_i q j hm
    have hj := hl j (by simp [SV.names, PV.names])
    simp only [hj] at h ⊢
    split at h
    · rename_i hx
      cases h
      try simp only [hm, hx]
      exact Fr.light
    · cases h
  · cases h
theorem appendS_frame {t : TypeId} {x y : SV} (hl : ∀ n ∈ x.names, s'.hp n = s.hp n ∧ n ∈ W) (hy : ∀ n ∈ y.names, s'.hp n = s.hp n) (hu : s'.us k = s.us k) (hkW : k ∈ W)
    (h : appendS E s k dst t x y = some (p, u)) : Fr s s' dst W (appendS E s' k dst t x y) p u := by
  unfold appendS at h ⊢
  rw [slD_frame hy]
  split at h
  · split at h
    · rename_i e _ _ _ _ _ sz by_ _ _ uu he
      dsimp only at h ⊢
      rw [hu]
      cases hb : (!(Nat.beq uu.size sz && Nat.blt 0 sz) || s.us k) with
      | true => rw [hb] at h; cases h
      | false =>
        rw [hb] at h
        simp only [cond_false] at h
        simp only [*, cond_false]
        split at h
        · cases h
        · rename_i ys hys
          split at h
          · cases h
            exact Fr.new hkW
          · rename_i j
            have hj := hl j (by simp [SV.names, PV.names])
            rw [hj.1]
            split at h
            · split at h
              · cases h
                try simp only [*]
                exact Fr.renew hj.2 hkW
              · cases h
            · cases h
          · cases h
    · cases h
  · cases h
theorem buildS_frame {t : TypeId} {ps : List (Nat × SV)} (h : buildS E s dst t ps = some (p, u)) : Fr s s' dst W (buildS E s' dst t ps) p u := by
  unfold buildS at h ⊢
  split at h
  · rename_i fs z _ _
    cases hb : fs.all (fun f => (E.info f.2).isSome) with
    | false => rw [hb] at h; cases h
    | true =>
      rw [hb] at h
      simp only [Bool.not_true, cond_false] at h
      simp only [*, Bool.not_true, cond_false]
      repeat' (split at h)
      all_goals (cases h <;> (try simp only [*]) <;> exact Fr.light)
  · split at h
    · rename_i ei he
      cases hb : Nat.beq _ ei.size with
      | false => rw [hb] at h; cases h
      | true =>
        rw [hb] at h
        simp only [Bool.not_true, cond_false] at h
        simp only [*, Bool.not_true, cond_false]
        split at h
        · cases h; (try simp only [*]); exact Fr.light
        · cases h
    · cases h
  · cases h
theorem buildSliceS_frame {t : TypeId} {len : Nat} {ps : List (Nat × SV)} (hu : s'.us k = s.us k) (hkW : k ∈ W) (h : buildSliceS E s k dst t len ps = some (p, u)) :
    Fr s s' dst W (buildSliceS E s' k dst t len ps) p u := by
  unfold buildSliceS at h ⊢
  rw [hu]
  split at h
  · split at h
    · rename_i sz _ _ _ uu he
      cases hb : (!(Nat.beq uu.size sz && Nat.blt 0 sz && Nat.ble (len * sz) 65536) || s.us k) with
      | true => rw [hb] at h; cases h
      | false =>
        rw [hb] at h
        simp only [cond_false] at h
        simp only [*, cond_false]
        repeat' (split at h)
        all_goals (cases h <;> (try simp only [*]) <;> exact Fr.new hkW)
    · cases h
  · cases h
theorem buildSliceC_frame {t : TypeId} {len : Nat} {ps : List (Nat × SV)} (hl : ∀ i j, ps = [(i, .one (.row j))] → s'.hp j = s.hp j ∧ j ∈ W) (hu : s'.us k = s.us k) (hkW : k ∈ W) (h : buildSliceC E s k dst t len ps = some (p, u)) :
    Fr s s' dst W (buildSliceC E s' k dst t len ps) p u := by
  unfold buildSliceC at h ⊢
  split at h
  · rename_i i j
    obtain ⟨h1, h2⟩ := hl i j rfl
    rw [h1]
    split at h
    · rename_i v xs hj
      unfold buildSliceS at h ⊢
      have hu' : (s'.drop j).us k = (s.drop j).us k := hu
      rw [hu']
      split at h
      · split at h
        · rename_i sz _ _ _ uu he
          cases hb : (!(Nat.beq uu.size sz && Nat.blt 0 sz && Nat.ble (len * sz) 65536) || (s.drop j).us k) with
          | true => rw [hb] at h; cases h
          | false =>
            rw [hb] at h
            simp only [cond_false] at h
            simp only [*, cond_false]
            repeat' (split at h)
            all_goals (cases h <;> (try simp only [*]) <;> exact Fr.renew h2 hkW)
        · cases h
      · cases h
    · cases h
  · cases h
theorem makeS_frame {t : TypeId} {l c : SV} (hu : s'.us k = s.us k) (hkW : k ∈ W) (h : makeS E s k dst t l c = some (p, u)) : Fr s s' dst W (makeS E s' k dst t l c) p u := by
  unfold makeS at h ⊢
  rw [hu]
  split at h
  · split at h
    · rename_i sz by_ _ _ uu he
      cases hb : (!(Nat.beq uu.size sz && Nat.blt 0 sz) || s.us k) with
      | true => rw [hb] at h; cases h
      | false =>
        rw [hb] at h
        simp only [cond_false] at h
        simp only [*, cond_false]
        cases h
        exact Fr.new hkW
    · cases h
  · cases h
theorem unS_frame {op : UnOp} {x : SV} (h : unS s dst op x = some (p, u)) : Fr s s' dst W (unS s' dst op x) p u := by
  unfold unS at h ⊢
  split at h
  all_goals (cases h <;> (try simp only [*]) <;> exact Fr.light)
theorem minmax3S_frame {mx : Bool} {x y z : SV} (h : minmax3S s dst mx x y z = some (p, u)) : Fr s s' dst W (minmax3S s' dst mx x y z) p u := by
  unfold minmax3S at h ⊢
  split at h
  · split at h
    · rename_i hk
      rw [if_pos hk]
      cases h; exact Fr.light
    · cases h
  · cases h
theorem slice3S_frame {t : TypeId} {x : SV} {lo hi : Option SV} {m : SV} (h : slice3S E s dst t x lo hi m = some (p, u)) : Fr s s' dst W (slice3S E s' dst t x lo hi m) p u := by
  unfold slice3S at h ⊢
  split at h
  · rename_i tt xs
    cases hb : sliceOf E t tt with
    | false => rw [hb] at h; cases h
    | true =>
      rw [hb] at h
      simp only [Bool.not_true, cond_false] at h ⊢
      split at h
      · cases h; exact Fr.light
      · cases h
  · cases h
theorem sub2S_frame {t : TypeId} {x : SV} {lo hi : Option SV} (hl : ∀ n ∈ x.names, s'.hp n = s.hp n) (hu : s'.us k = s.us k) (hkW : k ∈ W)
    (h : sub2S E s k dst t x lo hi = some (p, u)) : Fr s s' dst W (sub2S E s' k dst t x lo hi) p u := by
  unfold sub2S at h ⊢
  split at h
  · rename_i j j' sz a b
    have hj := hl j (by simp [SV.names, PV.names])
    simp only [hj]
    split at h
    · rename_i tt xs hx
      rw [hu]
      cases hb : (!(sliceOf E t tt && Nat.beq tt.size sz && Nat.beq a 0) || s.us k) with
      | true => rw [hb] at h; cases h
      | false =>
        rw [hb] at h
        simp only [cond_false] at h
        simp only [hx, hb, cond_false]
        split at h
        · cases h; (try simp only [*]); exact Fr.use hkW
        · cases h
    · cases h
  · exact subS_frame hl hu hkW h
theorem Fr.upduse {s s' : St} {d : Option Nat} {W : List Nat} {p : Option Prop} {v : SV} {j k : Nat} {h : HE} (hj : j ∈ W) (hk : k ∈ W) :
    Fr s s' d W (some (p, ({ s'.upd j h with us := uset s'.us k } : St).put d v)) p (({ s.upd j h with us := uset s.us k } : St).put d v) :=
  ⟨v, [(j, some h)], [k], rfl, rfl, by simpa using hj, by simpa using hk⟩
theorem slice3R_frame {t : TypeId} {x : SV} {lo hi : Option SV} {m : SV} (hl : ∀ n ∈ x.names, s'.hp n = s.hp n) (h : slice3R E s dst t x lo hi m = some (p, u)) : Fr s s' dst W (slice3R E s' dst t x lo hi m) p u := by
  unfold slice3R at h ⊢
  split at h
  · rename_i j
    have hj := hl j (by simp [SV.names, PV.names])
    simp only [hj]
    split at h
    · rename_i tt xs hx
      cases hb : sliceOf E t tt with
      | false => rw [hb] at h; cases h
      | true =>
        rw [hb] at h
        try simp only [hx, hb]
        simp only [Bool.not_true, cond_false] at h ⊢
        split at h
        · cases h; (try simp only [*]); exact Fr.light
        · cases h
    · cases h
  · exact slice3S_frame h
theorem copyS_frame {t : TypeId} {x y : SV} (hl : ∀ n ∈ x.names, s'.hp n = s.hp n ∧ n ∈ W) (hy : ∀ n ∈ y.names, s'.hp n = s.hp n) (h : copyS E s dst t x y = some (p, u)) : Fr s s' dst W (copyS E s' dst t x y) p u := by
  unfold copyS at h ⊢
  rw [slD_frame hy]
  split at h
  · rename_i e _ _ hti
    split at h
    · rename_i sz _ _ _ uu he
      split at h
      · rename_i u' ys0 hyy
        split at h
        · rename_i ys hys
          cases hb : (!(Nat.beq uu.size sz && Nat.blt 0 sz)) with
          | true => rw [hb] at h; cases h
          | false =>
            rw [hb] at h
            simp only [cond_false] at h
            split at h
            · rename_i j
              have hj := hl j (by simp [SV.names, PV.names])
              split at h
              · rename_i u2 xs0 hx
                split at h
                · rename_i xs hxs
                  cases h
                  simp only [hti, he, hyy, hys, hb, cond_false, hj.1, hx, hxs]
                  exact Fr.upd hj.2
                · cases h
              · cases h
            · rename_i j j' sz' a b
              have hj := hl j (by simp [SV.names, PV.names])
              split at h
              · rename_i u2 xs0 hx
                split at h
                · rename_i xs hxs
                  cases hz : Nat.beq sz' sz with
                  | false => rw [hz] at h; cases h
                  | true =>
                    rw [hz] at h
                    cases h
                    simp only [hti, he, hyy, hys, hb, cond_false, hj.1, hx, hxs, hz, cond_true]
                    exact Fr.upd hj.2
                · cases h
              · cases h
            · cases h
        · cases h
      · cases h
    · cases h
  · cases h
theorem clearS_frame {t : TypeId} {x : SV} (hl : ∀ n ∈ x.names, s'.hp n = s.hp n ∧ n ∈ W) (h : clearS E s dst t x = some (p, u)) : Fr s s' dst W (clearS E s' dst t x) p u := by
  unfold clearS at h ⊢
  split at h
  · rename_i j j' sz a b
    have hj := hl j (by simp [SV.names, PV.names])
    simp only [hj.1]
    split at h
    · split at h
      · rename_i sz2 _ _ _ uu he
        split at h
        · rename_i u2 xs hx
          split at h
          · rename_i xs2 hc
            try simp only [hx, hc]
            cases hb : (!(Nat.beq uu.size sz2 && Nat.beq sz sz2)) with
            | true => rw [hb] at h; cases h
            | false =>
              rw [hb] at h
              simp only [cond_false] at h
              simp only [*, cond_false]
              cases h
              exact Fr.upd hj.2
          · cases h
        · cases h
      · cases h
    · cases h
  · cases h
theorem append2S_frame {t : TypeId} {x y : SV} (hl : ∀ n ∈ x.names, s'.hp n = s.hp n ∧ n ∈ W) (hy : ∀ n ∈ y.names, s'.hp n = s.hp n) (hu : s'.us k = s.us k) (hkW : k ∈ W)
    (h : append2S E s k dst t x y = some (p, u)) : Fr s s' dst W (append2S E s' k dst t x y) p u := by
  unfold append2S at h ⊢
  split at h
  · rename_i j j' sz a b
    have hj := hl j (by simp [SV.names, PV.names])
    simp only [hj.1]
    rw [slD_frame hy]
    split at h
    · split at h
      · rename_i sz2 _ _ _ uu he
        split at h
        · rename_i u1 ys u2 xs hyy hx
          split at h
          · rename_i ys2 xs2 hc1 hc2
            try simp only [hx, hyy, hc1, hc2]
            rw [hu]
            cases hb : (!(Nat.beq uu.size sz2 && Nat.beq sz sz2 && Nat.beq a 0) || s.us k) with
            | true => rw [hb] at h; cases h
            | false =>
              rw [hb] at h
              simp only [cond_false] at h
              simp only [*, cond_false]
              cases h
              exact Fr.upduse hj.2 hkW
          · cases h
        · cases h
      · cases h
    · cases h
  · exact appendS_frame hl hy hu hkW h
theorem minmaxS_frame {mx : Bool} {x y : SV} (h : minmaxS s dst mx x y = some (p, u)) : Fr s s' dst W (minmaxS s' dst mx x y) p u := by
  unfold minmaxS at h ⊢
  repeat' (split at h)
  all_goals (cases h <;> (try simp only [*]) <;> exact Fr.light)
theorem binS_frame {wr : Bool} {op : BinOp} {t : TypeId} {x y : SV} (h : binS E wr s dst op t x y = some (p, u)) : Fr s s' dst W (binS E wr s' dst op t x y) p u := by
  unfold binS at h ⊢
  split at h
  · repeat' (split at h)
    all_goals (cases h <;> (try simp only [*]) <;> exact Fr.light)
  · split at h
    · cases hb : isBoolT E t with
      | false => rw [hb] at h; cases h
      | true =>
        rw [hb] at h
        simp only [Bool.not_true, cond_false] at h
        repeat' (split at h)
        all_goals (cases h <;> (try simp only [*, Bool.not_true, cond_false]) <;> exact Fr.light)
    · repeat' (split at h)
      all_goals (cases h <;> (try simp only [*]) <;> exact Fr.light)
theorem convertS_frame {wr : Bool} {t t' : TypeId} {x : SV} (hl : ∀ n ∈ x.names, s'.hp n = s.hp n) (h : convertS E wr s dst t t' x = some (p, u)) : Fr s s' dst W (convertS E wr s' dst t t' x) p u := by
  unfold convertS at h ⊢
  rw [slD_frame hl]
  revert h
  cases asInt? x with
  | some q =>
    simp only []
    intro h
    split at h
    · (try simp only [*])
      cases wr <;> cases h <;> exact Fr.light
    · cases h
  | none =>
    simp only []
    cases asStr? x with
    | some l =>
      simp only []
      cases isStrT E t with
      | false => intro h; cases h
      | true =>
        cases isStrT E t' with
        | true => intro h; cases h; exact Fr.light
        | false =>
          cases isBytesT E t' with
          | false => intro h; cases h
          | true => intro h; cases h; exact Fr.light
    | none =>
      simp only []
      cases isBytesT E t && isStrT E t' with
      | false => intro h; cases h
      | true =>
        simp only [cond_true]
        intro h
        repeat' (split at h)
        all_goals (cases h <;> (try simp only [*]) <;> exact Fr.light)

/-- The operands that the executor looks at. -/
def optL : Option Operand → List Operand
  | none => []
  | some x => [x]
def opsOf : Op → List Operand
  | .move x => [x]
  | .assign x => [x]
  | .box _ x => [x]
  | .load _ x => [x]
  | .nilCheck x => [x]
  | .unOp _ _ x => [x]
  | .convert _ _ x => [x]
  | .fieldAddr _ x _ => [x]
  | .field _ x _ => [x]
  | .extract x _ => [x]
  | .pick c x y => [c, x, y]
  | .build _ ps => ps.toList.map (fun p => p.2)
  | .buildSlice _ _ ps => ps.toList.map (fun p => p.2)
  | .store _ x y => [x, y]
  | .binOp _ _ x y _ => [x, y]
  | .makeSlice _ x y => [x, y]
  | .insert _ x y z => [x, y, z]
  | .mapUpdate _ x y z => [x, y, z]
  | .lookup _ x y _ => [x, y]
  | .indexAddr _ x y => [x, y]
  | .index _ x y => [x, y]
  | .makeFunc _ _ caps => caps.toList
  | .slice _ x lo hi mx => x :: (optL lo ++ (optL hi ++ optL mx))
  | .call c => (match c.callee with
    | .value x => x :: c.args.toList
    | _ => c.args.toList)
  | _ => []
def namesOf (s : St) : List Operand → List Nat
  | [] => []
  | x :: r => (ev s x).names ++ namesOf s r
/-- The names that it looks at. -/
def opN (s : St) : Op → List Nat
  | .fieldAddr _ _ _ => []
  | .move _ => []
  | .assign _ => []
  | .nilCheck _ => []
  | .load _ x => adrNames (ev s x)
  | .store _ x y => adrNames (ev s x) ++ (ev s y).names
  | .indexAddr _ x _ => (match ev s x with
    | .one (.row j) => [j]
    | _ => [])
  | o => namesOf s (opsOf o)
def opF (s : St) (k : Nat) (o : Op) : List Nat := k :: opN s o
/-- The names that it changes. -/
def opW (lz : Bool) (s : St) (k : Nat) : Op → List Nat
  | .alloc _ => [k]
  | .box _ _ => [k]
  | .buildSlice _ _ ps => bif lz then k :: namesOf s (ps.toList.map (fun p => p.2)) else [k]
  | .makeSlice _ _ _ => [k]
  | .makeFunc _ _ _ => [k]
  | .store _ x _ => adrNames (ev s x)
  | .makeMap _ _ => [k]
  | .insert _ x _ _ => (ev s x).names
  | .mapUpdate _ x _ _ => (ev s x).names
  | .slice _ x _ _ _ => (match ev s x with
    | .one (.row j) => bif lz then [k] else [k, j]
    | .one (.sub _ _ _ _ _) => [k]
    | _ => [])
  | .call c => (match c.callee with
    | .builtin .delete => (match c.args.toList with
      | x :: _ => (ev s x).names
      | [] => [])
    | .builtin .clear => (match c.args.toList with
      | x :: _ => (ev s x).names
      | [] => [])
    | .builtin .copy => (match c.args.toList with
      | x :: _ => (ev s x).names
      | [] => [])
    | .builtin .append => (match c.args.toList with
      | x :: _ => k :: (ev s x).names
      | [] => [k])
    | .value _ => [k]
    | _ => [])
  | _ => []

theorem mem_namesOf {s : St} : ∀ {l : List Operand} {x : Operand} {n : Nat}, x ∈ l → n ∈ (ev s x).names → n ∈ namesOf s l
  | y :: l, x, n, hx, hn => by
    unfold namesOf
    rcases List.mem_cons.1 hx with e | hx
    · exact List.mem_append_left _ (e ▸ hn)
    · exact List.mem_append_right _ (mem_namesOf hx hn)

theorem opS_frame {wr : Nat → Bool} {o : Oper} (hev : ∀ x ∈ opsOf o.op, ev s' x = ev s x) (hn : ∀ n ∈ opF s k o.op, s'.hp n = s.hp n ∧ s'.us n = s.us n)
    (h : opS E wr s k o = some (p, u)) : Fr s s' o.dst (opW (wrO wr 3000000 o.dst) s k o.op) (opS E wr s' k o) p u := by
  have hk := hn k (by simp [opF])
  have hnm0 : ∀ op, o.op = op → opN s op = namesOf s (opsOf op) → ∀ x ∈ opsOf op, ∀ n ∈ (ev s x).names, s'.hp n = s.hp n := fun op e e2 x hx n hxn =>
    (hn n (by rw [opF, e, e2]; exact List.mem_cons_of_mem _ (mem_namesOf hx hxn))).1
  unfold opS at h ⊢
  cases ho : o.op with
  | move x =>
    rw [ho] at hev h
    simp only [hev x (by simp [opsOf])] at h ⊢
    cases h; exact Fr.light
  | assign x =>
    rw [ho] at hev h
    simp only [hev x (by simp [opsOf])] at h ⊢
    cases h; exact Fr.light
  | pick c x y =>
    rw [ho] at hev h
    simp only [hev x (by simp [opsOf]), hev y (by simp [opsOf]), hev c (by simp [opsOf])] at h ⊢
    unfold pickS at h ⊢
    repeat' (split at h)
    all_goals (cases h <;> (try simp only [*]) <;> exact Fr.light)
  | alloc e =>
    rw [ho] at h
    simp only [] at h ⊢
    rw [hk.2]
    split at h
    · cases hu : s.us k with
      | true => rw [hu] at h; cases h
      | false => rw [hu] at h; cases h; (try simp only [*]); exact Fr.new (by simp [opW])
    · cases h
  | box t x =>
    rw [ho] at hev h
    simp only [hev x (by simp [opsOf])] at h ⊢
    rw [hk.2]
    split at h
    · cases hu : s.us k with
      | true => rw [hu] at h; cases h
      | false => rw [hu] at h; cases h; (try simp only [*]); exact Fr.new (by simp [opW])
    · cases h
  | build t ps =>
    rw [ho] at hev h
    have e : ps.toList.map (fun p => (p.1, ev s' p.2)) = ps.toList.map (fun p => (p.1, ev s p.2)) := List.map_congr_left fun q hq => by
      rw [hev q.2 (by simpa [opsOf] using ⟨q.1, by simpa using hq⟩)]
    simp only [e] at h ⊢
    exact buildS_frame h
  | buildSlice t n ps =>
    rw [ho] at hev h
    have e : ps.toList.map (fun p => (p.1, ev s' p.2)) = ps.toList.map (fun p => (p.1, ev s p.2)) := List.map_congr_left fun q hq => by
      rw [hev q.2 (by simpa [opsOf] using ⟨q.1, by simpa using hq⟩)]
    simp only [e] at h ⊢
    cases hb : wrO wr 3000000 o.dst with
    | false =>
      rw [hb] at h
      exact buildSliceS_frame hk.2 (by simp [opW]) h
    | true =>
      rw [hb] at h
      simp only [cond_true] at h ⊢
      refine buildSliceC_frame (fun i j hj => ?_) hk.2 (by simp [opW]) h
      have hnm : j ∈ namesOf s (ps.toList.map (fun p => p.2)) := by
        have hm : (i, SV.one (.row j)) ∈ ps.toList.map (fun p => (p.1, ev s p.2)) := by rw [hj]; simp
        obtain ⟨q, hq, he⟩ := List.mem_map.1 hm
        have he2 : ev s q.2 = .one (.row j) := congrArg Prod.snd he
        exact mem_namesOf (x := q.2) (List.mem_map.2 ⟨q, hq, rfl⟩) (by rw [he2]; simp [SV.names, PV.names])
      exact ⟨(hn j (by rw [opF, ho]; exact List.mem_cons_of_mem _ hnm)).1, by simp [opW, hnm]⟩
  | load t x =>
    rw [ho] at hev h
    simp only [hev x (by simp [opsOf])] at h ⊢
    exact loadS_frame (fun n hnn => (hn n (by rw [opF, ho]; exact List.mem_cons_of_mem _ hnn)).1) h
  | store t x y =>
    rw [ho] at hev h
    simp only [hev x (by simp [opsOf]), hev y (by simp [opsOf])] at h ⊢
    split at h
    · rename_i q t' hq
      cases h
      obtain ⟨hs, e1, e2, e3⟩ := storeS_frame (s' := s') (W := adrNames (ev s x)) (fun n hnn => ⟨(hn n (by rw [opF, ho]; exact List.mem_cons_of_mem _ (List.mem_append_left _ hnn))).1, hnn⟩) hq
      rw [e2, e1]
      exact ⟨.one .any, hs, [], rfl, rfl, by simpa [opW] using e3, by simp⟩
    · cases h
  | nilCheck x =>
    rw [ho] at hev h
    simp only [hev x (by simp [opsOf])] at h ⊢
    split at h
    all_goals (cases h <;> (try simp only [*]) <;> exact Fr.light)
  | binOp op t x y sh =>
    rw [ho] at hev h
    simp only [hev x (by simp [opsOf]), hev y (by simp [opsOf])] at h ⊢
    split at h
    · cases h; (try simp only [*]); exact Fr.light
    · exact binS_frame h
  | unOp op t x =>
    rw [ho] at hev h
    simp only [hev x (by simp [opsOf])] at h ⊢
    exact unS_frame h
  | convert t t' x =>
    rw [ho] at hev h
    have hnm := hnm0 _ ho rfl
    simp only [hev x (by simp [opsOf])] at h ⊢
    exact convertS_frame (hnm x (by simp [opsOf])) h
  | makeFunc fn first caps =>
    rw [ho] at hev h
    have e : caps.toList.map (ev s') = caps.toList.map (ev s) := List.map_congr_left fun q hq => hev q (by simpa [opsOf] using hq)
    simp only [makeFuncS, e] at h ⊢
    rw [hk.2]
    split at h
    · split at h
      · cases hu : s.us k with
        | true => rw [hu] at h; cases h
        | false => rw [hu] at h; cases h; (try simp only [*]); exact Fr.new (by simp [opW])
      · cases h
    · cases h
  | makeSlice t l c =>
    rw [ho] at hev h
    simp only [hev l (by simp [opsOf]), hev c (by simp [opsOf])] at h ⊢
    exact makeS_frame hk.2 (by simp [opW]) h
  | makeMap t r =>
    rw [ho] at h
    simp only [] at h ⊢
    cases r with
    | some _ => cases h
    | none => exact makeMapS_frame hk.2 (by simp [opW]) h
  | insert t x y z =>
    rw [ho] at hev h
    have hnm := hnm0 _ ho rfl
    simp only [hev x (by simp [opsOf]), hev y (by simp [opsOf]), hev z (by simp [opsOf])] at h ⊢
    split at h
    · rename_i q s1 hs1
      cases h
      obtain ⟨hs, e1, e2, e3⟩ := insertS_frame (W := (ev s x).names) (fun n hnn => ⟨hnm x (by simp [opsOf]) n hnn, hnn⟩) hs1
      subst e1
      rw [e2]
      exact ⟨.one .any, hs, [], rfl, rfl, by simpa [opW] using e3, by simp⟩
    · cases h
  | mapUpdate t x y z =>
    rw [ho] at hev h
    have hnm := hnm0 _ ho rfl
    simp only [hev x (by simp [opsOf]), hev y (by simp [opsOf]), hev z (by simp [opsOf])] at h ⊢
    split at h
    · rename_i q s1 hs1
      cases h
      obtain ⟨hs, e1, e2, e3⟩ := insertS_frame (W := (ev s x).names) (fun n hnn => ⟨hnm x (by simp [opsOf]) n hnn, hnn⟩) hs1
      subst e1
      rw [e2]
      exact ⟨.one .any, hs, [], rfl, rfl, by simpa [opW] using e3, by simp⟩
    · cases h
  | lookup t x y two =>
    rw [ho] at hev h
    have hnm := hnm0 _ ho rfl
    simp only [hev x (by simp [opsOf]), hev y (by simp [opsOf])] at h ⊢
    exact lookupS_frame (hnm x (by simp [opsOf])) h
  | slice t x lo hi mx =>
    rw [ho] at hev h
    have hnm := hnm0 _ ho rfl
    have e1 : lo.map (ev s') = lo.map (ev s) := by cases lo with
      | none => rfl
      | some z => simp only [Option.map_some]; rw [hev z (by simp [opsOf, optL])]
    have e2 : hi.map (ev s') = hi.map (ev s) := by cases hi with
      | none => rfl
      | some z => simp only [Option.map_some]; rw [hev z (by simp [opsOf, optL])]
    simp only [hev x (by simp [opsOf]), e1, e2] at h ⊢
    have hx := hnm x (by simp [opsOf])
    cases mx with
    | some m =>
      simp only [hev m (by simp [opsOf, optL])] at h ⊢
      exact slice3R_frame hx h
    | none =>
      simp only [opW]
      cases hA : isArrT E t with
      | true => simp only [hA, cond_true] at h ⊢; exact bslS_frame h
      | false =>
      simp only [hA, cond_false] at h ⊢
      cases hz : wrO wr 3000000 o.dst with
      | true =>
        simp only [hz, cond_true] at h ⊢
        have hr : (∃ j, ev s x = .one (.row j)) ∨ ∃ j j' z a b, ev s x = .one (.sub j j' z a b) := by
          unfold sub2S at h
          split at h
          · rename_i j j' z a b hj; exact .inr ⟨j, j', z, a, b, hj⟩
          · unfold subS at h
            split at h
            · rename_i j hj; exact .inl ⟨j, hj⟩
            · cases h
        rcases hr with ⟨j, hj⟩ | ⟨j, j', z, a, b, hj⟩
        · simp only [hj] at h hx ⊢
          exact sub2S_frame hx hk.2 (by simp) h
        · simp only [hj] at h hx ⊢
          exact sub2S_frame hx hk.2 (by simp) h
      | false =>
      simp only [hz, cond_false] at h ⊢
      by_cases hr : ∃ j, ev s x = .one (.row j)
      · obtain ⟨j, hj⟩ := hr
        simp only [hj] at h hx ⊢
        exact sliceS_frame (fun n hnn => ⟨hx n hnn, by simp [SV.names, PV.names] at hnn; simp [hnn]⟩) hk.2 (by simp) h
      · exact sliceS_light hx hr h
  | fieldAddr t x i =>
    rw [ho] at hev h
    simp only [hev x (by simp [opsOf])] at h ⊢
    exact fieldAddrS_frame h
  | field t x i =>
    rw [ho] at hev h
    simp only [hev x (by simp [opsOf])] at h ⊢
    exact fieldS_frame h
  | indexAddr t x i =>
    have hnr : ∀ j, ev s x = .one (.row j) → s'.hp j = s.hp j := fun j e => (hn j (by rw [opF, ho]; simp only [opN, e]; simp)).1
    rw [ho] at hev h
    simp only [hev x (by simp [opsOf]), hev i (by simp [opsOf])] at h ⊢
    exact indexAddrS_frame hnr h
  | index t x i =>
    rw [ho] at hev h
    simp only [hev x (by simp [opsOf]), hev i (by simp [opsOf])] at h ⊢
    exact indexS_frame h
  | extract x i =>
    rw [ho] at hev h
    simp only [hev x (by simp [opsOf])] at h ⊢
    split at h
    · split at h
      · cases h; (try simp only [*]); exact Fr.light
      · rename_i es _ q hq
        (try simp only [*])
        cases hg : q.agg with
        | true => rw [hg] at h; cases h
        | false => rw [hg] at h; cases h; exact Fr.light
      · cases h
    · cases h
  | call c =>
    rw [ho] at hev h
    have hnm := hnm0 _ ho rfl
    simp only [] at h ⊢
    unfold builtS at h ⊢
    split at h
    · rename_i b hc
      simp only [opsOf, hc] at hev hnm
      simp only [opW, hc]
      generalize c.args.toList = as at h hev hnm
      generalize c.argTypes.toList = ts at h
      split at h
      · rename_i x t
        simp only [hev x (by simp)] at h ⊢
        split at h
        · rename_i q hq
          try simp only [hq]
          exact lenMapS_frame (hnm x (by simp)) h
        · rename_i hq
          try simp only [hq]
          exact lenS_frame (hnm x (by simp)) h
      · rename_i x y t t'
        simp only [hev x (by simp), hev y (by simp)] at h ⊢
        exact deleteS_frame (fun n hnn => ⟨hnm x (by simp) n hnn, hnn⟩) h
      · rename_i x y t t'
        simp only [hev x (by simp), hev y (by simp)] at h ⊢
        cases ht : Nat.beq t t' with
        | false => rw [ht] at h; cases h
        | true =>
          rw [ht] at h
          simp only [cond_true] at h ⊢
          exact append2S_frame (fun n hnn => ⟨hnm x (by simp) n hnn, by simp [hnn]⟩) (hnm y (by simp)) hk.2 (by simp) h
      · rename_i x t
        simp only [hev x (by simp)] at h ⊢
        exact clearS_frame (fun n hnn => ⟨hnm x (by simp) n hnn, hnn⟩) h
      · rename_i x y t t'
        simp only [hev x (by simp), hev y (by simp)] at h ⊢
        exact copyS_frame (fun n hnn => ⟨hnm x (by simp) n hnn, hnn⟩) (hnm y (by simp)) h
      · rename_i x y
        simp only [hev x (by simp), hev y (by simp)] at h ⊢
        exact minmaxS_frame h
      · rename_i x y
        simp only [hev x (by simp), hev y (by simp)] at h ⊢
        exact minmaxS_frame h
      · rename_i x y z
        simp only [hev x (by simp), hev y (by simp), hev z (by simp)] at h ⊢
        exact minmax3S_frame h
      · rename_i x y z
        simp only [hev x (by simp), hev y (by simp), hev z (by simp)] at h ⊢
        exact minmax3S_frame h
      · cases h
    · cases h
  | _ => rw [ho] at h; cases h
end
end Go.Sx
