/-
 Sx: a verified executor over the loaded code, part 3 of 4.
-/
import Derived.Test.YtlnlichdidobpaaGreatDoorSxP2
import Derived.Laws.Cover3
import Derived.Deep.LoopGhost
import Derived.Orders
/-
 Sx, part S: what one operation looks at, and what it changes.
-/
set_option linter.unusedSimpArgs false
namespace Go.Sx

def PV.names : PV → List Nat
 | .row k => [k]
 | .ptr k _ => [k]
 | .pV k _ _ _ _ _ => [k]
 | .rel k _ _ _ => [k]
 | .wG k _ _ _ _ _ _ _ => [k]
 | .jP k => [k]
 | .sub k k' _ _ _ => [k, k']
 | .tu k _ _ _ => [k]
 | _ => []
def cf : List PV → List Nat
 | [] => []
 | p :: ps => p.names ++ cf ps
def AP : List (Bool × List PV) → List Nat
 | [] => []
 | e :: es => cf e.2 ++ AP es
def SV.names : SV → List Nat
 | .one p => p.names
 | .agg ps => cf ps
 | .gB es => AP es
 | .lT _ p => p.names

def C9 : List (Nat × Option HE) → (Nat → Option HE) → (Nat → Option HE)
 | [], hp => hp
 | (k, h) :: r, hp => C9 r (fK hp k h)
def SX : List Nat → (Nat → Bool) → (Nat → Bool)
 | [], us => us
 | k :: r, us => SX r (uset us k)
def ap (d : Option Nat) (v : SV) (hs : List (Nat × Option HE)) (un : List Nat) (s : St) : St :=
 ({ s with hp := C9 hs s.hp, us := SX un s.us } : St).put d v

def Fr (s s' : St) (d : Option Nat) (W : List Nat) (r' : mM) (p : Option Prop) (u : St) : Prop :=
 ∃ v hs un, u = ap d v hs un s ∧ r' = some (p, ap d v hs un s') ∧ (∀ e ∈ hs, e.1 ∈ W) ∧ (∀ n ∈ un, n ∈ W)

theorem Fr.bE {s s' : St} {d : Option Nat} {W : List Nat} {p : Option Prop} {v : SV} : Fr s s' d W (some (p, s'.put d v)) p (s.put d v) :=
 ⟨v, [], [], rfl, rfl, by simp, by simp⟩
theorem Fr.new {s s' : St} {d : Option Nat} {W : List Nat} {p : Option Prop} {v : SV} {k : Nat} {h : HE} (hk : k ∈ W) : Fr s s' d W (some (p, (s'.new k h).put d v)) p ((s.new k h).put d v) :=
 ⟨v, [(k, some h)], [k], rfl, rfl, by simpa using hk, by simpa using hk⟩
theorem Fr.renew {s s' : St} {d : Option Nat} {W : List Nat} {p : Option Prop} {v : SV} {j k : Nat} {h : HE} (hj : j ∈ W) (hk : k ∈ W) :
  Fr s s' d W (some (p, ((s'.drop j).new k h).put d v)) p (((s.drop j).new k h).put d v) :=
 ⟨v, [(j, none), (k, some h)], [k], rfl, rfl, by simp [hj, hk], by simpa using hk⟩
theorem Fr.fY {s s' : St} {d : Option Nat} {W : List Nat} {p : Option Prop} {v : SV} {k : Nat} {h : HE} (hk : k ∈ W) : Fr s s' d W (some (p, (s'.fY k h).put d v)) p ((s.fY k h).put d v) :=
 ⟨v, [(k, some h)], [], rfl, rfl, by simpa using hk, by simp⟩

section
variable {E : Env} {s s' : St} {dst : Option Nat} {k : Nat} {p : Option Prop} {u : St} {W : List Nat}

theorem CY {x : SV} (hl : ∀ n ∈ x.names, s'.hp n = s.hp n) : B6 s' x = B6 s x := by
 cases x with
 | one p => cases p <;> simp [SV.names, PV.names] at hl <;> simp [B6, hl]
 | _ => rfl
theorem fS {x : SV} (hl : ∀ n ∈ x.names, s'.hp n = s.hp n) : uV s' x = uV s x := by
 cases x with
 | one p => cases p with
  | d t x => cases t <;> rfl
  | row k => simp [SV.names, PV.names] at hl; simp [uV, hl]
  | sub k k' sz a b => simp [SV.names, PV.names] at hl; simp [uV, hl.1]
  | tu k off n sz => simp [SV.names, PV.names] at hl; simp [uV, hl]
  | _ => rfl
 | _ => rfl

theorem AO {t : TypeId} {x : SV} (hl : ∀ n ∈ x.names, s'.hp n = s.hp n) (h : xR E s dst t x = some (p, u)) : Fr s s' dst W (xR E s' dst t x) p u := by
 unfold xR at h ⊢
 rw [CY hl]
 repeat' (split at h)
 all_goals (cases h <;> (try simp only [*]) <;> exact Fr.bE)

theorem yu {t : TypeId} {x y : SV} (hl : ∀ n ∈ x.names, s'.hp n = s.hp n ∧ n ∈ W) (h : rD E s t x y = some (p, u)) :
  ∃ hs, u = { s with hp := C9 hs s.hp } ∧ rD E s' t x y = some (p, { s' with hp := C9 hs s'.hp }) ∧ ∀ e ∈ hs, e.1 ∈ W := by
 unfold rD at h ⊢
 split at h
 ·cases x with
  | one q => cases q with
   | ptr k off =>
    have hk := hl k (by simp [SV.names, PV.names])
    dsimp only at h ⊢
    rw [hk.1]
    repeat' (split at h)
    all_goals (cases h <;> (try simp only [*]) <;> exact ⟨[(k, some _)], rfl, rfl, by simpa using hk.2⟩)
   | pV k off n sz i j =>
    have hk := hl k (by simp [SV.names, PV.names])
    dsimp only at h ⊢
    rw [hk.1]
    repeat' (split at h)
    all_goals (cases h <;> (try simp only [*]) <;> exact ⟨[(k, some _)], rfl, rfl, by simpa using hk.2⟩)
   | rel k sz i j =>
    have hk := hl k (by simp [SV.names, PV.names])
    dsimp only at h ⊢
    rw [hk.1]
    split at h
    ·rename_i u' xs hx
     cases hb : Nat.beq u'.size sz with
     | false => rw [hb] at h; cases h
     | true =>
      rw [hb] at h
      simp only [cond_true] at h
      repeat' (split at h)
      all_goals (cases h <;> (try simp only [*]) <;> exact ⟨[(k, some _)], rfl, rfl, by simpa using hk.2⟩)
    ·cases h
   | wG k sz i j n' sz' i' j' =>
    have hk := hl k (by simp [SV.names, PV.names])
    dsimp only at h ⊢
    rw [hk.1]
    split at h
    ·rename_i u' xs hx
     cases hb : Nat.beq u'.size sz with
     | false => rw [hb] at h; cases h
     | true =>
      rw [hb] at h
      simp only [cond_true] at h
      repeat' (split at h)
      all_goals (cases h <;> (try simp only [*]) <;> exact ⟨[(k, some _)], rfl, rfl, by simpa using hk.2⟩)
    ·cases h
   | _ => cases h
  | _ => cases h
 ·cases h

theorem r4 {t : TypeId} {x : SV} {i : Nat} (h : gK E s dst t x i = some (p, u)) : Fr s s' dst W (gK E s' dst t x i) p u := by
 unfold gK at h ⊢
 split at h
 ·rename_i fo fi hf
  cases hb : Nat.beq fi.size 0 with
  | true => rw [hb] at h; cases h
  | false =>
   rw [hb] at h
   simp only [cond_false] at h ⊢
   repeat' (split at h)
   all_goals (cases h <;> (try simp only [*]) <;> exact Fr.bE)
 ·cases h
theorem yi {t : TypeId} {x : SV} {i : Nat} (h : si E s dst t x i = some (p, u)) : Fr s s' dst W (si E s' dst t x i) p u := by
 unfold si at h ⊢
 split at h
 ·rename_i fo fi ps hf hp
  cases hb : x.isAgg with
  | false => rw [hb] at h; cases h
  | true =>
   rw [hb] at h
   simp only [Bool.not_true, cond_false] at h
   repeat' (split at h)
   all_goals (cases h <;> (try simp only [*, Bool.not_true, cond_false]) <;> exact Fr.bE)
 ·cases h

theorem sw {t : TypeId} {x ix : SV} {lit : Bool} (hl : ∀ j, x = .one (.row j) → s'.hp j = s.hp j) (h : gH E lit s dst t x ix = some (p, u)) : Fr s s' dst W (gH E lit s' dst t x ix) p u := by
 unfold gH at h ⊢
 split at h
 ·cases lit <;> simp only [cond_true, cond_false] at h ⊢ <;> repeat' (split at h)
  all_goals (cases h <;> (try simp only [*]) <;> exact Fr.bE)
 ·split at h
  ·rename_i ei k he
   have hk := hl k rfl
   split at h
   ·rename_i uu xs hx
    cases hb : Nat.beq uu.size ei.size with
    | false => rw [hb] at h; cases h
    | true =>
     rw [hb] at h
     simp only [cond_true] at h
     cases h
     simp only [*, cond_true]
     exact Fr.bE
   ·cases h
  ·rename_i ei uu xs he
   cases hb : Nat.beq uu.size ei.size with
   | false => rw [hb] at h; cases h
   | true =>
    rw [hb] at h
    simp only [cond_true] at h
    cases h
    simp only [*, cond_true]
    exact Fr.bE
  ·rename_i ei kk kk' sz a b he
   cases hb : Nat.beq sz ei.size with
   | false => rw [hb] at h; cases h
   | true =>
    rw [hb] at h
    simp only [cond_true] at h
    cases h
    simp only [*, cond_true]
    exact Fr.bE
  ·rename_i ei kk off n sz he
   cases hb : Nat.beq sz ei.size with
   | false => rw [hb] at h; cases h
   | true =>
    rw [hb] at h
    simp only [cond_true] at h
    cases h
    simp only [*, cond_true]
    exact Fr.bE
  ·cases h
 ·cases h
theorem yw {t : TypeId} {x ix : SV} (h : rV E s dst t x ix = some (p, u)) : Fr s s' dst W (rV E s' dst t x ix) p u := by
 unfold rV at h ⊢
 revert h
 cases asStr? x with
 | some l =>
  simp only []
  cases de E t with
  | false => intro h; cases h
  | true =>
   simp only [cond_true]
   intro h
   split at h
   ·cases h; (try simp only [*]); exact Fr.bE
   ·cases h
 | none =>
 simp only []
 intro h
 split at h
 ·split at h
  ·try simp only [*]
   generalize (x.isAgg && _ && _) = b at h ⊢
   cases b with
   | false => cases h
   | true =>
    simp only [cond_true] at h
    repeat' (split at h)
    all_goals (cases h <;> (try simp only [*, cond_true]) <;> exact Fr.bE)
  ·cases h
 ·cases h
theorem Df {t : TypeId} {x : SV} (hl : ∀ n ∈ x.names, s'.hp n = s.hp n) (h : Fm E s dst t x = some (p, u)) : Fr s s' dst W (Fm E s' dst t x) p u := by
 unfold Fm at h ⊢
 rw [fS hl]
 revert h
 cases asStr? x with
 | some l =>
  simp only []
  cases de E t with
  | false => intro h; cases h
  | true => intro h; cases h; exact Fr.bE
 | none =>
 simp only []
 intro h
 cases hb : jT E t with
 | false => rw [hb] at h; cases h
 | true =>
  rw [hb] at h
  simp only [Bool.not_true, cond_false] at h ⊢
  split at h
  ·cases h; exact Fr.bE
  ·repeat' (split at h)
   all_goals (cases h <;> (try simp only [*]) <;> exact Fr.bE)
theorem yV {t : TypeId} {x : SV} {lo hi : Option SV} (hl : ∀ n ∈ x.names, s'.hp n = s.hp n ∧ n ∈ W) (hu : s'.us k = s.us k) (hkW : k ∈ W)
  (h : mo E s k dst t x lo hi = some (p, u)) : Fr s s' dst W (mo E s' k dst t x lo hi) p u := by
 unfold mo at h ⊢
 rw [fS fun n hn => (hl n hn).1]
 revert h
 cases asStr? x with
 | some l =>
  simp only []
  cases de E t with
  | false => intro h; cases h
  | true =>
   simp only [cond_true]
   intro h
   split at h
   ·cases h; (try simp only [*]); exact Fr.bE
   ·cases h
 | none =>
 simp only []
 intro h
 split at h
 ·rename_i tt xs hx
  cases hb : cM E t tt with
  | false => rw [hb] at h; cases h
  | true =>
   rw [hb] at h
   simp only [Bool.not_true, cond_false] at h ⊢
   split at h
   ·rename_i l hh hlo hhi
    simp only [*]
    split at h
    ·rename_i j
     have hj := hl j (by simp [SV.names, PV.names])
     cases hus : s.us k with
     | true => rw [hus] at h; cases h
     | false =>
      rw [hus] at h
      simp only [cond_false] at h ⊢
      cases h
      exact Fr.renew hj.2 hkW
    ·cases h; exact Fr.bE
    ·cases h
   ·cases h
 ·cases h
theorem zJ {t : TypeId} {x : SV} {lo hi : Option SV} (hl : ∀ n ∈ x.names, s'.hp n = s.hp n) (hr : ¬ ∃ j, x = .one (.row j))
  (h : mo E s k dst t x lo hi = some (p, u)) : Fr s s' dst W (mo E s' k dst t x lo hi) p u := by
 unfold mo at h ⊢
 rw [fS hl]
 revert h
 cases asStr? x with
 | some l =>
  simp only []
  cases de E t with
  | false => intro h; cases h
  | true =>
   simp only [cond_true]
   intro h
   split at h
   ·cases h; (try simp only [*]); exact Fr.bE
   ·cases h
 | none =>
 simp only []
 intro h
 split at h
 ·rename_i tt xs hx
  cases hb : cM E t tt with
  | false => rw [hb] at h; cases h
  | true =>
   rw [hb] at h
   simp only [Bool.not_true, cond_false] at h ⊢
   split at h
   ·rename_i l hh hlo hhi
    try simp only [*]
    split at h
    ·exact absurd ⟨_, rfl⟩ hr
    ·cases h; exact Fr.bE
    ·cases h
   ·cases h
 ·cases h
theorem Fr.use {s s' : St} {d : Option Nat} {W : List Nat} {p : Option Prop} {v : SV} {k : Nat} (hk : k ∈ W) : Fr s s' d W (some (p, ({ s' with us := uset s'.us k } : St).put d v)) p (({ s with us := uset s.us k } : St).put d v) :=
 ⟨v, [], [k], rfl, rfl, by simp, by simpa using hk⟩
theorem BH {t : TypeId} {x : SV} {lo hi : Option SV} (hl : ∀ n ∈ x.names, s'.hp n = s.hp n) (hu : s'.us k = s.us k) (hkW : k ∈ W)
  (h : De E s k dst t x lo hi = some (p, u)) : Fr s s' dst W (De E s' k dst t x lo hi) p u := by
 unfold De at h ⊢
 split at h
 ·rename_i j
  have hj := hl j (by simp [SV.names, PV.names])
  simp only [hj]
  split at h
  ·rename_i tt xs hx
   rw [hu]
   cases hb : (!(cM E t tt) || s.us k) with
   | true => rw [hb] at h; cases h
   | false =>
    rw [hb] at h
    simp only [cond_false] at h
    split at h
    ·cases h
     simp only [*, cond_false]
     exact Fr.use hkW
    ·cases h
  ·cases h
 ·cases h
theorem Dw {t : TypeId} {x : SV} {lo hi : Option SV} (h : Fi E s dst t x lo hi = some (p, u)) : Fr s s' dst W (Fi E s' dst t x lo hi) p u := by
 unfold Fi at h ⊢
 repeat' (split at h)
 all_goals (cases h <;> (try simp only [*]) <;> exact Fr.bE)
theorem vm {t : TypeId} (hu : s'.us k = s.us k) (hkW : k ∈ W) (h : lK E s k dst t = some (p, u)) : Fr s s' dst W (lK E s' k dst t) p u := by
 unfold lK at h ⊢
 rw [hu]
 split at h
 ·cases hb : s.us k with
  | true => rw [hb] at h; cases h
  | false =>
   rw [hb] at h
   simp only [cond_false] at h ⊢
   split at h
   all_goals (cases h <;> (try simp only [*]) <;> exact Fr.new hkW)
 ·cases h
theorem pw {t : TypeId} {x ix v : SV} (hl : ∀ n ∈ x.names, s'.hp n = s.hp n ∧ n ∈ W) (h : mC E s t x ix v = some (p, u)) :
  ∃ hs, u = { s with hp := C9 hs s.hp } ∧ mC E s' t x ix v = some (p, { s' with hp := C9 hs s'.hp }) ∧ ∀ e ∈ hs, e.1 ∈ W := by
 unfold mC at h ⊢
 split at h
 ·rename_i kk ei kk' i j hm hi
  have hj := hl j (by simp [SV.names, PV.names])
  cases hk : decide (kk = kk') with
  | false => rw [hk] at h; cases h
  | true =>
   rw [hk] at h
   simp only [cond_true, hj.1] at h ⊢
   split at h
   ·rename_i kk2 uu xs hx
    cases hg : (decide (kk2 = kk') && !uu.agg) with
    | false => rw [hg] at h; cases h
    | true =>
     rw [hg] at h
     simp only [cond_true] at h ⊢
     split at h
     ·cases h
     ·rename_i q hq
      cases hqa : q.agg with
      | true => rw [hqa] at h; cases h
      | false =>
       rw [hqa] at h
       simp only [cond_false] at h
       split at h
       ·rename_i y hy
        cases h
        refine ⟨[(j, some (.map kk2 uu (nh uu xs i y)))], rfl, ?_, by simpa using hj.2⟩
        try simp only [hm, hi, hk, cond_true, hx, hg]
        cases q <;> first | exact absurd rfl (hq) | (simp only [hqa, cond_false, hy]; rfl)
       ·cases h
     ·cases h
   ·rename_i kk2 xs hx
    cases hg : decide (kk2 = kk') with
    | false => rw [hg] at h; cases h
    | true =>
     rw [hg] at h
     simp only [cond_true] at h ⊢
     split at h
     ·cases h
     ·rename_i q hq
      cases hqa : q.agg with
      | true => rw [hqa] at h; cases h
      | false =>
       rw [hqa] at h
       simp only [cond_false] at h
       cases h
       refine ⟨[(j, some (.pmap kk2 (tv xs i q)))], rfl, ?_, by simpa using hj.2⟩
       try simp only [hm, hi, hk, cond_true, hx, hg]
       cases q <;> first | exact absurd rfl (hq) | (simp only [hqa, cond_false]; rfl)
     ·cases h
   ·cases h
 ·cases h
theorem xg {t : TypeId} {x ix : SV} {two : Bool} (hl : ∀ n ∈ x.names, s'.hp n = s.hp n) (h : oX E s dst t x ix two = some (p, u)) : Fr s s' dst W (oX E s' dst t x ix two) p u := by
 unfold oX at h ⊢
 split at h
 ·rename_i kk ei kk' i j hm hi
  have hj := hl j (by simp [SV.names, PV.names])
  cases hk : decide (kk = kk') with
  | false => rw [hk] at h; cases h
  | true =>
   rw [hk] at h
   simp only [cond_true, hj] at h ⊢
   split at h
   ·rename_i kk2 uu xs hx
    cases hg : (decide (kk2 = kk') && !uu.agg && Vu uu ei.ty) with
    | false => rw [hg] at h; cases h
    | true =>
     rw [hg] at h
     cases two <;> (simp only [cond_true, cond_false] at h; cases h; simp only [hm, hi, hk, hx, hg, cond_true, cond_false]; exact Fr.bE)
   ·cases h
 ·cases h
theorem wX {t : TypeId} {x ix : SV} (hl : ∀ n ∈ x.names, s'.hp n = s.hp n ∧ n ∈ W) (h : oF E s dst t x ix = some (p, u)) : Fr s s' dst W (oF E s' dst t x ix) p u := by
 unfold oF at h ⊢
 split at h
 ·rename_i kk ei kk' i j hm hi
  have hj := hl j (by simp [SV.names, PV.names])
  cases hk : decide (kk = kk') with
  | false => rw [hk] at h; cases h
  | true =>
   rw [hk] at h
   simp only [cond_true, hj.1] at h ⊢
   split at h
   ·rename_i kk2 uu xs hx
    cases hg : decide (kk2 = kk') with
    | false => rw [hg] at h; cases h
    | true =>
     rw [hg] at h
     simp only [cond_true] at h
     cases h
     simp only [hm, hi, hk, hx, hg, cond_true]
     exact Fr.fY hj.2
   ·cases h
 ·cases h
theorem wU {t : TypeId} {x : SV} (hl : ∀ n ∈ x.names, s'.hp n = s.hp n) (h : oN E s dst t x = some (p, u)) : Fr s s' dst W (oN E s' dst t x) p u := by
 unfold oN at h ⊢
 split at h
 ·rename_i q j hm
  have hj := hl j (by simp [SV.names, PV.names])
  simp only [hj] at h ⊢
  split at h
  ·rename_i hx
   cases h
   try simp only [hm, hx]
   exact Fr.bE
  ·cases h
 ·cases h
theorem xe {t : TypeId} {x y : SV} (hl : ∀ n ∈ x.names, s'.hp n = s.hp n ∧ n ∈ W) (hy : ∀ n ∈ y.names, s'.hp n = s.hp n) (hu : s'.us k = s.us k) (hkW : k ∈ W)
  (h : ox E s k dst t x y = some (p, u)) : Fr s s' dst W (ox E s' k dst t x y) p u := by
 unfold ox at h ⊢
 rw [fS hy]
 split at h
 ·split at h
  ·rename_i e _ _ _ _ _ sz by_ _ _ uu he
   dsimp only at h ⊢
   rw [hu]
   cases hb : (!(Nat.beq uu.size sz && Nat.blt 0 sz) || s.us k) with
   | true => rw [hb] at h; cases h
   | false =>
    rw [hb] at h
    simp only [cond_false] at h
    simp only [*, cond_false]
    split at h
    ·cases h
    ·rename_i ys hys
     split at h
     ·cases h
      exact Fr.new hkW
     ·rename_i j
      have hj := hl j (by simp [SV.names, PV.names])
      rw [hj.1]
      split at h
      ·split at h
       ·cases h
        try simp only [*]
        exact Fr.renew hj.2 hkW
       ·cases h
      ·cases h
     ·cases h
  ·cases h
 ·cases h
theorem yR {t : TypeId} {ps : List (Nat × SV)} (h : sG E s dst t ps = some (p, u)) : Fr s s' dst W (sG E s' dst t ps) p u := by
 unfold sG at h ⊢
 split at h
 ·rename_i fs z _ _
  cases hb : fs.all (fun f => (E.info f.2).isSome) with
  | false => rw [hb] at h; cases h
  | true =>
   rw [hb] at h
   simp only [Bool.not_true, cond_false] at h
   simp only [*, Bool.not_true, cond_false]
   repeat' (split at h)
   all_goals (cases h <;> (try simp only [*]) <;> exact Fr.bE)
 ·split at h
  ·rename_i ei he
   cases hb : Nat.beq _ ei.size with
   | false => rw [hb] at h; cases h
   | true =>
    rw [hb] at h
    simp only [Bool.not_true, cond_false] at h
    simp only [*, Bool.not_true, cond_false]
    split at h
    ·cases h; (try simp only [*]); exact Fr.bE
    ·cases h
  ·cases h
 ·cases h
theorem qg {t : TypeId} {len : Nat} {ps : List (Nat × SV)} (hu : s'.us k = s.us k) (hkW : k ∈ W) (h : cY E s k dst t len ps = some (p, u)) :
  Fr s s' dst W (cY E s' k dst t len ps) p u := by
 unfold cY at h ⊢
 rw [hu]
 split at h
 ·split at h
  ·rename_i sz _ _ _ uu he
   cases hb : (!(Nat.beq uu.size sz && Nat.blt 0 sz && Nat.ble (len * sz) 65536) || s.us k) with
   | true => rw [hb] at h; cases h
   | false =>
    rw [hb] at h
    simp only [cond_false] at h
    simp only [*, cond_false]
    repeat' (split at h)
    all_goals (cases h <;> (try simp only [*]) <;> exact Fr.new hkW)
  ·cases h
 ·cases h
theorem sR {j : Nat} : ∀ {l : List (Nat × SV)}, ri l = some j → ∃ i, (i, .one (.row j)) ∈ l
 | (i, v) :: r, h => by
  unfold ri at h
  split at h
  ·cases h
  ·rename_i heq
   injection heq with h1 h2
   injection h1 with h3 h4
   injection h with h5
   exact ⟨i, by rw [h4, h5]; exact List.mem_cons_self ..⟩
  ·rename_i heq
   injection heq with h1 h2
   subst h2
   obtain ⟨k, hk⟩ := sR h
   exact ⟨k, List.mem_cons_of_mem _ hk⟩
theorem q0 {t : TypeId} {len : Nat} {ps : List (Nat × SV)} (hl : ∀ j, ri ps = some j → s'.hp j = s.hp j ∧ j ∈ W) (hu : s'.us k = s.us k) (hkW : k ∈ W) (h : fQ E s k dst t len ps = some (p, u)) :
  Fr s s' dst W (fQ E s' k dst t len ps) p u := by
 unfold fQ at h ⊢
 split at h
 ·rename_i j hrp
  obtain ⟨h1, h2⟩ := hl j hrp
  rw [h1]
  split at h
  ·rename_i v xs hj
   unfold cY at h ⊢
   have hu' : (s'.drop j).us k = (s.drop j).us k := hu
   rw [hu']
   split at h
   ·split at h
    ·rename_i sz _ _ _ uu he
     cases hb : (!(Nat.beq uu.size sz && Nat.blt 0 sz && Nat.ble (len * sz) 65536) || (s.drop j).us k) with
     | true => rw [hb] at h; cases h
     | false =>
      rw [hb] at h
      simp only [cond_false] at h
      simp only [*, cond_false]
      repeat' (split at h)
      all_goals (cases h <;> (try simp only [*]) <;> exact Fr.renew h2 hkW)
    ·cases h
   ·cases h
  ·cases h
 ·cases h
theorem A7 {t : TypeId} {l c : SV} (hu : s'.us k = s.us k) (hkW : k ∈ W) (h : xI E s k dst t l c = some (p, u)) : Fr s s' dst W (xI E s' k dst t l c) p u := by
 unfold xI at h ⊢
 rw [hu]
 split at h
 ·split at h
  ·rename_i sz by_ _ _ uu he
   cases hb : (!(Nat.beq uu.size sz && Nat.blt 0 sz) || s.us k) with
   | true => rw [hb] at h; cases h
   | false =>
    rw [hb] at h
    simp only [cond_false] at h
    simp only [*, cond_false]
    cases h
    exact Fr.new hkW
  ·cases h
 ·cases h
theorem Ez {op : UnOp} {x : SV} (h : SO s dst op x = some (p, u)) : Fr s s' dst W (SO s' dst op x) p u := by
 unfold SO at h ⊢
 split at h
 all_goals (cases h <;> (try simp only [*]) <;> exact Fr.bE)
theorem nL {mx : Bool} {x y z : SV} (h : jR s dst mx x y z = some (p, u)) : Fr s s' dst W (jR s' dst mx x y z) p u := by
 unfold jR at h ⊢
 split at h
 ·split at h
  ·rename_i hk
   rw [if_pos hk]
   cases h; exact Fr.bE
  ·cases h
 ·cases h
theorem xh {t : TypeId} {x : SV} {lo hi : Option SV} {m : SV} (h : oT E s dst t x lo hi m = some (p, u)) : Fr s s' dst W (oT E s' dst t x lo hi m) p u := by
 unfold oT at h ⊢
 split at h
 ·rename_i tt xs
  cases hb : cM E t tt with
  | false => rw [hb] at h; cases h
  | true =>
   rw [hb] at h
   simp only [Bool.not_true, cond_false] at h ⊢
   split at h
   ·cases h; exact Fr.bE
   ·cases h
 ·cases h
theorem sV {t : TypeId} {x : SV} {lo hi : Option SV} (hl : ∀ n ∈ x.names, s'.hp n = s.hp n) (hu : s'.us k = s.us k) (hkW : k ∈ W)
  (h : uI E s k dst t x lo hi = some (p, u)) : Fr s s' dst W (uI E s' k dst t x lo hi) p u := by
 unfold uI at h ⊢
 split at h
 ·rename_i j j' sz a b
  have hj := hl j (by simp [SV.names, PV.names])
  simp only [hj]
  split at h
  ·rename_i tt xs hx
   rw [hu]
   cases hb : (!(cM E t tt && Nat.beq tt.size sz && Nat.beq a 0) || s.us k) with
   | true => rw [hb] at h; cases h
   | false =>
    rw [hb] at h
    simp only [cond_false] at h
    simp only [hx, hb, cond_false]
    split at h
    ·cases h; (try simp only [*]); exact Fr.use hkW
    ·cases h
  ·cases h
 ·exact BH hl hu hkW h
theorem Fr.Rz {s s' : St} {d : Option Nat} {W : List Nat} {p : Option Prop} {v : SV} {j k : Nat} {h : HE} (hj : j ∈ W) (hk : k ∈ W) :
  Fr s s' d W (some (p, ({ s'.fY j h with us := uset s'.us k } : St).put d v)) p (({ s.fY j h with us := uset s.us k } : St).put d v) :=
 ⟨v, [(j, some h)], [k], rfl, rfl, by simpa using hj, by simpa using hk⟩
theorem wZ {t : TypeId} {x : SV} {lo hi : Option SV} {m : SV} (hl : ∀ n ∈ x.names, s'.hp n = s.hp n) (h : oD E s dst t x lo hi m = some (p, u)) : Fr s s' dst W (oD E s' dst t x lo hi m) p u := by
 unfold oD at h ⊢
 split at h
 ·rename_i j
  have hj := hl j (by simp [SV.names, PV.names])
  simp only [hj]
  split at h
  ·rename_i tt xs hx
   cases hb : cM E t tt with
   | false => rw [hb] at h; cases h
   | true =>
    rw [hb] at h
    try simp only [hx, hb]
    simp only [Bool.not_true, cond_false] at h ⊢
    split at h
    ·cases h; (try simp only [*]); exact Fr.bE
    ·cases h
  ·cases h
 ·exact xh h
theorem x8 {t : TypeId} {x : SV} (hl : ∀ n ∈ x.names, s'.hp n = s.hp n ∧ n ∈ W) (h : r9 E s dst t x = some (p, u)) : Fr s s' dst W (r9 E s' dst t x) p u := by
 unfold r9 at h ⊢
 split at h
 ·rename_i j j' sz a b
  have hj := hl j (by simp [SV.names, PV.names])
  simp only [hj.1]
  split at h
  ·split at h
   ·rename_i sz2 _ _ _ uu he
    split at h
    ·rename_i u2 xs hx
     split at h
     ·rename_i xs2 hc
      try simp only [hx, hc]
      cases hb : (!(Nat.beq uu.size sz2 && Nat.beq sz sz2)) with
      | true => rw [hb] at h; cases h
      | false =>
       rw [hb] at h
       simp only [cond_false] at h
       simp only [*, cond_false]
       cases h
       exact Fr.fY hj.2
     ·cases h
    ·cases h
   ·cases h
  ·cases h
 ·cases h
theorem uf {t : TypeId} {x y : SV} (hl : ∀ n ∈ x.names, s'.hp n = s.hp n ∧ n ∈ W) (hy : ∀ n ∈ y.names, s'.hp n = s.hp n) (hu : s'.us k = s.us k) (hkW : k ∈ W)
  (h : kQ E s k dst t x y = some (p, u)) : Fr s s' dst W (kQ E s' k dst t x y) p u := by
 unfold kQ at h ⊢
 split at h
 ·rename_i j j' sz a b
  have hj := hl j (by simp [SV.names, PV.names])
  simp only [hj.1]
  rw [fS hy]
  split at h
  ·split at h
   ·rename_i sz2 _ _ _ uu he
    split at h
    ·rename_i u1 ys u2 xs hyy hx
     split at h
     ·rename_i ys2 xs2 hc1 hc2
      try simp only [hx, hyy, hc1, hc2]
      rw [hu]
      cases hb : (!(Nat.beq uu.size sz2 && Nat.beq sz sz2 && Nat.beq a 0) || s.us k) with
      | true => rw [hb] at h; cases h
      | false =>
       rw [hb] at h
       simp only [cond_false] at h
       simp only [*, cond_false]
       cases h
       exact Fr.Rz hj.2 hkW
     ·cases h
    ·cases h
   ·cases h
  ·cases h
 ·exact xe hl hy hu hkW h
theorem pC {mx : Bool} {x y : SV} (h : mK s dst mx x y = some (p, u)) : Fr s s' dst W (mK s' dst mx x y) p u := by
 unfold mK at h ⊢
 repeat' (split at h)
 all_goals (cases h <;> (try simp only [*]) <;> exact Fr.bE)
theorem Dh {wr : Bool} {op : BinOp} {t : TypeId} {x y : SV} (h : FX E wr s dst op t x y = some (p, u)) : Fr s s' dst W (FX E wr s' dst op t x y) p u := by
 unfold FX at h ⊢
 split at h
 ·repeat' (split at h)
  all_goals (cases h <;> (try simp only [*]) <;> exact Fr.bE)
 ·split at h
  ·cases hb : rn E t with
   | false => rw [hb] at h; cases h
   | true =>
    rw [hb] at h
    simp only [Bool.not_true, cond_false] at h
    repeat' (split at h)
    all_goals (cases h <;> (try simp only [*, Bool.not_true, cond_false]) <;> exact Fr.bE)
  ·repeat' (split at h)
   all_goals (cases h <;> (try simp only [*]) <;> exact Fr.bE)
theorem vW {wr : Bool} {t t' : TypeId} {x : SV} (hl : ∀ n ∈ x.names, s'.hp n = s.hp n) (h : lk E wr s dst t t' x = some (p, u)) : Fr s s' dst W (lk E wr s' dst t t' x) p u := by
 unfold lk at h ⊢
 rw [fS hl]
 revert h
 cases asInt? x with
 | some q =>
  simp only []
  intro h
  split at h
  ·(try simp only [*])
   cases wr <;> cases h <;> exact Fr.bE
  ·cases h
 | none =>
  simp only []
  cases asStr? x with
  | some l =>
   simp only []
   cases de E t with
   | false => intro h; cases h
   | true =>
    cases de E t' with
    | true => intro h; cases h; exact Fr.bE
    | false =>
     cases iB E t' with
     | false => intro h; cases h
     | true => intro h; cases h; exact Fr.bE
  | none =>
   simp only []
   cases iB E t && de E t' with
   | false => intro h; cases h
   | true =>
    simp only [cond_true]
    intro h
    repeat' (split at h)
    all_goals (cases h <;> (try simp only [*]) <;> exact Fr.bE)

def Ft : Option Operand → List Operand
 | none => []
 | some x => [x]
def opsOf : Op → List Operand
 | .move x => [x]
 | .assign x => [x]
 | .box _ x => [x]
 | .load _ x => [x]
 | .nilCheck x => [x]
 | .unOp _ _ x => [x]
 | .convert _ _ x => [x]
 | .fieldAddr _ x _ => [x]
 | .field _ x _ => [x]
 | .extract x _ => [x]
 | .pick c x y => [c, x, y]
 | .build _ ps => ps.toList.map (fun p => p.2)
 | .buildSlice _ _ ps => ps.toList.map (fun p => p.2)
 | .store _ x y => [x, y]
 | .binOp _ _ x y _ => [x, y]
 | .makeSlice _ x y => [x, y]
 | .insert _ x y z => [x, y, z]
 | .mapUpdate _ x y z => [x, y, z]
 | .lookup _ x y _ => [x, y]
 | .indexAddr _ x y => [x, y]
 | .index _ x y => [x, y]
 | .makeFunc _ _ caps => caps.toList
 | .slice _ x lo hi mx => x :: (Ft lo ++ (Ft hi ++ Ft mx))
 | .call c => (match c.callee with
  | .value x => x :: c.args.toList
  | _ => c.args.toList)
 | _ => []
def ia (s : St) : List Operand → List Nat
 | [] => []
 | x :: r => (ev s x).names ++ ia s r
def Vc (s : St) : Op → List Nat
 | .fieldAddr _ _ _ => []
 | .move _ => []
 | .assign _ => []
 | .nilCheck _ => []
 | .indexAddr _ x _ => (match ev s x with
  | .one (.row j) => [j]
  | _ => [])
 | o => ia s (opsOf o)
def BE (s : St) (k : Nat) (o : Op) : List Nat := k :: Vc s o
def mU (lz : Bool) (s : St) (k : Nat) : Op → List Nat
 | .alloc _ => [k]
 | .box _ _ => [k]
 | .buildSlice _ _ ps => bif lz then k :: ia s (ps.toList.map (fun p => p.2)) else [k]
 | .makeSlice _ _ _ => [k]
 | .makeFunc _ _ _ => [k]
 | .store _ x _ => (ev s x).names
 | .makeMap _ _ => [k]
 | .insert _ x _ _ => (ev s x).names
 | .mapUpdate _ x _ _ => (ev s x).names
 | .slice _ x _ _ _ => (match ev s x with
  | .one (.row j) => bif lz then [k] else [k, j]
  | .one (.sub _ _ _ _ _) => [k]
  | _ => [])
 | .call c => (match c.callee with
  | .builtin .delete => (match c.args.toList with
   | x :: _ => (ev s x).names
   | [] => [])
  | .builtin .clear => (match c.args.toList with
   | x :: _ => (ev s x).names
   | [] => [])
  | .builtin .append => (match c.args.toList with
   | x :: _ => k :: (ev s x).names
   | [] => [k])
  | .value _ => [k]
  | _ => [])
 | _ => []

theorem iz {s : St} : ∀ {l : List Operand} {x : Operand} {n : Nat}, x ∈ l → n ∈ (ev s x).names → n ∈ ia s l
 | y :: l, x, n, hx, hn => by
  unfold ia
  rcases List.mem_cons.1 hx with e | hx
  ·exact List.mem_append_left _ (e ▸ hn)
  ·exact List.mem_append_right _ (iz hx hn)

theorem xT {wr : Nat → Bool} {o : Oper} (hev : ∀ x ∈ opsOf o.op, ev s' x = ev s x) (hn : ∀ n ∈ BE s k o.op, s'.hp n = s.hp n ∧ s'.us n = s.us n)
  (h : Mr E wr s k o = some (p, u)) : Fr s s' o.dst (mU (FG wr 3000000 o.dst) s k o.op) (Mr E wr s' k o) p u := by
 have hk := hn k (by simp [BE])
 have hnm0 : ∀ op, o.op = op → Vc s op = ia s (opsOf op) → ∀ x ∈ opsOf op, ∀ n ∈ (ev s x).names, s'.hp n = s.hp n := fun op e e2 x hx n hxn =>
  (hn n (by rw [BE, e, e2]; exact List.mem_cons_of_mem _ (iz hx hxn))).1
 unfold Mr at h ⊢
 cases ho : o.op with
 | move x =>
  rw [ho] at hev h
  simp only [hev x (by simp [opsOf])] at h ⊢
  cases h; exact Fr.bE
 | assign x =>
  rw [ho] at hev h
  simp only [hev x (by simp [opsOf])] at h ⊢
  cases h; exact Fr.bE
 | pick c x y =>
  rw [ho] at hev h
  simp only [hev x (by simp [opsOf]), hev y (by simp [opsOf]), hev c (by simp [opsOf])] at h ⊢
  unfold D9 at h ⊢
  repeat' (split at h)
  all_goals (cases h <;> (try simp only [*]) <;> exact Fr.bE)
 | alloc e =>
  rw [ho] at h
  simp only [] at h ⊢
  rw [hk.2]
  split at h
  ·cases hu : s.us k with
   | true => rw [hu] at h; cases h
   | false => rw [hu] at h; cases h; (try simp only [*]); exact Fr.new (by simp [mU])
  ·cases h
 | box t x =>
  rw [ho] at hev h
  simp only [hev x (by simp [opsOf])] at h ⊢
  rw [hk.2]
  split at h
  ·cases hu : s.us k with
   | true => rw [hu] at h; cases h
   | false => rw [hu] at h; cases h; (try simp only [*]); exact Fr.new (by simp [mU])
  ·cases h
 | build t ps =>
  rw [ho] at hev h
  have e : ps.toList.map (fun p => (p.1, ev s' p.2)) = ps.toList.map (fun p => (p.1, ev s p.2)) := List.map_congr_left fun q hq => by
   rw [hev q.2 (by simpa [opsOf] using ⟨q.1, by simpa using hq⟩)]
  simp only [e] at h ⊢
  exact yR h
 | buildSlice t n ps =>
  rw [ho] at hev h
  have e : ps.toList.map (fun p => (p.1, ev s' p.2)) = ps.toList.map (fun p => (p.1, ev s p.2)) := List.map_congr_left fun q hq => by
   rw [hev q.2 (by simpa [opsOf] using ⟨q.1, by simpa using hq⟩)]
  simp only [e] at h ⊢
  cases hb : FG wr 3000000 o.dst with
  | false =>
   rw [hb] at h
   exact qg hk.2 (by simp [mU]) h
  | true =>
   rw [hb] at h
   simp only [cond_true] at h ⊢
   refine q0 (fun j hrp => ?_) hk.2 (by simp [mU]) h
   obtain ⟨i, hj⟩ := sR hrp
   have hnm : j ∈ ia s (ps.toList.map (fun p => p.2)) := by
    have hm : (i, SV.one (.row j)) ∈ ps.toList.map (fun p => (p.1, ev s p.2)) := hj
    obtain ⟨q, hq, he⟩ := List.mem_map.1 hm
    have he2 : ev s q.2 = .one (.row j) := congrArg Prod.snd he
    exact iz (x := q.2) (List.mem_map.2 ⟨q, hq, rfl⟩) (by rw [he2]; simp [SV.names, PV.names])
   exact ⟨(hn j (by rw [BE, ho]; exact List.mem_cons_of_mem _ hnm)).1, by simp [mU, hnm]⟩
 | load t x =>
  rw [ho] at hev h
  have hnm := hnm0 _ ho rfl
  simp only [hev x (by simp [opsOf])] at h ⊢
  exact AO (hnm x (by simp [opsOf])) h
 | store t x y =>
  rw [ho] at hev h
  have hnm := hnm0 _ ho rfl
  simp only [hev x (by simp [opsOf]), hev y (by simp [opsOf])] at h ⊢
  split at h
  ·rename_i q t' hq
   cases h
   obtain ⟨hs, e1, e2, e3⟩ := yu (s' := s') (W := (ev s x).names) (fun n hnn => ⟨hnm x (by simp [opsOf]) n hnn, hnn⟩) hq
   rw [e2, e1]
   exact ⟨.one .any, hs, [], rfl, rfl, by simpa [mU] using e3, by simp⟩
  ·cases h
 | nilCheck x =>
  rw [ho] at hev h
  simp only [hev x (by simp [opsOf])] at h ⊢
  split at h
  all_goals (cases h <;> (try simp only [*]) <;> exact Fr.bE)
 | binOp op t x y sh =>
  rw [ho] at hev h
  simp only [hev x (by simp [opsOf]), hev y (by simp [opsOf])] at h ⊢
  split at h
  ·cases h; (try simp only [*]); exact Fr.bE
  ·exact Dh h
 | unOp op t x =>
  rw [ho] at hev h
  simp only [hev x (by simp [opsOf])] at h ⊢
  exact Ez h
 | convert t t' x =>
  rw [ho] at hev h
  have hnm := hnm0 _ ho rfl
  simp only [hev x (by simp [opsOf])] at h ⊢
  exact vW (hnm x (by simp [opsOf])) h
 | makeFunc fn first caps =>
  rw [ho] at hev h
  have e : caps.toList.map (ev s') = caps.toList.map (ev s) := List.map_congr_left fun q hq => hev q (by simpa [opsOf] using hq)
  simp only [sC, e] at h ⊢
  rw [hk.2]
  split at h
  ·split at h
   ·cases hu : s.us k with
    | true => rw [hu] at h; cases h
    | false => rw [hu] at h; cases h; (try simp only [*]); exact Fr.new (by simp [mU])
   ·cases h
  ·cases h
 | makeSlice t l c =>
  rw [ho] at hev h
  simp only [hev l (by simp [opsOf]), hev c (by simp [opsOf])] at h ⊢
  exact A7 hk.2 (by simp [mU]) h
 | makeMap t r =>
  rw [ho] at h
  simp only [] at h ⊢
  cases r with
  | some _ => cases h
  | none => exact vm hk.2 (by simp [mU]) h
 | insert t x y z =>
  rw [ho] at hev h
  have hnm := hnm0 _ ho rfl
  simp only [hev x (by simp [opsOf]), hev y (by simp [opsOf]), hev z (by simp [opsOf])] at h ⊢
  split at h
  ·rename_i q s1 hs1
   cases h
   obtain ⟨hs, e1, e2, e3⟩ := pw (W := (ev s x).names) (fun n hnn => ⟨hnm x (by simp [opsOf]) n hnn, hnn⟩) hs1
   subst e1
   rw [e2]
   exact ⟨.one .any, hs, [], rfl, rfl, by simpa [mU] using e3, by simp⟩
  ·cases h
 | mapUpdate t x y z =>
  rw [ho] at hev h
  have hnm := hnm0 _ ho rfl
  simp only [hev x (by simp [opsOf]), hev y (by simp [opsOf]), hev z (by simp [opsOf])] at h ⊢
  split at h
  ·rename_i q s1 hs1
   cases h
   obtain ⟨hs, e1, e2, e3⟩ := pw (W := (ev s x).names) (fun n hnn => ⟨hnm x (by simp [opsOf]) n hnn, hnn⟩) hs1
   subst e1
   rw [e2]
   exact ⟨.one .any, hs, [], rfl, rfl, by simpa [mU] using e3, by simp⟩
  ·cases h
 | lookup t x y two =>
  rw [ho] at hev h
  have hnm := hnm0 _ ho rfl
  simp only [hev x (by simp [opsOf]), hev y (by simp [opsOf])] at h ⊢
  exact xg (hnm x (by simp [opsOf])) h
 | slice t x lo hi mx =>
  rw [ho] at hev h
  have hnm := hnm0 _ ho rfl
  have e1 : lo.map (ev s') = lo.map (ev s) := by cases lo with
   | none => rfl
   | some z => simp only [Option.map_some]; rw [hev z (by simp [opsOf, Ft])]
  have e2 : hi.map (ev s') = hi.map (ev s) := by cases hi with
   | none => rfl
   | some z => simp only [Option.map_some]; rw [hev z (by simp [opsOf, Ft])]
  simp only [hev x (by simp [opsOf]), e1, e2] at h ⊢
  have hx := hnm x (by simp [opsOf])
  cases mx with
  | some m =>
   simp only [hev m (by simp [opsOf, Ft])] at h ⊢
   exact wZ hx h
  | none =>
   simp only [mU]
   cases hA : Cf E t with
   | true => simp only [hA, cond_true] at h ⊢; exact Dw h
   | false =>
   simp only [hA, cond_false] at h ⊢
   cases hz : FG wr 3000000 o.dst with
   | true =>
    simp only [hz, cond_true] at h ⊢
    have hr : (∃ j, ev s x = .one (.row j)) ∨ ∃ j j' z a b, ev s x = .one (.sub j j' z a b) := by
     unfold uI at h
     split at h
     ·rename_i j j' z a b hj; exact .inr ⟨j, j', z, a, b, hj⟩
     ·unfold De at h
      split at h
      ·rename_i j hj; exact .inl ⟨j, hj⟩
      ·cases h
    rcases hr with ⟨j, hj⟩ | ⟨j, j', z, a, b, hj⟩
    ·simp only [hj] at h hx ⊢
     exact sV hx hk.2 (by simp) h
    ·simp only [hj] at h hx ⊢
     exact sV hx hk.2 (by simp) h
   | false =>
   simp only [hz, cond_false] at h ⊢
   by_cases hr : ∃ j, ev s x = .one (.row j)
   ·obtain ⟨j, hj⟩ := hr
    simp only [hj] at h hx ⊢
    exact yV (fun n hnn => ⟨hx n hnn, by simp [SV.names, PV.names] at hnn; simp [hnn]⟩) hk.2 (by simp) h
   ·exact zJ hx hr h
 | fieldAddr t x i =>
  rw [ho] at hev h
  simp only [hev x (by simp [opsOf])] at h ⊢
  exact r4 h
 | field t x i =>
  rw [ho] at hev h
  simp only [hev x (by simp [opsOf])] at h ⊢
  exact yi h
 | indexAddr t x i =>
  have hnr : ∀ j, ev s x = .one (.row j) → s'.hp j = s.hp j := fun j e => (hn j (by rw [BE, ho]; simp only [Vc, e]; simp)).1
  rw [ho] at hev h
  simp only [hev x (by simp [opsOf]), hev i (by simp [opsOf])] at h ⊢
  exact sw hnr h
 | index t x i =>
  rw [ho] at hev h
  simp only [hev x (by simp [opsOf]), hev i (by simp [opsOf])] at h ⊢
  exact yw h
 | extract x i =>
  rw [ho] at hev h
  simp only [hev x (by simp [opsOf])] at h ⊢
  split at h
  ·split at h
   ·cases h; (try simp only [*]); exact Fr.bE
   ·rename_i es _ q hq
    (try simp only [*])
    cases hg : q.agg with
    | true => rw [hg] at h; cases h
    | false => rw [hg] at h; cases h; exact Fr.bE
   ·cases h
  ·cases h
 | call c =>
  rw [ho] at hev h
  have hnm := hnm0 _ ho rfl
  simp only [] at h ⊢
  unfold wD at h ⊢
  split at h
  ·rename_i b hc
   simp only [opsOf, hc] at hev hnm
   simp only [mU, hc]
   generalize c.args.toList = as at h hev hnm
   generalize c.argTypes.toList = ts at h
   split at h
   ·rename_i x t
    simp only [hev x (by simp)] at h ⊢
    split at h
    ·rename_i q hq
     try simp only [hq]
     exact wU (hnm x (by simp)) h
    ·rename_i hq
     try simp only [hq]
     exact Df (hnm x (by simp)) h
   ·rename_i x y t t'
    simp only [hev x (by simp), hev y (by simp)] at h ⊢
    exact wX (fun n hnn => ⟨hnm x (by simp) n hnn, hnn⟩) h
   ·rename_i x y t t'
    simp only [hev x (by simp), hev y (by simp)] at h ⊢
    cases ht : Nat.beq t t' with
    | false => rw [ht] at h; cases h
    | true =>
     rw [ht] at h
     simp only [cond_true] at h ⊢
     exact uf (fun n hnn => ⟨hnm x (by simp) n hnn, by simp [hnn]⟩) (hnm y (by simp)) hk.2 (by simp) h
   ·rename_i x t
    simp only [hev x (by simp)] at h ⊢
    exact x8 (fun n hnn => ⟨hnm x (by simp) n hnn, hnn⟩) h
   ·rename_i x y
    simp only [hev x (by simp), hev y (by simp)] at h ⊢
    exact pC h
   ·rename_i x y
    simp only [hev x (by simp), hev y (by simp)] at h ⊢
    exact pC h
   ·rename_i x y z
    simp only [hev x (by simp), hev y (by simp), hev z (by simp)] at h ⊢
    exact nL h
   ·rename_i x y z
    simp only [hev x (by simp), hev y (by simp), hev z (by simp)] at h ⊢
    exact nL h
   ·cases h
  ·cases h
 | _ => rw [ho] at h; cases h
end
end Go.Sx
/-
 Sx, part O: the executor for code: regions, calls, branches, loops.
-/
namespace Go.Sx

@[reducible] def HL : List Ty → Type
 | [] => Unit
 | t :: ts => t.D × HL ts

structure ah where
 as : List Ty
 rs : List Ty
 pre : HL as → Prop
 f : HL as → HL rs
 own : Bool

structure Holds (p : Prop) : Prop where
 out : p

structure Inv where
 im : List (Nat × SV)
 heap : List (Nat × HE)
 nx : Nat
structure jz where
 G : Type
 ok : St → G → Prop
 m : St → G → Nat
 inv : St → G → Inv
 pick : St → St → Option G
 lens : G → Prop
 told : ∀ (w0 : cz) (ρ : Nat → Value) (s0 s : St) (a : Act) (w : World) (g : G), Ok w0 ρ s a w → pick s0 s = some g → lens g

structure Fx where
 E : Env
 wr : Nat → Nat → Bool
 K : Nat → Option ah
 KF : Nat → Nat → Option ah
 fn : Nat → Option Func
 loops : Nat → Nat → Option jz
 Sq : Nat → Nat → List jz

inductive Vf where
 | normal
 | exit (id : Nat)
 | ret

def lS : Ty → Bool
 | .sl _ => false
 | .arr _ t => lS t
 | .pair a b => lS a && lS b
 | _ => true

def PV.res (s : St) : PV → PV
 | .row k => (match s.hp k with
  | some (.row t xs) => .d (.sl t) xs
  | _ => .row k)
 | .sub k k' sz a b => (match uV s (.one (.sub k k' sz a b)) with
  | some ⟨t, xs⟩ => .d (.sl t) xs
  | none => .sub k k' sz a b)
 | .tu k off n sz => (match uV s (.one (.tu k off n sz)) with
  | some ⟨t, xs⟩ => .d (.sl t) xs
  | none => .tu k off n sz)
 | p => p
def tb (s : St) (bor : Bool) (t : Ty) (v : SV) : Option t.D :=
 match v.parts with
 | some ps => bif Bool.xor v.isAgg t.agg then none else kU t (bif bor then ps.map (PV.res s) else ps)
 | none => none
def gv (s : St) (bor : Bool) : (as : List Ty) → List SV → Option (HL as)
 | [], [] => some ()
 | t :: ts, v :: vs => (match tb s bor t v with
  | some x => (match gv s bor ts vs with
   | some y => some (x, y)
   | none => none)
  | none => none)
 | _, _ => none
def Me : (rs : List Ty) → HL rs → List (Bool × List PV)
 | [], _ => []
 | t :: ts, x => (t.agg, [.d t x.1]) :: Me ts x.2
def Jn : (rs : List Ty) → HL rs → SV
 | [t], x => .one (.d t x.1)
 | rs, x => .gB (Me rs x)

def PV.np (k : Nat) (t : Ty) (xs : List t.D) : PV → PV
 | .row k' => bif Nat.beq k' k then .d (.sl t) xs else .row k'
 | p => p
def SV.np (k : Nat) (t : Ty) (xs : List t.D) : SV → SV
 | .one p => .one (p.np k t xs)
 | .agg ps => .agg (ps.map (PV.np k t xs))
 | .gB es => .gB (es.map fun e => (e.1, e.2.map (PV.np k t xs)))
 | .lT b p => .lT b (p.np k t xs)
def HE.np (k : Nat) (t : Ty) (xs : List t.D) : HE → HE
 | .box ps => .box (ps.map (PV.np k t xs))
 | .jP f ps => .jP f (ps.map (PV.np k t xs))
 | h => h
def St.np (s : St) (k : Nat) : St :=
 match s.hp k with
 | some (.row t xs) => { s with fr := s.fr.map (SV.np k t xs), bk := s.bk.map (SV.np k t xs), hp := fun n => bif Nat.beq n k then none else (match s.hp n with
   | some h => some (h.np k t xs)
   | none => none) }
 | _ => s
def PV.oL (k : Nat) : PV → PV
 | .sub j k' sz a b => bif Nat.beq k' k then .row k' else .sub j k' sz a b
 | p => p
def SV.oL (k : Nat) : SV → SV
 | .one p => .one (p.oL k)
 | .agg ps => .agg (ps.map (PV.oL k))
 | .gB es => .gB (es.map fun e => (e.1, e.2.map (PV.oL k)))
 | .lT b p => .lT b (p.oL k)
def HE.oL (k : Nat) : HE → HE
 | .box ps => .box (ps.map (PV.oL k))
 | .jP f ps => .jP f (ps.map (PV.oL k))
 | h => h
def St.oL (s : St) (k : Nat) : St :=
 {s with fr := s.fr.map (SV.oL k), bk := s.bk.map (SV.oL k), hp := fun n => (match s.hp n with
   | some h => some (h.oL k)
   | none => none) }
def Ew (s : St) (k : Nat) : Bool := s.us k && (match s.hp k with
 | none => true
 | some _ => false)
def qv (s : St) (k k' sz a b : Nat) : St :=
 match s.hp k with
 | some (.row t xs) => bif Nat.beq t.size sz && Ew s k' then St.oL ((s.drop k).fY k' (.row t ((xs.take b).drop a))) k' else s
 | _ => s
def nP (sk : Nat → Bool) : Nat → List SV → St → St
 | _, [], s => s
 | i, .one (.sub k k' sz a b) :: r, s => nP sk (i + 1) r (bif sk i then s else qv s k k' sz a b)
 | i, _ :: r, s => nP sk (i + 1) r s
def mq (sk : Nat → Bool) (s : St) : St := nP sk 0 s.fr s

def rowsOf : List PV → List Nat
 | [] => []
 | .row k :: r => k :: rowsOf r
 | _ :: r => rowsOf r
def eN : List SV → List Nat
 | [] => []
 | v :: r => (match v.parts with
  | some ps => rowsOf ps ++ eN r
  | none => eN r)

def kC : List Ty → Bool
 | .sl _ :: _ => true
 | _ => false
def ng : List Ty → Bool
 | .sl t :: r => lS t && r.all lS
 | _ => true
def BK (k : Nat) : (rs : List Ty) → HL rs → Option (SV × HE)
 | [.sl t], x => some (.one (.row k), .row t x.1)
 | .sl t :: u :: r, x => some (.gB ((false, [.row k]) :: Me (u :: r) x.2), .row t x.1)
 | _, _ => none
def tx (c : ah) (k : Nat) (s : St) (args : List SV) (K : SV → St → Prop) : Prop :=
 bif c.own then
  bif kC c.rs && !(s.us k) then
   bif ng c.rs then (match gv s true c.as args with
   | some x => (match BK k c.rs (c.f x) with
    | some (v, he) => Holds (c.pre x) ∧ K v (s.new k he)
    | none => False)
   | none => False)
   else (match eN args with
   | [] => (match gv s false c.as args with
    | some x => (match BK k c.rs (c.f x) with
     | some (v, he) => Holds (c.pre x) ∧ K v (s.new k he)
     | none => False)
    | none => False)
   | _ => False)
  else False
 else bif c.rs.all lS then
  (match gv s true c.as args with
  | some x => Holds (c.pre x) ∧ K (Jn c.rs (c.f x)) s
  | none => False)
 else
  (match eN args with
  | [] => (match gv s false c.as args with
   | some x => Holds (c.pre x) ∧ K (Jn c.rs (c.f x)) s
   | none => False)
  | _ => False)

def callee? (s : St) : Op → Option (Nat × List SV)
 | .call c => (match c.callee with
  | .value x => (match ev s x with
   | .one (.aC (.func (.func f) fs cs)) => bif fs.isEmpty && cs.isEmpty then some (f, c.args.toList.map (ev s)) else none
   | .one (.jP k) => (match s.hp k with
    | some (.jP f ps) => some (f, c.args.toList.map (ev s) ++ ps.map SV.one)
    | _ => none)
   | _ => none)
  | _ => none)
 | _ => none

def zt (c : ah) (k : Nat) (s : St) (args : List SV) (d : Option Nat) : mM :=
 bif c.own then
  bif kC c.rs && !(s.us k) then
   bif ng c.rs then (match gv s true c.as args with
   | some x => (match BK k c.rs (c.f x) with
    | some (v, he) => some (some (Holds (c.pre x)), (s.new k he).put d v)
    | none => none)
   | none => none)
   else (match eN args with
   | [] => (match gv s false c.as args with
    | some x => (match BK k c.rs (c.f x) with
     | some (v, he) => some (some (Holds (c.pre x)), (s.new k he).put d v)
     | none => none)
    | none => none)
   | _ => none)
  else none
 else bif c.rs.all lS then
  (match gv s true c.as args with
  | some x => some (some (Holds (c.pre x)), s.put d (Jn c.rs (c.f x)))
  | none => none)
 else
  (match eN args with
  | [] => (match gv s false c.as args with
   | some x => some (some (Holds (c.pre x)), s.put d (Jn c.rs (c.f x)))
   | none => none)
  | _ => none)
def eB (s : St) : Op → Option (Nat × List SV)
 | .call c => (match c.callee with
  | .value x => (match ev s x with
   | .one (.aC (.func (.func g) fs cs)) => bif fs.isEmpty && cs.isEmpty then some (g, c.args.toList.map (ev s)) else none
   | _ => none)
  | _ => none)
 | _ => none
theorem fZ {s : St} {op : Op} {g : Nat} {args : List SV} (h : eB s op = some (g, args)) :
  ∃ c x, op = .call c ∧ c.callee = .value x ∧ args = c.args.toList.map (ev s) ∧ callee? s op = some (g, args) := by
 cases op with
 | call c =>
  simp only [eB] at h
  cases hc : c.callee with
  | value x =>
   rw [hc] at h
   simp only [] at h
   split at h
   ·rename_i g' fs cs hx
    cases hb : (fs.isEmpty && cs.isEmpty) with
    | false => rw [hb] at h; cases h
    | true =>
     rw [hb] at h
     simp only [cond_true, Option.some.injEq, Prod.mk.injEq] at h
     obtain ⟨rfl, rfl⟩ := h
     refine ⟨c, x, rfl, hc, rfl, ?_⟩
     simp only [callee?, hc, hx, hb, cond_true]
   ·cases h
  | _ => rw [hc] at h; cases h
 | _ => simp [eB] at h
def s3 : List SV → Option (Nat × List SV)
 | [] => none
 | x :: r => (match r with
  | [] => (match x with
   | .one (.aC (.func (.func h) fs cs)) => bif fs.isEmpty && cs.isEmpty then some (h, []) else none
   | _ => none)
  | _ :: _ => (match s3 r with
   | some (h, l) => some (h, x :: l)
   | none => none))
def iL (X : Fx) (g : Nat) (args : List SV) : Option (ah × List SV) := match s3 args with
 | some (h, l) => (match X.KF g h with
  | some c => some (c, l)
  | none => none)
 | none => none
def Dj (X : Fx) (f : Nat) (o : Oper) : Bool :=
 match o.op, o.dst with
 | .slice _ _ _ _ _, some d => X.wr f d
 | _, _ => false
def nc (X : Fx) (f : Nat) (s : St) (k : Nat) (o : Oper) : mM :=
 match eB s o.op with
 | some (g, args) => (match X.K g with
  | some c => zt c k s args o.dst
  | none => (match iL X g args with
   | some (c, l) => zt c k s l o.dst
   | none => none))
 | none => bif Dj X f o then none else Mr X.E (X.wr f) s k o

def Jj (want : Bool) : SV → Option Bool
 | .one (.d .bool b) => some (bif want then b else !b)
 | .lT b1 (.d .bool u) => some (b1 && (bif want then u else !u))
 | _ => none
def Cd : Option Prop → Option Prop → Option Prop
 | none, q => q
 | some p, none => some p
 | some p, some q => some (p ∧ q)
def fv (s : St) : List Operand → St × Option Prop
 | [] => (s, none)
 | .tmp t :: r => (match aF s.fr t with
  | .lT b p => (match fv (s.put (some t) (.one p)) r with
   | (s', C) => (s', Cd (some (b = true)) C))
  | _ => fv s r)
 | _ :: r => fv s r
def vF (X : Fx) (s : St) (k : Nat) (o : Oper) : Bool :=
 match eB s o.op with
 | some (g, _) => (match X.K g with
  | some c => !(c.own)
  | none => false)
 | none => (mU false s k o.op).isEmpty
def om : Op → List Operand
 | .pick c _ _ => [c]
 | o => opsOf o
def Vd (X : Fx) (f : Nat) (s : St) (k : Nat) (o : Oper) (gb : Bool) : Option (Option Prop × St) :=
 match o.dst with
 | some d => (match fv s (om o.op) with
  | (s1, C) => bif vF X s1 k o then (match nc X f s1 k o with
   | some (p, s2) => (match aF s2.fr d with
    | .one q => (match Cd C p with
     | some p => some (some (gb = true → p), s.put (some d) (.lT gb q))
     | none => some (none, s.put (some d) (.lT gb q)))
    | _ => none)
   | none => none) else none)
 | none => none

section
variable (X : Fx) (callK : Nat → Nat → List SV → St → (SV → St → Prop) → Prop) (f : Nat)

def nilCmp? (E : Env) (s : St) : Op → Option (Bool × ((t : Ty) × List t.D))
 | .binOp op t x y _ => (match ev s y with
  | .one (.aC (.slice none 0 0)) => bif jT E t then (match op with
   | .eql => (match uV s (ev s x) with
    | some d => some (false, d)
    | none => none)
   | .neq => (match uV s (ev s x) with
    | some d => some (true, d)
    | none => none)
   | _ => none) else none
  | _ => none)
 | _ => none
def jD (s : St) : List Nat → St
 | [] => s
 | k :: r => jD (s.np k) r
def pre (s : St) (o : Oper) : St :=
 match callee? s o.op with
 | some (g, args) => (match X.K g with
  | some c => bif (bif c.own then !(ng c.rs) else !(c.rs.all lS)) then jD s (eN args) else s
  | none => s)
 | none => (match o.op, o.dst with
  | .slice _ x _ _ _, some d => bif X.wr f d then jD s (eN [ev s x]) else s
  | _, _ => s)
def Ss (s : St) (k : Nat) (o : Oper) (K : St → Prop) : Prop :=
 match callee? s o.op with
 | some (g, args) => callK k g args s (fun v s' => K (s'.put o.dst v))
 | none => (match Mr X.E (X.wr f) s k o with
  | some (some p, s') => p ∧ K s'
  | some (none, s') => K s'
  | none => (match nilCmp? X.E s o.op with
   | some (neg, ⟨_, xs⟩) => ∀ b : Bool, (b = true → xs = []) → K (s.put o.dst (.one (.d .bool (bif neg then !b else b))))
   | none => (match plook? X.E s o.op with
    | some (i, es, z) => DQ (fun p => K (s.put o.dst (.one p))) i z es
    | none => False)))
def FJ (s : St) (k : Nat) (o : Oper) (K : St → Prop) : Prop := Ss X callK f (pre X f s o) k o K
def LG (s : St) (k : Nat) (o : Oper) (K : St → Prop) : Prop :=
 match fv s (om o.op) with
 | (s1, none) => FJ X callK f s1 k o K
 | (s1, some C) => C ∧ FJ X callK f s1 k o K
def mV : List Oper → Nat → Option Nat
 | [], _ => none
 | o :: _, 0 => o.dst
 | _ :: r, n + 1 => mV r n
def Mo (s : St) (k : Nat) (o : Oper) (gb : Bool) : mM := bif FG (X.wr f) 10000000 o.dst then none else Vd X f s k o gb
def ops (all : List Oper) (nb : Nat) : Nat → List Oper → St → (St → Prop) → Prop
 | _, [], s, K => K s
 | i, o :: r, s, K => (match o.guard with
  | none => FJ X callK f s (nb + i) o (fun s => ops all nb (i + 1) r s K)
  | some (j, want) => (match mV all j with
   | some d => (match aF s.fr d with
    | .one (.lit b) => bif Bool.xor b want then ops all nb (i + 1) r (s.put o.dst (.gB [])) K else LG X callK f s (nb + i) o (fun s => ops all nb (i + 1) r s K)
    | .gB [] => ops all nb (i + 1) r (s.put o.dst (.gB [])) K
    | v => (match Jj want v with
     | some gb => (match Mo X f s (nb + i) o gb with
      | some (some p, s') => p ∧ ops all nb (i + 1) r s' K
      | some (none, s') => ops all nb (i + 1) r s' K
      | none => (match v with
       | .one (.d .bool b) => (b = want → LG X callK f (s.put (some d) (.one (.lit want))) (nb + i) o (fun s => ops all nb (i + 1) r s K)) ∧
        (b = !want → ops all nb (i + 1) r ((s.put (some d) (.one (.lit !want))).put o.dst (.gB [])) K)
       | _ => False))
     | none => False))
   | none => False))
end

abbrev Rec := Nat × List Nat × List Nat
def ko : List Nat → Nat → Nat
 | [], _ => 0
 | m :: _, 0 => m
 | _ :: r, n + 1 => ko r n
def ord (ms : List Nat) (i j : Nat) : Bool := bif Nat.blt i j then Nat.testBit (ko ms j) i else Nat.testBit (ko ms i) j
def mw : List Nat → List Nat → Bool
 | [], _ => true
 | n :: r, l => bif memN' n l then false else mw r l
where memN' (n : Nat) : List Nat → Bool
 | [] => false
 | k :: r => bif Nat.beq n k then true else memN' n r
def F4 (ms : List Nat) (i : Nat) (F W : List Nat) : List Rec → Bool
 | [] => true
 | (j, F', W') :: r => bif ord ms i j || (mw W' F && (mw W F' && mw W W')) then F4 ms i F W r else false
def SR (X : Fx) (f : Nat) (o : Oper) : Bool := FG (X.wr f) 3000000 o.dst
def S4 (X : Fx) (f nb : Nat) (ms : List Nat) (i : Nat) (o : Oper) (acc : List Rec) (s : St) (rest : List Rec → St → Prop) : Prop :=
 match nc X f s (nb + i) o with
 | some (pp, t) => bif F4 ms i (BE s (nb + i) o.op) (mU (SR X f o) s (nb + i) o.op) acc then (match pp with
  | some p => p ∧ rest ((i, BE s (nb + i) o.op, mU (SR X f o) s (nb + i) o.op) :: acc) t
  | none => rest ((i, BE s (nb + i) o.op, mU (SR X f o) s (nb + i) o.op) :: acc) t) else False
 | none => False
def AE (ms : List Nat) (i : Nat) (o : Oper) (acc : List Rec) (s : St) (rest : List Rec → St → Prop) : Prop :=
 bif F4 ms i [] [] acc then rest ((i, [], []) :: acc) (s.put o.dst (.gB [])) else False
def rL (X : Fx) (f nb : Nat) (all : List Oper) (ms : List Nat) : List (Nat × Oper) → List Rec → St → (St → Prop) → Prop
 | [], _, s, K => K s
 | (i, o) :: r, acc, s, K => (match o.guard with
  | none => S4 X f nb ms i o acc s (fun acc s => rL X f nb all ms r acc s K)
  | some (j, want) => (match mV all j with
   | some d => (match aF s.fr d with
    | .one (.lit b) => bif Bool.xor b want then AE ms i o acc s (fun acc s => rL X f nb all ms r acc s K) else S4 X f nb ms i o acc s (fun acc s => rL X f nb all ms r acc s K)
    | .one (.d .bool b) => (b = want → S4 X f nb ms i o acc (s.put (some d) (.one (.lit want))) (fun acc s => rL X f nb all ms r acc s K)) ∧
      (b = !want → AE ms i o acc (s.put (some d) (.one (.lit !want))) (fun acc s => rL X f nb all ms r acc s K))
    | .gB [] => AE ms i o acc s (fun acc s => rL X f nb all ms r acc s K)
    | _ => False)
   | none => False))

def CP (ms : List Nat) : List Edge → Nat
 | [] => 0
 | e :: r => bif Region.binds .any e then Nat.lor (Nat.lor (CP ms r) (2 ^ e.on)) (ko ms e.on) else CP ms r
def zZ : List Oper → List Nat → List Nat
 | [], ms => ms
 | o :: r, ms => zZ r (ms ++ [CP ms o.after.toList])
def pq (all : List Oper) (o : Oper) : Option Nat := match o.guard with
 | some (j, _) => mV all j
 | none => none
def rS (d : Nat) : List Operand → Bool
 | [] => false
 | .tmp t :: r => bif Nat.beq d t then true else rS d r
 | _ :: r => rS d r
def rH (d : Option Nat) (l : List Operand) : Bool := match d with
 | some d => !(rS d l)
 | none => true
def Ua (x y : Option Nat) : Bool := match x, y with
 | some a, some b => !(Nat.beq a b)
 | _, _ => true
def l7 (all : List Oper) (y x : Oper) : Bool :=
 rH y.dst (opsOf x.op) && (rH x.dst (opsOf y.op) && (rH (pq all y) (opsOf x.op) && (rH (pq all x) (opsOf y.op) &&
  (Ua y.dst x.dst && (Ua y.dst (pq all x) && Ua x.dst (pq all y))))))
def bL : Nat → List Oper → List (Nat × Oper)
 | _, [] => []
 | i, o :: r => (i, o) :: bL (i + 1) r
def xz (all : List Oper) (ms : List Nat) (j : Nat) (x : Oper) : List (Nat × Oper) → Bool
 | [] => true
 | (i, y) :: r => bif Nat.blt i j then
   (bif (bif Nat.testBit (ko ms j) i then x.after.toList.any (fun e => Region.binds .any e && (Nat.beq e.on i || (Nat.blt i e.on && Nat.testBit (ko ms e.on) i))) else l7 all y x)
    then xz all ms j x r else false)
  else true
def oh (all : List Oper) (ms : List Nat) (ns : List (Nat × Oper)) : List (Nat × Oper) → Bool
 | [] => true
 | (j, x) :: r => bif x.after.toList.all (fun e => bif Region.binds .any e then Nat.blt e.on j else true) && xz all ms j x ns then oh all ms ns r else false
def drawn (X : Fx) (f : Nat) (os : List Oper) (s : St) (K : St → Prop) : Prop :=
 match bL 0 os, zZ os [] with
 | ns, ms => bif oh os ms ns ns then rL X f s.nx os ms ns [] { s with nx := s.nx + os.length } K else False

def nH (bp : Oper → Bool) : List (Nat × Oper) → List (Nat × Oper) × Option ((Nat × Oper) × List (Nat × Oper))
 | [] => ([], none)
 | e :: r => bif bp e.2 then ([], some (e, r)) else (match nH bp r with
  | (a, b) => (e :: a, b))
def Vp (o : Oper) : Bool := match o.guard with
 | none => true
 | some _ => false
def Je (ms : List Nat) (l m : List (Nat × Oper)) (p : Nat) : Bool := l.all (fun e => Nat.testBit (ko ms p) e.1) && m.all (fun e => Nat.testBit (ko ms e.1) p)
def zO (X : Fx) (callK : Nat → Nat → List SV → St → (SV → St → Prop) → Prop) (f nb : Nat) (all : List Oper) (ms : List Nat) : Nat → List (Nat × Oper) → St → (St → Prop) → Prop
 | 0, l, s, K => rL X f nb all ms l [] s K
 | n + 1, l, s, K => (match nH (fun o => FG (X.wr f) 8000000 o.dst) l with
  | (a, some (e, b)) => bif Vp e.2 && Je ms a b e.1 then rL X f nb all ms a [] s (fun s1 => FJ X callK f s1 (nb + e.1) e.2 (fun s2 => zO X callK f nb all ms n b s2 K)) else False
  | (_, none) => rL X f nb all ms l [] s K)
def BW (X : Fx) (callK : Nat → Nat → List SV → St → (SV → St → Prop) → Prop) (f : Nat) (os : List Oper) (s : St) (K : St → Prop) : Prop :=
 match bL 0 os, zZ os [] with
 | ns, ms => bif oh os ms ns ns then zO X callK f s.nx os ms os.length ns { s with nx := s.nx + os.length } K else False

def qH (s : St) : Nat → List Nat
 | 0 => []
 | n + 1 => (match s.hp n with
  | some (.row _ _) => n :: qH s n
  | _ => qH s n)
def PJ : Code → Nat
 | .region id _ _ => id
 | .seq a b => (match a with
  | .skip => PJ b
  | .label _ => PJ b
  | _ => PJ a)
 | .block _ b => PJ b
 | .loop b => PJ b
 | .scope b => PJ b
 | _ => 1000000

def assoc : List (Nat × HE) → Nat → Option HE
 | [], _ => none
 | (k, h) :: r, n => bif Nat.beq n k then some h else assoc r n
def kP : List SV → List (Nat × SV) → List SV
 | fr, [] => fr
 | fr, (d, v) :: r => kP (jI fr d v) r
def J6 : List SV → List SV
 | [] => []
 | _ :: r => .one .any :: J6 r
def MW (v : Inv) : PV → Bool
 | .row k => (assoc v.heap k).isSome
 | .ptr k _ => (assoc v.heap k).isSome
 | .jP k => (assoc v.heap k).isSome
 | .rel k _ _ _ => (assoc v.heap k).isSome
 | .pV k _ _ _ _ _ => (assoc v.heap k).isSome
 | .any => true
 | .d _ _ => true
 | .lit _ => true
 | .aC _ => true
 | _ => false
def wV (v : Inv) : List PV → Bool
 | [] => true
 | p :: ps => bif MW v p then wV v ps else false
def w8 (v : Inv) : SV → Bool
 | .one p => MW v p
 | .agg ps => wV v ps
 | .gB [] => true
 | _ => false
def Sr (v : Inv) : List SV → List SV
 | [] => []
 | x :: r => (bif w8 v x then x else .one .any) :: Sr v r
def Inv.st (s : St) (v : Inv) : St :=
 {fr := kP (J6 s.fr) v.im, hp := assoc v.heap, us := fun n => (assoc v.heap n).isSome, nx := v.nx, bk := Sr v s.bk }

abbrev Ren := List (Nat × Nat)
def Ren.at (σ : Ren) (n : Nat) : Nat := match σ with
 | [] => n
 | (k, j) :: r => bif Nat.beq n k then j else Ren.at r n
def Ren.has (σ : Ren) (n : Nat) : Bool := match σ with
 | [] => false
 | (k, _) :: r => bif Nat.beq n k then true else Ren.has r n
def Ren.add (σ : Ren) (k j : Nat) : Ren := bif Ren.has σ k then σ else (k, j) :: σ
def VM (σ : Ren) : PV → PV → Ren
 | .row j, .row k => σ.add k j
 | .ptr j _, .ptr k _ => σ.add k j
 | .jP j, .jP k => σ.add k j
 | .pV j _ _ _ _ _, .pV k _ _ _ _ _ => σ.add k j
 | .rel j _ _ _, .rel k _ _ _ => σ.add k j
 | _, _ => σ
def Ve : Ren → List PV → List PV → Ren
 | σ, p :: ps, q :: qs => Ve (VM σ p q) ps qs
 | σ, _, _ => σ
def VU (σ : Ren) : SV → SV → Ren
 | .one p, .one q => VM σ p q
 | .agg ps, .agg qs => Ve σ ps qs
 | _, _ => σ
def Cy (s : St) : Ren → List (Nat × SV) → Ren
 | σ, [] => σ
 | σ, (d, v) :: r => Cy s (VU σ (aF s.fr d) v) r
def qw (s : St) : Ren → List (Nat × HE) → Ren
 | σ, [] => σ
 | σ, (k, .box qs) :: r => (match s.hp (σ.at k) with
  | some (.box ps) => qw s (Ve σ ps qs) r
  | _ => qw s σ r)
 | σ, (k, .jP _ qs) :: r => (match s.hp (σ.at k) with
  | some (.jP _ ps) => qw s (Ve σ ps qs) r
  | _ => qw s σ r)
 | σ, _ :: r => qw s σ r
def iC (s : St) (v : Inv) : Nat → List (Nat × SV) → St
 | _, [] => s
 | j, (d, .one (.row k)) :: r => (match aF s.fr d, assoc v.heap k with
  | .one (.aC (.slice none 0 0)), some (.row t _) => bif s.us j then iC s v (j + 1) r else iC ((s.new j (.row t [])).put (some d) (.one (.row j))) v (j + 1) r
  | _, _ => iC s v j r)
 | j, _ :: r => iC s v j r
def vh (s : St) (v : Inv) (k : Nat) (pre : List PV) (j : Nat) : List PV → List PV → St
 | p :: ps, q :: qs => (match p, q with
  | .aC (.slice none 0 0), .row n => (match assoc v.heap n with
   | some (.row t _) => bif s.us j then s else vh ((s.new j (.row t [])).fY k (.box (pre ++ (.row j :: ps)))) v k (pre ++ [.row j]) (j + 1) ps qs
   | _ => vh s v k (pre ++ [p]) j ps qs)
  | _, _ => vh s v k (pre ++ [p]) j ps qs)
 | _, _ => s
def mD (s : St) (v : Inv) : Nat → List (Nat × HE) → St
 | _, [] => s
 | j, (k, .box qs) :: r => (match s.hp k with
  | some (.box ps) => mD (vh s v k [] j ps qs) v (j + qs.length) r
  | _ => mD s v j r)
 | j, _ :: r => mD s v j r

def isNil : Value → Bool
 | .slice none 0 0 => true
 | _ => false
def yI : Value → Bool
 | .nilIface => true
 | _ => false
def IW (v : Value) : (t : Ty) → t.D → Prop
 | .sl _, y => (match isNil v with
  | true => y = []
  | false => False)
 | .err, y => (match yI v with
  | true => (y : Bool) = false
  | false => False)
 | _, _ => False
def Jt (b : Bool) : (t : Ty) → t.D → Prop
 | .bool, c => b = c
 | _, _ => False
def Sl (t : Ty) (x : t.D) (u : Ty) (y : u.D) : Prop := match lX t u x with
 | some x' => x' = y
 | none => False
def Dl (a b : Nat) : Prop := match Nat.beq a b with
 | true => True
 | false => False
def Fp (σ : Ren) (p q : PV) : Prop :=
 match q with
 | .any => (match p.agg with
  | true => False
  | false => True)
 | .row k => (match p with
  | .row j => Dl (σ.at k) j
  | _ => False)
 | .ptr k o' => (match p with
  | .ptr j o => Dl (σ.at k) j ∧ Dl o o'
  | _ => False)
 | .jP k => (match p with
  | .jP j => Dl (σ.at k) j
  | _ => False)
 | .lit c => (match p with
  | .lit b => b = c
  | _ => False)
 | .aC u => (match p with
  | .aC v => v = u
  | _ => False)
 | .d u y => (match p with
  | .d t x => Sl t x u y
  | .lit b => Jt b u y
  | .aC v => IW v u y
  | _ => False)
 | .rel k sz i j => (match p with
  | .rel k' sz' i' j' => (Dl (σ.at k) k' ∧ (Dl sz' sz ∧ Dl j' j)) ∧ i' = i
  | _ => False)
 | .pV k off n sz i j => (match p with
  | .pV k' off' n' sz' i' j' => (Dl (σ.at k) k' ∧ (Dl off' off ∧ (Dl n' n ∧ (Dl sz' sz ∧ Dl j' j)))) ∧ i' = i
  | _ => False)
 | _ => False
def xi (σ : Ren) : List PV → List PV → Prop
 | [], [] => True
 | p :: ps, q :: qs => Fp σ p q ∧ xi σ ps qs
 | _, _ => False
def GC (σ : Ren) : SV → SV → Prop
 | _, .one .any => True
 | .one p, .one q => Fp σ p q
 | .agg ps, .agg qs => xi σ ps qs
 | .one p, .agg qs => (match p.agg with
  | true => xi σ p.parts qs
  | false => False)
 | .gB [], .gB [] => True
 | _, _ => False
def Ai (kk : IntKind) (t : Ty) (kk' : IntKind) (u : Ty) (xs : List (Int × t.D)) : Option (List (Int × u.D)) := if h : kk = kk' ∧ t = u then some (h.2 ▸ xs) else none
def IH (σ : Ren) : HE → HE → Prop
 | .box ps, .box qs => xi σ ps qs
 | .jP f ps, .jP g qs => Dl f g ∧ xi σ ps qs
 | .row t xs, .row u ys => (match lX (.sl t) (.sl u) xs with
  | some xs' => xs' = ys
  | none => False)
 | .map kk t xs, .map kk' u ys => (match Ai kk t kk' u xs with
  | some xs' => xs' = ys
  | none => False)
 | _, _ => False
def y3 (σ : Ren) (s : St) : List (Nat × SV) → Prop
 | [] => True
 | (d, v) :: r => GC σ (aF s.fr d) v ∧ y3 σ s r
def BM (σ : Ren) (s : St) : List (Nat × HE) → Prop
 | [] => True
 | (k, h) :: r => (match s.hp (σ.at k) with
  | some h' => IH σ h' h
  | none => False) ∧ BM σ s r
def qX (n : Nat) : List Nat → Bool
 | [] => false
 | k :: r => bif Nat.beq n k then true else qX n r
def Lh (σ : Ren) : List (Nat × HE) → List Nat → Bool
 | [], _ => true
 | (k, _) :: r, seen => bif qX (σ.at k) seen then false else Lh σ r (σ.at k :: seen)
def qq (v : Inv) : List (Nat × SV) → List Nat → Bool
 | [], _ => true
 | (d, x) :: r, seen => bif qX d seen then false else bif w8 v x then qq v r (d :: seen) else false
def mb (v : Inv) : List (Nat × HE) → List Nat → Bool
 | [], _ => true
 | (k, .box ps) :: r, seen => bif qX k seen then false else bif wV v ps then mb v r (k :: seen) else false
 | (k, .jP _ ps) :: r, seen => bif qX k seen then false else bif wV v ps then mb v r (k :: seen) else false
 | (k, .row _ _) :: r, seen => bif qX k seen then false else mb v r (k :: seen)
 | (k, .map _ _ _) :: r, seen => bif qX k seen then false else mb v r (k :: seen)
 | (_, .pmap _ _) :: _, _ => false
def RN (σ : Ren) : List SV → List SV → Prop
 | [], [] => True
 | x :: r, y :: q => GC σ x y ∧ RN σ r q
 | _, _ => False
def tC : List SV → List SV → Bool
 | [], [] => true
 | _ :: r, _ :: q => tC r q
 | _, _ => false
def le (s : St) (v : Inv) (i : St) : Prop :=
 match mD (iC s v s.nx v.im) v (s.nx + v.im.length) v.heap with
 | s' => (match qw s' (qw s' (Cy s' [] v.im) v.heap) v.heap with
  | σ => bif tC s'.fr i.fr && Lh σ v.heap [] && qq v v.im [] && mb v v.heap [] then y3 σ s' v.im ∧ (BM σ s' v.heap ∧ (match i.bk with
   | [] => True
   | y :: q => RN σ s'.bk (y :: q))) else False)

def Ga (an : jz) (s0 s : St) (R : an.G → Prop) : Prop :=
 match an.pick s0 s with
 | some g => (an.ok s0 g ∧ R g) ∧ le s (an.inv s0 g) (Inv.st s0 (an.inv s0 g))
 | none => ∃ g, ((an.ok s0 g ∧ an.lens g) ∧ R g) ∧ le s (an.inv s0 g) (Inv.st s0 (an.inv s0 g))

def yE (s0 s : St) : List jz → Prop
 | [] => False
 | an :: r => (match r with
  | [] => Ga an s0 s (fun _ => True)
  | _ :: _ => Ga an s0 s (fun _ => True) ∨ yE s0 s r)
def zd (s0 : St) (k : St → Prop) : List jz → Prop
 | [] => True
 | an :: r => (match r with
  | [] => ∀ g, an.ok s0 g → an.lens g → k (Inv.st s0 (an.inv s0 g))
  | _ :: _ => (∀ g, an.ok s0 g → an.lens g → k (Inv.st s0 (an.inv s0 g))) ∧ zd s0 k r)

section
variable (X : Fx) (callK : Nat → Nat → List SV → St → (SV → St → Prop) → Prop) (f : Nat)

def code : Code → St → (Vf → St → Prop) → Prop
 | .skip, s, Q => Q .normal s
 | .label _, s, Q => Q .normal s
 | .region id os draw, s, Q => (bif draw then (bif X.wr f (9000000 + id) then BW X callK f os.toList s (Q .normal) else
   drawn X f os.toList (bif X.wr f (2000000 + id) then jD s (qH s s.nx) else s) (fun s => Q .normal (bif X.wr f (4000000 + id) then mq (fun i => X.wr f (7000000 + i)) s else s))) else
   ops X callK f os.toList s.nx 0 os.toList { s with nx := s.nx + os.toList.length } (fun s => Q .normal (bif X.wr f (4000000 + id) then mq (fun i => X.wr f (7000000 + i)) s else s)))
 | .seq a b, s, Q => (match X.Sq f (PJ b) with
  | [] => code a s (fun e s' => match e with
   | .normal => code b s' Q
   | .exit id => Q (.exit id) s'
   | .ret => Q .ret s')
  | an :: r => code a s (fun e s' => match e with
   | .normal => yE s s' (an :: r)
   | .exit id => Q (.exit id) s'
   | .ret => Q .ret s') ∧ zd s (fun s1 => code b s1 Q) (an :: r))
 | .cond c x y, s, Q => (match ev s c with
  | .one (.lit b) => bif b then code x s Q else code y s Q
  | .one (.d .bool b) => (match c with
   | .tmp d => (b = true → code x (s.put (some d) (.one (.lit true))) Q) ∧ (b = false → code y (s.put (some d) (.one (.lit false))) Q)
   | _ => False)
  | _ => False)
 | .block id c, s, Q => code c s (fun e s' => match e with
  | .normal => Q .normal s'
  | .exit id' => bif Nat.beq id' id then Q .normal s' else Q (.exit id') s'
  | .ret => Q .ret s')
 | .loop c, s, Q => (match X.loops f (PJ c) with
  | none => False
  | some an => Ga an s s (fun _ => True) ∧ ∀ g, an.ok s g → an.lens g → code c (Inv.st s (an.inv s g)) (fun e s' => match e with
   | .normal => Ga an s s' (fun g' => an.m s g' < an.m s g)
   | .exit id => Q (.exit id) s'
   | .ret => Q .ret s'))
 | .exit id, s, Q => Q (.exit id) s
 | .ret, s, Q => Q .ret s
 | _, _, _ => False
end

def zK (E : Env) (s : St) : ResultVar → Option SV
 | .tmp t => some (aF s.fr t)
 | .cell a t => (match E.info t, B6 s (aF s.fr a) with
  | some ti, some (ps, j) => (match Dc ps j ti.size with
   | some (_, m, _) => E3 ti.kind.agg m
   | none => none)
  | _, _ => none)
def qB (E : Env) (s : St) : List ResultVar → Option (List SV)
 | [] => some []
 | r :: rs => (match zK E s r with
  | some v => (match qB E s rs with
   | some vs => some (v :: vs)
   | none => none)
  | none => none)
def xN : List SV → Option (List (Bool × List PV))
 | [] => some []
 | .one .any :: _ => none
 | .one p :: r => (match xN r with
  | some es => some ((p.agg, [p]) :: es)
  | none => none)
 | .agg ps :: r => (match xN r with
  | some es => some ((true, ps) :: es)
  | none => none)
 | _ => none
def zu (E : Env) (s : St) (rs : List ResultVar) : Option SV :=
 match qB E s rs with
 | some [v] => some v
 | some vs => (match xN vs with
  | some es => some (.gB es)
  | none => none)
 | none => none

def pad : Nat → List SV
 | 0 => []
 | n + 1 => .one .any :: pad n
def xw : List SV → List SV → Bool
 | [], _ => true
 | _ :: r, _ :: q => xw r q
 | _, _ => false
def sS : List SV → List SV → List SV
 | _ :: r, x :: q => x :: sS r q
 | _, _ => []
def s9 : List SV → List SV → List SV
 | _ :: r, _ :: q => s9 r q
 | _, q => q
def call (X : Fx) : Nat → Nat → Nat → List SV → St → (SV → St → Prop) → Prop
 | n, k, g, args, s, K => (match X.K g with
  | some c => tx c k s args K
  | none => (match iL X g args with
  | some (c, l) => tx c k s l K
  | none => (match n with
   | 0 => False
   | n + 1 => (match X.fn g with
    | some fn => (match fn.body with
     | some c => bif Nat.ble args.length fn.ntmps then
       code X (call X n) g c { s with fr := args ++ pad (fn.ntmps - args.length), bk := s.fr ++ s.bk } (fun e s' => match e with
        | .exit _ => False
        | _ => (match zu X.E s' fn.results.toList with
         | some v => bif xw s.fr s'.bk then K v { s' with fr := sS s.fr s'.bk, bk := s9 s.fr s'.bk } else False
         | none => False)) else False
     | none => False)
    | none => False))))

def kv : (as : List Ty) → HL as → List SV
 | [], _ => []
 | t :: ts, x => .one (.d t x.1) :: kv ts x.2
def start (n : Nat) (args : List SV) : St := { fr := args ++ pad (n - args.length), hp := fun _ => none, us := fun _ => false, nx := 0, bk := [] }
def pt (s : St) : (rs : List Ty) → SV → Option (HL rs)
 | [t], v => (match tb s true t v with
  | some x => some (x, ())
  | none => none)
 | rs, .gB es => go rs es
 | _, _ => none
where
 go : (rs : List Ty) → List (Bool × List PV) → Option (HL rs)
  | [], [] => some ()
  | t :: ts, e :: es => bif Bool.xor e.1 t.agg then none else (match kU t ((hY e.2).map (PV.res s)) with
   | some x => (match go ts es with
    | some y => some (x, y)
    | none => none)
   | none => none)
  | _, _ => none
def rowOf (s : St) (t : Ty) : PV → Option (List t.D)
 | .row k => (match s.hp k with
  | some (.row u xs) => lX (.sl u) (.sl t) xs
  | _ => none)
 | .aC (.slice none 0 0) => some []
 | _ => none
def yl (p : PV) : PV → Bool
 | .row j => (match p with
  | .row k => !(Nat.beq j k)
  | _ => true)
 | .sub _ _ _ _ _ => false
 | .tu _ _ _ _ => false
 | _ => true
def qK (p : PV) : List (Bool × List PV) → Bool
 | [] => true
 | e :: r => (hY e.2).all (yl p) && qK p r
def xx (s : St) : (rs : List Ty) → SV → Option (HL rs)
 | [.sl t], .one p => (match rowOf s t p with
  | some x => some (x, ())
  | none => none)
 | .sl t :: u :: r, .gB ((false, [p]) :: es) => bif qK p es then (match rowOf s t p, pt.go s (u :: r) es with
  | some x, some y => some (x, y)
  | _, _ => none) else none
 | _, _ => none
def EH : (rs : List Ty) → HL rs → HL rs → Prop
 | [], _, _ => True
 | [_], x, y => x.1 = y.1
 | _ :: ts, x, y => x.1 = y.1 ∧ EH ts x.2 y.2
def Uo (X : Fx) (n g h : Nat) (fn : Func) (c : ah) (x : HL c.as) : Prop :=
 match fn.body with
 | some b => code X (call X n) g b (start fn.ntmps (kv c.as x ++ [.one (.aC (.func (.func h) #[] #[]))])) (fun e s' => match e with
   | .exit _ => False
   | _ => (match zu X.E s' fn.results.toList with
    | some v => (match (bif c.own then (bif kC c.rs then xx s' c.rs v else none) else pt s' c.rs v) with
     | some y => EH c.rs y (c.f x)
     | none => False)
    | none => False))
 | none => False
def vc (X : Fx) (n g : Nat) (fn : Func) (c : ah) (x : HL c.as) : Prop :=
 match fn.body with
 | some b => code X (call X n) g b (start fn.ntmps (kv c.as x)) (fun e s' => match e with
   | .exit _ => False
   | _ => (match zu X.E s' fn.results.toList with
    | some v => (match (bif c.own then (bif kC c.rs then xx s' c.rs v else none) else pt s' c.rs v) with
     | some y => EH c.rs y (c.f x)
     | none => False)
    | none => False))
 | none => False
end Go.Sx
/-
 Sx, part P: the code does what the executor says.
-/
set_option linter.unusedSimpArgs false
namespace Go.Sx
open Go.RowKit

def fq (c : Cx) : List SV → List Value → Prop
 | [], [] => True
 | s :: ss, v :: vs => aK c s v ∧ fq c ss vs
 | _, _ => False

def lC (P : Program) (g : Nat) : Prop := ∃ fn, P.funcs[g]? = some fn ∧ (fn.name == "runtime.NumGoroutine") = false ∧ fn.body.isNone = false

def j3 (P : Program) (callK : Nat → Nat → List SV → St → (SV → St → Prop) → Prop) : Prop :=
 ∀ k g args s K w0 ρ a w vs, Ok w0 ρ s a w → fq (cx w0 ρ s w) args vs.toList → callK k g args s K →
  lC P g ∧ Calls P g vs w (fun e w' => ∃ v sv s' ρ', e = .returned v ∧ Ok w0 ρ' s' a w' ∧ aK (cx w0 ρ' s' w') sv v ∧ K sv s')

section
variable {P : Program} {X : Fx} {callK : Nat → Nat → List SV → St → (SV → St → Prop) → Prop} {f : Nat} {w0 : cz} {w : World} {ρ : Nat → Value} {s s' : St} {a : Act}

theorem qZ {g : Nat} {vs : Array Value} (h : lC P g) : (callFunc g vs).run P w = .ok (.enter g vs) w := by
 obtain ⟨fn, h1, h2, h3⟩ := h
 have h2' : ¬ fn.name = "runtime.NumGoroutine" := by simpa using h2
 have h3' : ¬ fn.body = none := fun e => by rw [e] at h3; cases h3
 simp [callFunc, program, Sem.run, h1, h2', h3']

theorem sb (h : Ok w0 ρ s a w) : ∀ (xs : List Operand), fq (cx w0 ρ s w) (xs.map (ev s)) (xs.map a.eval)
 | [] => trivial
 | x :: xs => ⟨h.ev x, sb h xs⟩
theorem mA {c : Cx} : ∀ {as bs : List SV} {vs us : List Value}, fq c as vs → fq c bs us → fq c (as ++ bs) (vs ++ us)
 | [], _, [], _, _, h => h
 | _ :: _, _, _ :: _, _, h, k => ⟨h.1, mA h.2 k⟩
 | [], _, _ :: _, _, h, _ => h.elim
 | _ :: _, _, [], _, h, _ => h.elim
theorem sY {c : Cx} : ∀ {ps : List PV} {vs : List Value}, b9 c ps vs → ps.length = vs.length → (∀ p ∈ ps, p.agg = false) → fq c (ps.map SV.one) vs
 | [], vs, h, _, _ => by rw [show vs = [] from h]; trivial
 | p :: ps, vs, h, hl, hg => by
  obtain ⟨l, m, e, h1, h2⟩ := h
  have hp := hg p (by simp)
  have hsz : p.size = 1 := by
   cases p with
   | d t x => cases t <;> first | rfl | cases hp
   | _ => rfl
  have hll := h1.len
  rw [hsz] at hll
  match l, hll with
  | [v], _ =>
   subst e
   exact ⟨aK.ki hp h1, sY h2 (by simpa using hl) (fun q hq => hg q (by simp [hq]))⟩

theorem I2 {o : Oper} {g : Nat} {args : List SV} (h : Ok w0 ρ s a w) (hc : callee? s o.op = some (g, args)) :
  ∃ vs : Array Value, fq (cx w0 ρ s w) args vs.toList ∧ (lC P g → (execOp a.eval o).run P w = .ok (.enter g vs) w) := by
 cases ho : o.op with
 | call c =>
  rw [ho] at hc
  simp only [callee?] at hc
  split at hc
  ·rename_i x hx
   have hv := h.ev x
   split at hc
   ·rename_i g' fs cs hxx
    rw [hxx] at hv
    obtain ⟨h1, _⟩ := aK.bb rfl (by simp) hv
    simp only [List.cons.injEq, and_true] at h1
    cases hb : (fs.isEmpty && cs.isEmpty) with
    | false => rw [hb] at hc; cases hc
    | true =>
     rw [hb] at hc
     simp only [cond_true, Option.some.injEq, Prod.mk.injEq] at hc
     obtain ⟨rfl, rfl⟩ := hc
     simp only [Bool.and_eq_true, Array.isEmpty_iff] at hb
     obtain ⟨rfl, rfl⟩ := hb
     refine ⟨c.args.map a.eval, by simpa using sb h c.args.toList, fun hcl => ?_⟩
     have := qZ (w := w) (vs := c.args.map a.eval) hcl
     simp only [execOp, ho, resolve, hx, h1, Deferred.ofValue, Sem.run_bind, Sem.run_pure, Result.andThen_ok, invoke]
     simpa using this
   ·rename_i k hxx
    split at hc
    ·rename_i g' ps hk
     simp only [Option.some.injEq, Prod.mk.injEq] at hc
     obtain ⟨rfl, rfl⟩ := hc
     rw [hxx] at hv
     obtain ⟨_, h1, _⟩ := aK.bb rfl (by simp) hv
     simp only [List.cons.injEq, and_true] at h1
     obtain ⟨us, h2, h3, h4, h5⟩ := h.heap k _ hk
     rw [h2] at h1
     refine ⟨c.args.map a.eval ++ us, by simpa using mA (sb h c.args.toList) (sY h3 (by simpa using h4) h5), fun hcl => ?_⟩
     have := qZ (w := w) (vs := c.args.map a.eval ++ us) hcl
     simp only [execOp, ho, resolve, hx, h1, Deferred.ofValue, Sem.run_bind, Sem.run_pure, Result.andThen_ok, invoke]
     simpa using this
    ·cases hc
   ·cases hc
  ·cases hc
 | _ => rw [ho] at hc; simp [callee?] at hc

structure vR (P : Program) (X : Fx) : Prop where
 env : aY P X.E
 mixed : P.follows .mixedOrders = true

theorem Bv {E : Env} {o : Oper} {neg : Bool} {u : Ty} {xs : List u.D} {N : Act → World → Prop} (hE : aY P E) (h : Ok w0 ρ s a w) (hc : nilCmp? E s o.op = some (neg, ⟨u, xs⟩))
  (hN : ∀ b : Bool, (b = true → xs = []) → Up w0 (s.put o.dst (.one (.d .bool (bif neg then !b else b)))) N) : bD P o a w N := by
 cases ho : o.op with
 | binOp op t x y t' =>
  rw [ho] at hc
  simp only [nilCmp?] at hc
  split at hc
  ·rename_i hy
   have vy := h.ev y
   rw [hy] at vy
   obtain ⟨hy1, _⟩ := aK.bb rfl (by simp) vy
   simp only [List.cons.injEq, and_true] at hy1
   cases hT : jT E t with
   | false => rw [hT] at hc; cases hc
   | true =>
    rw [hT] at hc
    simp only [cond_true] at hc
    obtain ⟨e, hu⟩ := wy hE hT
    have key : ∀ d : (t : Ty) × List t.D, uV s (ev s x) = some d → ∃ A n c, a.eval x = .slice A n c ∧ (A.isNone = true → d.2 = []) := fun d hd => by
     obtain ⟨A, c, h1, h2, h3, h4⟩ := Bn (t := d.1) (xs := d.2) h (h.ev x) hd
     refine ⟨A, _, c, h1, fun hA => ?_⟩
     rcases Nat.eq_zero_or_pos d.2.length with h0 | h0
     ·exact List.length_eq_zero_iff.1 h0
     ·obtain ⟨b, q, e, _⟩ := h4 h0
      rw [e] at hA; cases hA
    split at hc
    ·split at hc
     ·rename_i d hd
      simp only [Option.some.injEq, Prod.mk.injEq] at hc
      obtain ⟨rfl, rfl⟩ := hc
      obtain ⟨A, n, c, h1, h2⟩ := key _ hd
      refine ae h (eQ ho) (v := .bool A.isNone) ?_ (fC A.isNone) (hN A.isNone h2)
      rw [h1, hy1]
      have hg : (eqGuard .eql t x y (.slice A n c) (.slice none 0 0)).run P w = .ok () w := by unfold eqGuard; rfl
      simp only [Sem.run_bind, hg, Result.andThen_ok, binOp, run_equal_slice_nil w t e A n c hu, Sem.run_pure]
     ·cases hc
    ·split at hc
     ·rename_i d hd
      simp only [Option.some.injEq, Prod.mk.injEq] at hc
      obtain ⟨rfl, rfl⟩ := hc
      obtain ⟨A, n, c, h1, h2⟩ := key _ hd
      refine ae h (eQ ho) (v := .bool (!A.isNone)) ?_ (fC (!A.isNone)) (hN A.isNone h2)
      rw [h1, hy1]
      have hg : (eqGuard .neq t x y (.slice A n c) (.slice none 0 0)).run P w = .ok () w := by unfold eqGuard; rfl
      simp only [Sem.run_bind, hg, Result.andThen_ok, binOp, run_equal_slice_nil w t e A n c hu, Sem.run_pure]
     ·cases hc
    ·cases hc
  ·cases hc
 | _ => rw [ho] at hc; simp [nilCmp?] at hc

theorem Et {k : Nat} {t : Ty} {xs : List t.D} (p : PV) : (p.np k t xs).agg = p.agg := by
 cases p with
 | row k' => simp only [PV.np]; cases Nat.beq k' k <;> rfl
 | _ => rfl
theorem nt (g : SV → SV) (hg : g (.one .any) = .one .any) : ∀ (l : List SV) (i : Nat), aF (l.map g) i = g (aF l i)
 | [], _ => hg.symm
 | _ :: _, 0 => rfl
 | _ :: l, i + 1 => nt g hg l i
theorem Ok.np (h : Ok w0 ρ s a w) (k : Nat) : Ok w0 ρ (s.np k) a w := by
 unfold St.np
 split
 ·rename_i t xs hk
  generalize hs' : ({ s with fr := s.fr.map (SV.np k t xs), bk := s.bk.map (SV.np k t xs), hp := fun n => bif Nat.beq n k then none else (match s.hp n with
   | some h => some (h.np k t xs)
   | none => none) } : St) = s'
  have hfr : s'.fr = s.fr.map (SV.np k t xs) := by rw [← hs']
  have hbk : s'.bk = s.bk.map (SV.np k t xs) := by rw [← hs']
  have hus : s'.us = s.us := by rw [← hs']
  have hhp : ∀ {n h'}, s'.hp n = some h' → n ≠ k ∧ ∃ h0, s.hp n = some h0 ∧ h' = h0.np k t xs := fun {n h'} hn => by
   rw [← hs'] at hn
   simp only [] at hn
   cases e : Nat.beq n k with
   | true => rw [e] at hn; cases hn
   | false =>
    rw [e] at hn
    simp only [cond_false] at hn
    refine ⟨fun e2 => (by subst e2; simp at e), ?_⟩
    split at hn
    ·rename_i h0 hh
     simp only [Option.some.injEq] at hn
     exact ⟨h0, hh, hn.symm⟩
    ·cases hn
  have hle : (cx w0 ρ s w).le (cx w0 ρ s' w) := ⟨fun n hn => by show s'.us n = true; rw [hus]; exact hn, fun _ _ => rfl, fun b hb => ⟨⟨hb.1, fun n h' hn => by
   obtain ⟨_, h0, hh, _⟩ := hhp hn
   exact hb.2.1 n h0 hh, hb.2.2⟩, rfl⟩⟩
  have hself : Rd (dE w0 ρ s'.hp w) w (.sl t) [ρ k] xs := by
   rcases h.heap k _ hk with ⟨h1, h2⟩ | ⟨b, q, cp, cur, e', h1, hh, h3, h4, h5, h6⟩
   ·subst h2
    exact ⟨none, 0, by rw [show ρ k = _ from h1]; rfl, Nat.le_refl _, by simp [maxLen], fun hp => absurd hp (by simp)⟩
   ·refine ⟨some ⟨b, q, none⟩, cp, by rw [show ρ k = _ from h1], h3, h4, fun _ => ⟨b, q, rfl, ⟨(Array.getElem?_eq_some_iff.1 hh).1, fun n h' hn => ?_, ?_⟩, fun i x hi => ⟨_, ?_, Rd.mono hle.keep (h6 i x hi)⟩⟩⟩
    ·obtain ⟨hne, h0, hn0, _⟩ := hhp hn
     exact h.apart k n _ _ b (fun e => hne e.symm) hk hn0 (by rw [show ρ k = _ from h1]; rfl)
    ·exact w0.all b (h.fresh k _ b hk (by rw [show ρ k = _ from h1]; rfl)).1
    ·intro j v hv
     have := At.of_block hh (q + i * t.size) t.size j v hv
     rw [Nat.add_assoc] at this
     exact this
  have hpv : ∀ {p l}, iD (cx w0 ρ s w) p l → iD (cx w0 ρ s' w) (p.np k t xs) l := fun {p l} hp => by
   cases p with
   | row k' =>
    simp only [PV.np]
    cases e : Nat.beq k' k with
    | false => exact iD.mono hle hp
    | true =>
     have := Nat.eq_of_beq_eq_true e
     subst this
     obtain ⟨_, h1, _⟩ := hp
     rw [h1]
     exact hself
   | _ => exact iD.mono hle hp
  have hps : ∀ {ps l}, b9 (cx w0 ρ s w) ps l → b9 (cx w0 ρ s' w) (ps.map (PV.np k t xs)) l := fun {ps} => by
   induction ps with
   | nil => intro l hp; exact hp
   | cons p ps ih => intro l hp; obtain ⟨x, y, e, h1, h2⟩ := hp; exact ⟨x, y, e, hpv h1, ih h2⟩
  have hag : ∀ {g ps v}, dW (cx w0 ρ s w) g ps v → dW (cx w0 ρ s' w) g (ps.map (PV.np k t xs)) v := fun {g ps v} hp => by
   cases g with
   | true => obtain ⟨cs, e, hp⟩ := hp; exact ⟨cs, e, hps hp⟩
   | false => exact hps hp
  have htu : ∀ {es vs}, qT (cx w0 ρ s w) es vs → qT (cx w0 ρ s' w) (es.map fun e => (e.1, e.2.map (PV.np k t xs))) vs := fun {es} => by
   induction es with
   | nil => intro vs hp; exact hp
   | cons e es ih => intro vs hp; obtain ⟨v, r, e, h1, h2⟩ := hp; exact ⟨v, r, e, hag h1, ih h2⟩
  have hone : ∀ {p : PV} {v : Value}, Gz (cx w0 ρ s w) p v → Gz (cx w0 ρ s' w) (p.np k t xs) v := fun {p v} hx => by
   by_cases hp : p = .any
   ·subst hp; trivial
   ·have hne : p.np k t xs ≠ .any := by
     cases p with
     | row k' => simp only [PV.np]; cases Nat.beq k' k <;> intro e <;> cases e
     | any => exact absurd rfl hp
     | _ => intro e; cases e
    have h1 : dW (cx w0 ρ s w) p.agg [p] v := by cases p <;> first | exact absurd rfl hp | exact hx
    have h2 : dW (cx w0 ρ s' w) p.agg [p.np k t xs] v := hag h1
    rw [← Et (k := k) (t := t) (xs := xs) p] at h2
    generalize p.np k t xs = q at h2 hne
    cases q <;> first | exact absurd rfl hne | exact h2
  have hsv : ∀ {x v}, aK (cx w0 ρ s w) x v → aK (cx w0 ρ s' w) (x.np k t xs) v := fun {x v} hx => by
   cases x with
   | one p => exact hone hx
   | agg ps => exact hag (g := true) hx
   | gB es => obtain ⟨vs, e, hx⟩ := hx; exact ⟨vs, e, htu hx⟩
   | lT b p => exact ⟨fun e => hone (hx.1 e), hx.2⟩
  exact {
      defers := h.defers, below := h.below, len := by rw [hfr, List.length_map]; exact h.len,
      frame := fun i => by rw [hfr, nt _ rfl]; exact hsv (h.frame i),
      back := fun i => by rw [hbk, nt _ rfl]; exact hsv (h.back i),
      heap := fun n h' hn => by
       obtain ⟨_, h0, hh, rfl⟩ := hhp hn
       have := h.heap n h0 hh
       cases h0 with
       | box ps => obtain ⟨b, e, cs, e1, e2, e3⟩ := this; exact ⟨b, e, cs, e1, e2, hps e3⟩
       | row u ys => exact rv.mono hle (h.used n _ hh) (fun _ _ => rfl) this
       | map kk u ys => exact rv.mono hle (h.used n _ hh) (fun _ _ => rfl) this
       | pmap kk ys => exact rv.mono hle (h.used n _ hh) (fun _ _ => rfl) this
       | jP g ps =>
        obtain ⟨vs, e1, e2, e3, e4⟩ := this
        refine ⟨vs, e1, hps e2, by rw [List.length_map]; exact e3, fun p hp => ?_⟩
        obtain ⟨q, hq, rfl⟩ := List.mem_map.1 hp
        rw [Et]; exact e4 q hq
      used := fun n h' hn => by
       obtain ⟨_, h0, hh, _⟩ := hhp hn
       rw [hus]; exact h.used n h0 hh
      fresh := fun n h' b hn hb => by
       obtain ⟨_, h0, hh, _⟩ := hhp hn
       exact h.fresh n h0 b hh hb
      apart := fun n n' h1 h2 b hne hn hn' hb => by
       obtain ⟨_, a1, b1, _⟩ := hhp hn
       obtain ⟨_, a2, b2, _⟩ := hhp hn'
       exact h.apart n n' a1 a2 b hne b1 b2 hb }
 ·exact h
theorem Ec {k : Nat} (p : PV) : (p.oL k).agg = p.agg := by
 cases p with
 | sub j k' sz a b => simp only [PV.oL]; cases Nat.beq k' k <;> rfl
 | _ => rfl
theorem Ok.oL (h : Ok w0 ρ s a w) (k : Nat) : Ok w0 ρ (s.oL k) a w := by
  generalize hs' : s.oL k = s'
  have hfr : s'.fr = s.fr.map (SV.oL k) := by rw [← hs']; rfl
  have hbk : s'.bk = s.bk.map (SV.oL k) := by rw [← hs']; rfl
  have hus : s'.us = s.us := by rw [← hs']; rfl
  have hhp : ∀ {n h'}, s'.hp n = some h' → ∃ h0, s.hp n = some h0 ∧ h' = h0.oL k := fun {n h'} hn => by
   rw [← hs'] at hn
   simp only [St.oL] at hn
   split at hn
   ·rename_i h0 hh
    simp only [Option.some.injEq] at hn
    exact ⟨h0, hh, hn.symm⟩
   ·cases hn
  have hle : (cx w0 ρ s w).le (cx w0 ρ s' w) := ⟨fun n hn => by show s'.us n = true; rw [hus]; exact hn, fun _ _ => rfl, fun b hb => ⟨⟨hb.1, fun n h' hn => by
   obtain ⟨h0, hh, _⟩ := hhp hn
   exact hb.2.1 n h0 hh, hb.2.2⟩, rfl⟩⟩
  have hpv : ∀ {p l}, iD (cx w0 ρ s w) p l → iD (cx w0 ρ s' w) (p.oL k) l := fun {p l} hp => by
   cases p with
   | sub j k' sz x y =>
    simp only [PV.oL]
    cases e : Nat.beq k' k with
    | false => exact iD.mono hle hp
    | true =>
     have hp' := iD.mono hle hp
     exact ⟨hp'.2.1, hp'.2.2.1, by have := iD.one hp'; rw [hp'.2.2.1] at this; exact this _ (by simp)⟩
   | _ => exact iD.mono hle hp
  have hps : ∀ {ps l}, b9 (cx w0 ρ s w) ps l → b9 (cx w0 ρ s' w) (ps.map (PV.oL k)) l := fun {ps} => by
   induction ps with
   | nil => intro l hp; exact hp
   | cons p ps ih => intro l hp; obtain ⟨x, y, e, h1, h2⟩ := hp; exact ⟨x, y, e, hpv h1, ih h2⟩
  have hag : ∀ {g ps v}, dW (cx w0 ρ s w) g ps v → dW (cx w0 ρ s' w) g (ps.map (PV.oL k)) v := fun {g ps v} hp => by
   cases g with
   | true => obtain ⟨cs, e, hp⟩ := hp; exact ⟨cs, e, hps hp⟩
   | false => exact hps hp
  have htu : ∀ {es vs}, qT (cx w0 ρ s w) es vs → qT (cx w0 ρ s' w) (es.map fun e => (e.1, e.2.map (PV.oL k))) vs := fun {es} => by
   induction es with
   | nil => intro vs hp; exact hp
   | cons e es ih => intro vs hp; obtain ⟨v, r, e, h1, h2⟩ := hp; exact ⟨v, r, e, hag h1, ih h2⟩
  have hone : ∀ {p : PV} {v : Value}, Gz (cx w0 ρ s w) p v → Gz (cx w0 ρ s' w) (p.oL k) v := fun {p v} hx => by
   by_cases hp : p = .any
   ·subst hp; trivial
   ·have hne : p.oL k ≠ .any := by
     cases p with
     | sub j k' sz x y => simp only [PV.oL]; cases Nat.beq k' k <;> intro e <;> cases e
     | any => exact absurd rfl hp
     | _ => intro e; cases e
    have h1 : dW (cx w0 ρ s w) p.agg [p] v := by cases p <;> first | exact absurd rfl hp | exact hx
    have h2 : dW (cx w0 ρ s' w) p.agg [p.oL k] v := hag h1
    rw [← Ec (k := k) p] at h2
    generalize p.oL k = q at h2 hne
    cases q <;> first | exact absurd rfl hne | exact h2
  have hsv : ∀ {x v}, aK (cx w0 ρ s w) x v → aK (cx w0 ρ s' w) (x.oL k) v := fun {x v} hx => by
   cases x with
   | one p => exact hone hx
   | agg ps => exact hag (g := true) hx
   | gB es => obtain ⟨vs, e, hx⟩ := hx; exact ⟨vs, e, htu hx⟩
   | lT b p => exact ⟨fun e => hone (hx.1 e), hx.2⟩
  exact {
      defers := h.defers, below := h.below, len := by rw [hfr, List.length_map]; exact h.len,
      frame := fun i => by rw [hfr, nt _ rfl]; exact hsv (h.frame i),
      back := fun i => by rw [hbk, nt _ rfl]; exact hsv (h.back i),
      heap := fun n h' hn => by
       obtain ⟨h0, hh, rfl⟩ := hhp hn
       have := h.heap n h0 hh
       cases h0 with
       | box ps => obtain ⟨b, e, cs, e1, e2, e3⟩ := this; exact ⟨b, e, cs, e1, e2, hps e3⟩
       | row u ys => exact rv.mono hle (h.used n _ hh) (fun _ _ => rfl) this
       | map kk u ys => exact rv.mono hle (h.used n _ hh) (fun _ _ => rfl) this
       | pmap kk ys => exact rv.mono hle (h.used n _ hh) (fun _ _ => rfl) this
       | jP g ps =>
        obtain ⟨vs, e1, e2, e3, e4⟩ := this
        refine ⟨vs, e1, hps e2, by rw [List.length_map]; exact e3, fun p hp => ?_⟩
        obtain ⟨q, hq, rfl⟩ := List.mem_map.1 hp
        rw [Ec]; exact e4 q hq
      used := fun n h' hn => by
       obtain ⟨h0, hh, _⟩ := hhp hn
       rw [hus]; exact h.used n h0 hh
      fresh := fun n h' b hn hb => by
       obtain ⟨h0, hh, _⟩ := hhp hn
       exact h.fresh n h0 b hh hb
      apart := fun n n' h1 h2 b hne hn hn' hb => by
       obtain ⟨a1, b1, _⟩ := hhp hn
       obtain ⟨a2, b2, _⟩ := hhp hn'
       exact h.apart n n' a1 a2 b hne b1 b2 hb }
theorem Ok.qv (h : Ok w0 ρ s a w) {k k' sz x y : Nat} {l : List Value} (hp : iD (cx w0 ρ s w) (.sub k k' sz x y) l) : Ok w0 ρ (qv s k k' sz x y) a w := by
 unfold Sx.qv
 split
 ·rename_i t xs hk
  cases hg : (Nat.beq t.size sz && Ew s k') with
  | false => exact h
  | true =>
   simp only [cond_true]
   simp only [Bool.and_eq_true] at hg
   obtain ⟨hz, hf⟩ := hg
   have hz := Nat.eq_of_beq_eq_true hz
   subst hz
   unfold Ew at hf
   simp only [Bool.and_eq_true] at hf
   have hk' : s.hp k' = none := by
    have := hf.2
    split at this
    ·rename_i e; exact e
    ·cases this
   obtain ⟨_, _, _, A, n, cp, h1, ⟨hA, hnc⟩, ⟨hxy, hyn⟩, h2⟩ := hp
   have h1 : ρ k = .slice A n cp := h1
   have h2 : ρ k' = .slice (if cp = x then A else A.map (·.add (x * t.size))) (y - x) (cp - x) := h2
   refine Ok.oL (Ok.root h hk hk' hf.1 ?_ ?_) k'
   ·rw [h1, h2]
    rcases h.heap k _ hk with ⟨h3, rfl⟩ | ⟨b, q, cp', cur, e, h3, hh, h4, h5, h6, h7⟩
    ·rw [show ρ k = _ from h3] at h1
     cases h1
     refine .inl ?_
     simp [bO]
    ·rw [show ρ k = _ from h3] at h1
     cases h1
     refine .inr ?_
     by_cases hc : cp = x
     ·rw [if_pos hc]; rfl
     ·rw [if_neg hc]; simp [bO, Addr.add_lit]
   ·intro c' hc hw hρ
    rcases h.heap k _ hk with ⟨h3, rfl⟩ | ⟨b, q, cp', cur, e, h3, hh, h4, h5, h6, h7⟩
    ·rw [show ρ k = _ from h3] at h1
     cases h1
     refine .inl ⟨?_, by simp⟩
     rw [hρ, h2]
     have : y = 0 := by omega
     subst this
     simp
    ·rw [show ρ k = _ from h3] at h1
     cases h1
     have hln : ((xs.take y).drop x).length = y - x := by rw [List.length_drop, List.length_take]; omega
     have hmul : (cp - x) * t.size + x * t.size = cp * t.size := by rw [← Nat.add_mul]; congr 1; omega
     obtain ⟨q', hq', hqv⟩ : ∃ q', (if cp = x then some (⟨b, q, none⟩ : Addr) else (some ⟨b, q, none⟩ : Option Addr).map (·.add (x * t.size))) = some ⟨b, q', none⟩ ∧
       q' + (cp - x) * t.size ≤ cur.size ∧ (x < cp → q' = q + x * t.size) := by
      by_cases e4 : cp = x
      ·exact ⟨q, by rw [if_pos e4], by rw [e4, Nat.sub_self, Nat.zero_mul]; have : q ≤ q + cp * t.size := Nat.le_add_right _ _; omega, fun hlt => by omega⟩
      ·exact ⟨q + x * t.size, by rw [if_neg e4]; simp [Addr.add_lit], by omega, fun _ => rfl⟩
     refine .inr ⟨b, q', cp - x, cur, e, by rw [hρ, h2, hq', hln], by rw [hw]; exact hh, by rw [hln]; omega, by omega, hqv.1, fun i z hi => ?_⟩
     have hx2 := getElem?_window _ _ _ _ _ hi
     have hi3 : x + i < xs.length := (List.getElem?_eq_some_iff.1 hx2).1
     rw [hqv.2 (by omega), Nat.add_assoc, ← Nat.add_mul]
     exact Rd.mono hc.keep (h7 _ _ hx2)
 ·exact h
theorem wv {s : St} {k k' sz x y : Nat} : (Sx.qv s k k' sz x y).us = s.us := by
 unfold Sx.qv
 split
 ·cases Nat.beq _ _ && Ew s k' <;> rfl
 ·rfl
theorem Ok.nP {sk : Nat → Bool} : ∀ (i : Nat) (fr : List SV) {s : St}, Ok w0 ρ s a w → (∀ k k' sz x y, .one (.sub k k' sz x y) ∈ fr → ∃ l, iD (cx w0 ρ s w) (.sub k k' sz x y) l) → Ok w0 ρ (nP sk i fr s) a w
 | _, [], _, h, _ => h
 | i, v :: r, s, h, hf => by
  have hr : ∀ j j' z u v', SV.one (.sub j j' z u v') ∈ r → ∃ l, iD (cx w0 ρ s w) (.sub j j' z u v') l := fun j j' z u v' hm => hf j j' z u v' (List.mem_cons_of_mem _ hm)
  cases v with
  | one p =>
   cases p with
   | sub k k' sz x y =>
    unfold Sx.nP
    cases sk i with
    | true => exact Ok.nP (i + 1) r h hr
    | false =>
     obtain ⟨l, hl⟩ := hf k k' sz x y (List.mem_cons_self ..)
     refine Ok.nP (i + 1) r (h.qv hl) fun j j' z u v hm => ?_
     obtain ⟨l2, hl2⟩ := hr j j' z u v hm
     exact ⟨l2, by show (Sx.qv s k k' sz x y).us j = true; rw [wv]; exact hl2.1, by show (Sx.qv s k k' sz x y).us j' = true; rw [wv]; exact hl2.2.1, hl2.2.2⟩
   | _ => exact Ok.nP (i + 1) r h hr
  | _ => exact Ok.nP (i + 1) r h hr
theorem zV : ∀ {l : List SV} {v : SV}, v ∈ l → ∃ i, aF l i = v
 | _ :: _, _, .head _ => ⟨0, rfl⟩
 | _ :: _, _, .tail _ h => by obtain ⟨i, hi⟩ := zV h; exact ⟨i + 1, hi⟩
theorem Ok.mq {sk : Nat → Bool} (h : Ok w0 ρ s a w) : Ok w0 ρ (mq sk s) a w := by
 refine Ok.nP 0 s.fr h fun k k' sz x y hm => ?_
 obtain ⟨i, hi⟩ := zV hm
 have := h.frame i
 rw [hi] at this
 exact ⟨_, aK.bb rfl (by simp) this⟩
theorem Ok.jD : ∀ (ks : List Nat) {s : St}, Ok w0 ρ s a w → Ok w0 ρ (jD s ks) a w
 | [], _, h => h
 | k :: r, _, h => Ok.jD r (h.np k)
theorem Ok.pre {X : Fx} {f : Nat} {o : Oper} (h : Ok w0 ρ s a w) : Ok w0 ρ (pre X f s o) a w := by
 unfold Sx.pre
 split
 ·split
  ·rename_i c _
   cases (bif c.own then !(ng c.rs) else !(c.rs.all lS)) with
   | true => exact Ok.jD _ h
   | false => exact h
  ·exact h
 ·split
  ·rename_i x _ _ _ d _ _
   cases X.wr f _ with
   | true => exact Ok.jD _ h
   | false => exact h
  ·exact h
theorem oC {o : Oper} {k : Nat} {K : St → Prop} {N : Act → World → Prop} {Q : Exit → Act → World → Prop} (hX : vR P X) (hcall : j3 P callK) (h : Ok w0 ρ s a w)
  (ho : FJ X callK f s k o K) (hN : ∀ ρ' s' a' w', Ok w0 ρ' s' a' w' → K s' → N a' w') : o.wp P a w N Q := by
 unfold FJ at ho
 have h := h.pre (X := X) (f := f) (o := o)
 generalize pre X f s o = s at h ho
 unfold Ss at ho
 split at ho
 ·rename_i g args hc
  obtain ⟨vs, hargs, hrun⟩ := I2 (P := P) h hc
  obtain ⟨hcl, hcalls⟩ := hcall _ g args s _ w0 ρ a w vs h hargs ho
  unfold Oper.wp
  rw [hrun hcl, Oper.upon_enter]
  refine hcalls.mono fun e w' he => ?_
  obtain ⟨v, sv, s', ρ', rfl, hok, hsv, hK⟩ := he
  exact hN ρ' _ _ _ (hok.put o.dst hsv) hK
 ·split at ho
  ·rename_i p s' hs
   exact (z7 (R := N) hX.env h hs ho.1 (fun ρ' a' w' hok => hN ρ' s' a' w' hok ho.2)).wp
  ·rename_i s' hs
   exact (z7 (R := N) hX.env h hs trivial (fun ρ' a' w' hok => hN ρ' s' a' w' hok ho)).wp
  ·split at ho
   ·rename_i neg u xs hc
    exact (Bv (N := N) hX.env h hc (fun b hb ρ' a' w' hok => hN ρ' _ a' w' hok (ho b hb))).wp
   ·split at ho
    ·rename_i i es z hc
     refine (Ce (N := N) hX.env h hc ?_).wp
     clear hc
     induction es with
     | nil => exact fun ρ' a' w' hok => hN ρ' _ a' w' hok ho
     | cons e r ih => exact ⟨fun hk ρ' a' w' hok => hN ρ' _ a' w' hok (ho.1 hk), fun hk => ih (ho.2 hk)⟩
    ·exact ho.elim

theorem wE : ∀ (all : List Oper) (j : Nat), mV all j = (all[j]?).bind (·.dst)
 | [], _ => by simp [mV]
 | o :: r, 0 => by simp [mV]
 | o :: r, j + 1 => by simpa [mV] using wE r j

theorem jV {all : List Oper} {j d : Nat} {b : Bool} (hd : mV all j = some d) (hv : a.tmps.getD d undef = .bool b) : yielded all.toArray a.tmps j = some b := by
 rw [wE] at hd
 have hd' : (all.toArray[j]?).bind (·.dst) = some d := by simpa using hd
 unfold yielded
 rw [hd']
 have hlt : d < a.tmps.size := by
  rcases Nat.lt_or_ge d a.tmps.size with h | h
  ·exact h
  ·rw [Array.getD, dif_neg (by omega)] at hv; cases hv
 have : a.tmps[d]? = some (.bool b) := by
  rw [Array.getElem?_eq_getElem hlt]
  simpa [Array.getD, hlt] using hv
 simp [this]
theorem pZ {all : List Oper} {j d : Nat} (hd : mV all j = some d) (hv : a.tmps.getD d undef = undef) : yielded all.toArray a.tmps j = none := by
 rw [wE] at hd
 have hd' : (all.toArray[j]?).bind (·.dst) = some d := by simpa using hd
 unfold yielded
 rw [hd']
 simp only [Option.bind_some]
 rcases Nat.lt_or_ge d a.tmps.size with hlt | h
 ·rw [Array.getElem?_eq_getElem hlt]
  have : a.tmps[d] = undef := by simpa [Array.getD, hlt] using hv
  rw [this]; rfl
 ·rw [Array.getElem?_eq_none h]

theorem vK {c : Cx} : aK c (.gB []) undef := ⟨#[], rfl, rfl⟩

theorem Ok.tell (h : Ok w0 ρ s a w) (d : Nat) {v : SV} (hv : aK (cx w0 ρ s w) v (a.tmps.getD d undef)) : Ok w0 ρ (s.put (some d) v) a w := by
 refine { h with len := ?_, frame := ?_ }
 ·simp [St.put, dF, h.len]
 ·intro i
  show aK (cx w0 ρ s w) (aF (jI s.fr d v) i) (a.tmps.getD i undef)
  by_cases e : d = i
  ·subst e
   rw [gk]
   by_cases hd : d < s.fr.length
   ·rw [if_pos hd]; exact hv
   ·rw [if_neg hd]; trivial
  ·rw [gw _ _ _ _ e]; exact h.frame i

end
end Go.Sx
/-
 Sx, part T: a region that draws its order: all its orders SC to the same.
-/
namespace Go.Sx

theorem xl : ∀ (l : List SV) (n : Nat) (v : SV), aF l n = v → v ≠ .one .any → jI l n v = l
 | [], _, _, _, _ => rfl
 | _ :: _, 0, _, h, _ => by subst h; rfl
 | x :: xs, n + 1, v, h, hv => by simp [jI, xl xs n v h hv]
theorem Bb : ∀ {l m : List SV}, l.length = m.length → (∀ i, aF l i = aF m i) → l = m
 | [], [], _, _ => rfl
 | x :: l, y :: m, h, he => by
  have h0 := he 0
  have hr := Bb (l := l) (m := m) (by simpa using h) (fun i => he (i + 1))
  rw [show x = y from h0, hr]
 | [], _ :: _, h, _ => by cases h
 | _ :: _, [], h, _ => by cases h
theorem gV (l : List SV) (n : Nat) (v : SV) (i : Nat) : aF (jI l n v) i = if n = i ∧ i < l.length then v else aF l i := by
 by_cases e : n = i
 ·subst e
  rw [gk]
  by_cases h : n < l.length
  ·simp [h]
  ·have : aF l n = .one .any := by
    clear v
    induction l generalizing n with
    | nil => rfl
    | cons x l ih =>
     cases n with
     | zero => simp at h
     | succ n => exact ih n (by simpa using h)
   simp [h, this]
 ·rw [gw _ _ _ _ e]; simp [e]

def gd (all : List Oper) (o : Oper) (s : St) : Option (Bool × St) :=
 match o.guard with
 | none => some (true, s)
 | some (j, want) => (match mV all j with
  | some d => (match aF s.fr d with
   | .one (.lit b) => some (b == want, s.put (some d) (.one (.lit b)))
   | .one (.d .bool b) => some (b == want, s.put (some d) (.one (.lit b)))
   | .gB [] => some (false, s)
   | _ => none)
  | none => none)
def mX (X : Fx) (f nb : Nat) (all : List Oper) (i : Nat) (o : Oper) (s : St) : Option (Option Prop × St × List Nat × List Nat) :=
 match gd all o s with
 | some (true, s1) => (match nc X f s1 (nb + i) o with
  | some (p, t) => some (p, t, BE s1 (nb + i) o.op, mU (SR X f o) s1 (nb + i) o.op)
  | none => none)
 | some (false, s1) => some (none, s1.put o.dst (.gB []), [], [])
 | none => none
def iT (X : Fx) (f nb : Nat) (all : List Oper) (ms : List Nat) : List (Nat × Oper) → List Rec → St → (St → Prop) → Prop
 | [], _, s, K => K s
 | (i, o) :: r, acc, s, K => ∃ p t F W, mX X f nb all i o s = some (p, t, F, W) ∧ F4 ms i F W acc = true ∧ l6 p ∧ iT X f nb all ms r ((i, F, W) :: acc) t K

section
variable {X : Fx} {f nb : Nat} {all : List Oper} {ms : List Nat}

theorem wB {i : Nat} {o : Oper} {acc : List Rec} {s s1 : St} {rest : List Rec → St → Prop} (hg : gd all o s = some (true, s1)) (h : S4 X f nb ms i o acc s1 rest) :
  ∃ p t F W, mX X f nb all i o s = some (p, t, F, W) ∧ F4 ms i F W acc = true ∧ l6 p ∧ rest ((i, F, W) :: acc) t := by
 unfold S4 at h
 split at h
 ·rename_i pp t hs
  cases hc : F4 ms i (BE s1 (nb + i) o.op) (mU (SR X f o) s1 (nb + i) o.op) acc with
  | false => rw [hc] at h; exact h.elim
  | true =>
   rw [hc] at h
   simp only [cond_true] at h
   refine ⟨pp, t, _, _, by simp only [mX, hg, hs], hc, ?_⟩
   cases pp with
   | none => exact ⟨trivial, h⟩
   | some p => exact h
 ·exact h.elim
theorem p3 {i : Nat} {o : Oper} {acc : List Rec} {s s1 : St} {rest : List Rec → St → Prop} (hg : gd all o s = some (false, s1)) (h : AE ms i o acc s1 rest) :
  ∃ p t F W, mX X f nb all i o s = some (p, t, F, W) ∧ F4 ms i F W acc = true ∧ l6 p ∧ rest ((i, F, W) :: acc) t := by
 unfold AE at h
 cases hc : F4 ms i [] [] acc with
 | false => rw [hc] at h; exact h.elim
 | true =>
  rw [hc] at h
  exact ⟨none, _, _, _, by simp only [mX, hg], hc, trivial, h⟩

theorem G1 {s : St} {d : Nat} {b : Bool} (h : aF s.fr d = .one (.lit b)) : s.put (some d) (.one (.lit b)) = s := by
 show ({ s with fr := jI s.fr d (.one (.lit b)) } : St) = s
 rw [xl _ _ _ h (by simp)]

theorem uX : ∀ (r : List (Nat × Oper)) (acc : List Rec) (s : St) {K : St → Prop}, rL X f nb all ms r acc s K → iT X f nb all ms r acc s K
 | [], _, _, _, h => h
 | (i, o) :: r, acc, s, K, h => by
  unfold rL at h
  unfold iT
  have fin : (∃ p t F W, mX X f nb all i o s = some (p, t, F, W) ∧ F4 ms i F W acc = true ∧ l6 p ∧ rL X f nb all ms r ((i, F, W) :: acc) t K) →
    ∃ p t F W, mX X f nb all i o s = some (p, t, F, W) ∧ F4 ms i F W acc = true ∧ l6 p ∧ iT X f nb all ms r ((i, F, W) :: acc) t K :=
   fun ⟨p, t, F, W, h1, h2, h3, h4⟩ => ⟨p, t, F, W, h1, h2, h3, uX r _ _ h4⟩
  refine fin ?_
  split at h
  ·rename_i hg
   exact wB (by simp only [gd, hg]) h
  ·rename_i j want hg
   split at h
   ·rename_i d hd
    split at h
    ·rename_i b hb
     have hgd : gd all o s = some (b == want, s) := by simp only [gd, hg, hd, hb, G1 hb]
     cases hx : Bool.xor b want with
     | true =>
      rw [hx] at h
      simp only [cond_true] at h
      exact p3 (by rw [hgd]; cases b <;> cases want <;> first | rfl | cases hx) h
     | false =>
      rw [hx] at h
      simp only [cond_false] at h
      exact wB (by rw [hgd]; cases b <;> cases want <;> first | rfl | cases hx) h
    ·rename_i b hb
     have hgd : gd all o s = some (b == want, s.put (some d) (.one (.lit b))) := by simp only [gd, hg, hd, hb]
     by_cases e : b = want
     ·exact wB (s1 := s.put (some d) (.one (.lit want))) (by rw [hgd, e]; simp) (h.1 e)
     ·have e' : b = !want := by cases b <;> cases want <;> first | rfl | exact absurd rfl e
      exact p3 (s1 := s.put (some d) (.one (.lit !want))) (by rw [hgd, e']; cases want <;> rfl) (h.2 e')
    ·rename_i hb
     exact p3 (by simp only [gd, hg, hd, hb]) h
    ·exact h.elim
   ·exact h.elim

theorem Cw {L L' : List (Nat × Oper)} {i : Nat} {o : Oper} {acc : List Rec} {s : St} {K : St → Prop} (hL : ∀ acc s, iT X f nb all ms L acc s K → iT X f nb all ms L' acc s K)
  (h : iT X f nb all ms ((i, o) :: L) acc s K) : iT X f nb all ms ((i, o) :: L') acc s K := by
 obtain ⟨p, t, F, W, h1, h2, h3, h4⟩ := h
 exact ⟨p, t, F, W, h1, h2, h3, hL _ _ h4⟩

theorem mO {i : Nat} {F W : List Nat} : ∀ {acc : List Rec}, F4 ms i F W acc = true ↔ ∀ e ∈ acc, (ord ms i e.1 || (mw e.2.2 F && (mw W e.2.1 && mw W e.2.2))) = true
 | [] => by simp [F4]
 | (j, F', W') :: r => by
  unfold F4
  cases hb : (ord ms i j || (mw W' F && (mw W F' && mw W W'))) with
  | false =>
   refine ⟨fun h => (by cases h), fun h => ?_⟩
   have := h _ (List.mem_cons_self ..)
   rw [hb] at this; cases this
  | true => simp only [cond_true, List.forall_mem_cons, hb, true_and]; exact mO
theorem xW : ∀ {r : List (Nat × Oper)} {acc acc' : List Rec} {s : St} {K : St → Prop}, (∀ e, e ∈ acc ↔ e ∈ acc') → iT X f nb all ms r acc s K → iT X f nb all ms r acc' s K
 | [], _, _, _, _, _, h => h
 | (i, o) :: r, acc, acc', s, K, ha, h => by
  obtain ⟨p, t, F, W, h1, h2, h3, h4⟩ := h
  refine ⟨p, t, F, W, h1, mO.2 fun e he => mO.1 h2 e ((ha e).2 he), h3, xW (fun e => ?_) h4⟩
  simp [ha e]
theorem rF {n : Nat} : ∀ {l : List Nat}, mw.memN' n l = true ↔ n ∈ l
 | [] => by simp [mw.memN']
 | k :: r => by
  unfold mw.memN'
  cases hb : Nat.beq n k with
  | true => simp [Nat.eq_of_beq_eq_true hb]
  | false => simp only [cond_false, List.mem_cons, rF, Nat.ne_of_beq_eq_false hb, false_or]
theorem lW {b : List Nat} : ∀ {a : List Nat}, mw a b = true ↔ ∀ n ∈ a, n ∉ b
 | [] => by simp [mw]
 | n :: r => by
  unfold mw
  cases hb : mw.memN' n b with
  | true => simp [rF.1 hb]
  | false =>
   have : n ∉ b := fun h => by rw [rF.2 h] at hb; cases hb
   simp only [cond_false, List.forall_mem_cons, this, not_false_eq_true, true_and]; exact lW
theorem rR {a b : List Nat} (h : mw a b = true) : mw b a = true := lW.2 fun n hn hm => lW.1 h n hm hn

section
variable {s s' : St}
theorem EC {q : PV} (h : ∀ n ∈ q.names, s'.hp n = s.hp n) : PV.res s' q = PV.res s q := by
 cases q with
 | row k => simp [PV.names] at h; simp [PV.res, h]
 | sub k k' sz a b => simp only [PV.res]; rw [fS (x := .one (.sub k k' sz a b)) h]
 | tu k off n sz => simp only [PV.res]; rw [fS (x := .one (.tu k off n sz)) h]
 | _ => rfl
theorem ta : ∀ {ps : List PV}, (∀ n ∈ cf ps, s'.hp n = s.hp n) → ps.map (PV.res s') = ps.map (PV.res s)
 | [], _ => rfl
 | q :: ps, h => by
  simp only [List.map_cons]
  rw [EC fun n hn => h n (List.mem_append_left _ hn), ta fun n hn => h n (List.mem_append_right _ hn)]
theorem kH : ∀ {t : Ty} {x : t.D}, cf (cn t x) = []
 | .int _, _ => rfl
 | .bool, _ => rfl
 | .str, _ => rfl
 | .sl _, _ => rfl
 | .arr _ _, _ => rfl
 | .pair a b, x => by
  have happ : ∀ (u v : List PV), cf (u ++ v) = cf u ++ cf v := fun u v => by
   induction u with
   | nil => rfl
   | cons q u ih => simp [cf, ih]
  show cf (cn a x.1 ++ cn b x.2) = []
  rw [happ, kH, kH]; rfl
 | .err, _ => rfl
theorem nA : ∀ (u v : List PV), cf (u ++ v) = cf u ++ cf v
 | [], _ => rfl
 | q :: u, v => by simp [cf, nA u v]
theorem sO (q : PV) : cf q.parts = q.names := by
 cases q with
 | d t x => exact kH
 | _ => simp [PV.parts, cf, PV.names]
theorem pk : ∀ ps : List PV, cf (hY ps) = cf ps
 | [] => rfl
 | q :: ps => by simp [hY, cf, nA, sO, pk ps]
theorem wY {v : SV} {ps : List PV} (h : v.parts = some ps) : cf ps = v.names := by
 cases v with
 | one q =>
  have : q.parts = ps := by cases q <;> first | (injection h) | cases h
  rw [← this, sO]; rfl
 | agg qs => injection h with h; rw [← h, pk]; rfl
 | gB es => cases h
 | lT b p => cases h
theorem AD {bor : Bool} {t : Ty} {v : SV} (h : ∀ n ∈ v.names, s'.hp n = s.hp n) : tb s' bor t v = tb s bor t v := by
 unfold tb
 cases hp : v.parts with
 | none => rfl
 | some ps =>
  have := ta (s := s) (s' := s') (ps := ps) (by rw [wY hp]; exact h)
  cases bor with
  | true => simp only [cond_true, this]
  | false => rfl
theorem mF {bor : Bool} : ∀ {ts : List Ty} {vs : List SV}, (∀ v ∈ vs, ∀ n ∈ v.names, s'.hp n = s.hp n) → gv s' bor ts vs = gv s bor ts vs
 | [], [], _ => rfl
 | t :: ts, v :: vs, h => by
  unfold gv
  rw [AD (h v (by simp)), mF fun u hu => h u (by simp [hu])]
 | [], _ :: _, _ => rfl
 | _ :: _, [], _ => rfl
theorem vT {c : ah} {k : Nat} {args : List SV} {d : Option Nat} {W : List Nat} {p : Option Prop} {u : St} (h : ∀ v ∈ args, ∀ n ∈ v.names, s'.hp n = s.hp n) (hu : s'.us k = s.us k) (hkW : k ∈ W)
  (hc : zt c k s args d = some (p, u)) : Fr s s' d W (zt c k s' args d) p u := by
 unfold zt at hc ⊢
 rw [mF h, mF h, hu]
 cases ho : c.own with
 | true =>
  rw [ho] at hc
  simp only [cond_true] at hc ⊢
  cases hg : kC c.rs && !(s.us k) with
  | false => rw [hg] at hc; cases hc
  | true =>
   rw [hg] at hc
   simp only [cond_true] at hc ⊢
   cases hfl : ng c.rs with
   | true =>
    rw [hfl] at hc
    simp only [cond_true] at hc ⊢
    split at hc
    ·split at hc
     ·cases hc; (try simp only [*]); exact Fr.new hkW
     ·cases hc
    ·cases hc
   | false =>
    rw [hfl] at hc
    simp only [cond_false] at hc ⊢
    split at hc
    ·split at hc
     ·split at hc
      ·cases hc; (try simp only [*]); exact Fr.new hkW
      ·cases hc
     ·cases hc
    ·cases hc
 | false =>
 rw [ho] at hc
 simp only [cond_false] at hc ⊢
 cases hn : c.rs.all lS with
 | true =>
  rw [hn] at hc
  simp only [cond_true] at hc ⊢
  split at hc
  ·cases hc; exact Fr.bE
  ·cases hc
 | false =>
  rw [hn] at hc
  simp only [cond_false] at hc ⊢
  split at hc
  ·split at hc
   ·cases hc; exact Fr.bE
   ·cases hc
  ·cases hc
end

theorem xo : ∀ {args l : List SV} {h : Nat}, s3 args = some (h, l) → ∀ v ∈ l, v ∈ args
 | [], _, _, e => by cases e
 | [x], l, h, e => by
  unfold s3 at e
  simp only [] at e
  split at e
  ·rename_i h' fs cs
   cases hb : (fs.isEmpty && cs.isEmpty) with
   | false => rw [hb] at e; cases e
   | true => rw [hb] at e; cases e; exact fun v hv => by cases hv
  ·cases e
 | x :: y :: r, l, h, e => by
  unfold s3 at e
  simp only [] at e
  split at e
  ·rename_i h' l' e'
   cases e
   intro v hv
   rcases List.mem_cons.1 hv with rfl | hv
   ·exact List.mem_cons_self ..
   ·exact List.mem_cons_of_mem _ (xo e' v hv)
  ·cases e
theorem Cm {X : Fx} {g : Nat} {args l : List SV} {c : ah} (h : iL X g args = some (c, l)) : ∀ v ∈ l, v ∈ args := by
 unfold iL at h
 split at h
 ·rename_i h' l' e
  split at h
  ·cases h; exact xo e
  ·cases h
 ·cases h
theorem Ar {s s' u : St} {k : Nat} {o : Oper} {p : Option Prop} (hev : ∀ x ∈ opsOf o.op, ev s' x = ev s x) (hn : ∀ n ∈ BE s k o.op, s'.hp n = s.hp n ∧ s'.us n = s.us n)
  (h : nc X f s k o = some (p, u)) : Fr s s' o.dst (mU (SR X f o) s k o.op) (nc X f s' k o) p u := by
 have hcal : eB s' o.op = eB s o.op := by
  cases ho : o.op with
  | call c =>
   rw [ho] at hev
   simp only [eB]
   cases hcc : c.callee with
   | value x =>
    simp only [opsOf, hcc] at hev
    have e : c.args.toList.map (ev s') = c.args.toList.map (ev s) := List.map_congr_left fun q hq => hev q (List.mem_cons_of_mem _ hq)
    simp only [hev x (by simp), e]
   | _ => rfl
  | _ => rfl
 unfold nc at h ⊢
 rw [hcal]
 cases hc : eB s o.op with
 | none =>
  rw [hc] at h
  simp only [] at h ⊢
  cases hf : Dj X f o with
  | true => rw [hf] at h; cases h
  | false => rw [hf] at h; exact xT hev hn h
 | some ga =>
  obtain ⟨g, args⟩ := ga
  rw [hc] at h
  obtain ⟨c, x, ho, hcc, hargs, _⟩ := fZ hc
  rw [ho] at hn ⊢
  simp only [] at h ⊢
  split at h
  ·rename_i ct hct
   refine vT (fun v hv n hnn => ?_) (hn k (by simp [BE])).2 (by simp [mU, hcc]) h
   rw [hargs] at hv
   obtain ⟨y, hy, rfl⟩ := List.mem_map.1 hv
   exact (hn n (List.mem_cons_of_mem _ (iz (x := y) (by simp only [opsOf, hcc]; exact List.mem_cons_of_mem _ hy) hnn))).1
  ·split at h
   ·rename_i ct l hsp
    refine vT (fun v hv n hnn => ?_) (hn k (by simp [BE])).2 (by simp [mU, hcc]) h
    have hv := Cm hsp v hv
    rw [hargs] at hv
    obtain ⟨y, hy, rfl⟩ := List.mem_map.1 hv
    exact (hn n (List.mem_cons_of_mem _ (iz (x := y) (by simp only [opsOf, hcc]; exact List.mem_cons_of_mem _ hy) hnn))).1
   ·cases h

theorem kM {s s' : St} : ∀ {l : List Operand}, (∀ x ∈ l, ev s' x = ev s x) → ia s' l = ia s l
 | [], _ => rfl
 | x :: l, h => by unfold ia; rw [h x (by simp), kM fun y hy => h y (by simp [hy])]
theorem EP {s s' : St} {k : Nat} {o : Op} (h : ∀ x ∈ opsOf o, ev s' x = ev s x) : BE s' k o = BE s k o := by
 unfold BE
 congr 1
 cases o with
 | indexAddr t x i => simp only [Vc]; rw [h x (by simp [opsOf])]
 | fieldAddr t x i => rfl
 | move x => rfl
 | assign x => rfl
 | nilCheck x => rfl
 | _ => exact kM h
theorem Fw {lz : Bool} {s s' : St} {k : Nat} {o : Op} (h : ∀ x ∈ opsOf o, ev s' x = ev s x) : mU lz s' k o = mU lz s k o := by
 cases o with
 | store t x y => simp only [mU]; rw [h x (by simp [opsOf])]
 | slice t x lo hi mx => simp only [mU]; rw [h x (by simp [opsOf])]
 | buildSlice t n ps => simp only [mU]; rw [kM (fun x hx => h x (by simpa [opsOf] using hx))]
 | insert t x y z => simp only [mU]; rw [h x (by simp [opsOf])]
 | mapUpdate t x y z => simp only [mU]; rw [h x (by simp [opsOf])]
 | call c =>
  cases hc : c.callee with
  | builtin b =>
   cases b with
   | append =>
    simp only [mU, hc]
    simp only [opsOf, hc] at h
    revert h
    generalize c.args.toList = l
    intro h
    cases l with
    | nil => rfl
    | cons x l => simp only []; rw [h x (by simp)]
   | clear =>
    simp only [mU, hc]
    simp only [opsOf, hc] at h
    revert h
    generalize c.args.toList = l
    intro h
    cases l with
    | nil => rfl
    | cons x l => simp only []; rw [h x (by simp)]
   | delete =>
    simp only [mU, hc]
    simp only [opsOf, hc] at h
    revert h
    generalize c.args.toList = l
    intro h
    cases l with
    | nil => rfl
    | cons x l => simp only []; rw [h x (by simp)]
   | _ => simp only [mU, hc]
  | _ => simp only [mU, hc]
 | _ => rfl

def zB : SV → Option (Option Bool)
 | .one (.lit b) => some (some b)
 | .one (.d .bool b) => some (some b)
 | .gB [] => some none
 | _ => none
def fW (g : Option (Nat × Bool)) (s : St) : St := match g with
 | none => s
 | some (d, b) => s.put (some d) (.one (.lit b))

theorem DR {o : Oper} {s s1 : St} {b : Bool} (h : gd all o s = some (b, s1)) :
  ∃ g, s1 = fW g s ∧ (∀ dg c, g = some (dg, c) → pq all o = some dg ∧ zB (aF s.fr dg) = some (some c)) ∧
   ∀ s', (∀ d, pq all o = some d → zB (aF s'.fr d) = zB (aF s.fr d)) → gd all o s' = some (b, fW g s') := by
 unfold gd at h
 split at h
 ·rename_i hg
  cases h
  exact ⟨none, rfl, fun _ _ h => (by cases h), fun s' _ => by simp only [gd, hg]; rfl⟩
 ·rename_i j want hg
  split at h
  ·rename_i d hd
   have hs : pq all o = some d := by simp only [pq, hg, hd]
   split at h
   ·rename_i c hc
    cases h
    refine ⟨some (d, c), rfl, fun dg c' e => by cases e; exact ⟨hs, by rw [hc]; rfl⟩, fun s' ha => ?_⟩
    have := ha d hs
    rw [hc] at this
    simp only [gd, hg, hd]
    split
    ·rename_i b' hb'
     rw [hb'] at this
     cases this; rfl
    ·rename_i b' hb'
     rw [hb'] at this
     cases this; rfl
    ·rename_i hb'
     rw [hb'] at this
     cases this
    ·rename_i n1 n2 n3
     exfalso
     revert this
     cases hx : aF s'.fr d with
     | one q =>
      cases q with
      | lit z => exact absurd hx (n1 z)
      | d t z =>
       cases t with
       | bool => exact absurd hx (n2 z)
       | _ => intro h; cases h
      | _ => intro h; cases h
     | agg ps => intro h; cases h
     | gB es => cases es with
      | nil => exact absurd hx n3
      | cons _ _ => intro h; cases h
     | lT _ _ => intro h; cases h
   ·rename_i c hc
    cases h
    refine ⟨some (d, c), rfl, fun dg c' e => by cases e; exact ⟨hs, by rw [hc]; rfl⟩, fun s' ha => ?_⟩
    have := ha d hs
    rw [hc] at this
    simp only [gd, hg, hd]
    split
    ·rename_i b' hb'
     rw [hb'] at this
     cases this; rfl
    ·rename_i b' hb'
     rw [hb'] at this
     cases this; rfl
    ·rename_i hb'
     rw [hb'] at this
     cases this
    ·rename_i n1 n2 n3
     exfalso
     revert this
     cases hx : aF s'.fr d with
     | one q =>
      cases q with
      | lit z => exact absurd hx (n1 z)
      | d t z =>
       cases t with
       | bool => exact absurd hx (n2 z)
       | _ => intro h; cases h
      | _ => intro h; cases h
     | agg ps => intro h; cases h
     | gB es => cases es with
      | nil => exact absurd hx n3
      | cons _ _ => intro h; cases h
     | lT _ _ => intro h; cases h
   ·rename_i hc
    cases h
    refine ⟨none, rfl, fun _ _ h => (by cases h), fun s' ha => ?_⟩
    have := ha d hs
    rw [hc] at this
    simp only [gd, hg, hd]
    split
    ·rename_i b' hb'
     rw [hb'] at this
     cases this
    ·rename_i b' hb'
     rw [hb'] at this
     cases this
    ·rfl
    ·rename_i n1 n2 n3
     exfalso
     revert this
     cases hx : aF s'.fr d with
     | one q =>
      cases q with
      | lit z => exact absurd hx (n1 z)
      | d t z =>
       cases t with
       | bool => exact absurd hx (n2 z)
       | _ => intro h; cases h
      | _ => intro h; cases h
     | agg ps => intro h; cases h
     | gB es => cases es with
      | nil => exact absurd hx n3
      | cons _ _ => intro h; cases h
     | lT _ _ => intro h; cases h
   ·cases h
  ·cases h

theorem Ed (g : Option (Nat × Bool)) (s : St) : (fW g s).hp = s.hp := by cases g <;> rfl
theorem DI (g : Option (Nat × Bool)) (s : St) : (fW g s).us = s.us := by cases g <;> rfl
theorem vY (g : Option (Nat × Bool)) (s : St) : (fW g s).fr.length = s.fr.length := by
 cases g with
 | none => rfl
 | some dc => exact dF _ _ _
theorem NC {g : Option (Nat × Bool)} {s s' : St} (hl : s'.fr.length = s.fr.length) {x : Operand} (h : ev s' x = ev s x) : ev (fW g s') x = ev (fW g s) x := by
 cases g with
 | none => exact h
 | some dc =>
  cases x with
  | tmp t =>
   show aF (jI s'.fr dc.1 _) t = aF (jI s.fr dc.1 _) t
   rw [gV, gV, hl, show aF s'.fr t = aF s.fr t from h]
  | _ => rfl

theorem nr {i : Nat} {o : Oper} {s s' t : St} {p : Option Prop} {F W : List Nat} (hlen : s'.fr.length = s.fr.length) (hev : ∀ x ∈ opsOf o.op, ev s' x = ev s x)
  (hg : ∀ d, pq all o = some d → zB (aF s'.fr d) = zB (aF s.fr d)) (hn : ∀ n ∈ F, s'.hp n = s.hp n ∧ s'.us n = s.us n) (h : mX X f nb all i o s = some (p, t, F, W)) :
  ∃ g v hs un, t = ap o.dst v hs un (fW g s) ∧ mX X f nb all i o s' = some (p, ap o.dst v hs un (fW g s'), F, W) ∧ (∀ e ∈ hs, e.1 ∈ W) ∧ (∀ n ∈ un, n ∈ W) ∧
   ∀ dg c, g = some (dg, c) → pq all o = some dg ∧ zB (aF s.fr dg) = some (some c) := by
 unfold mX at h ⊢
 split at h
 ·rename_i s1 hgd
  obtain ⟨g, rfl, h2, h3⟩ := DR hgd
  rw [h3 s' hg]
  split at h
  ·rename_i pp tt hst
   cases h
   have hev' : ∀ x ∈ opsOf o.op, ev (fW g s') x = ev (fW g s) x := fun x hx => NC hlen (hev x hx)
   obtain ⟨v, hs, un, e1, e2, e3, e4⟩ := Ar hev' (fun n hnn => by rw [Ed, Ed, DI, DI]; exact hn n hnn) hst
   refine ⟨g, v, hs, un, e1, ?_, e3, e4, h2⟩
   simp only [e2, EP hev', Fw hev']
  ·cases h
 ·rename_i s1 hgd
  obtain ⟨g, rfl, h2, h3⟩ := DR hgd
  rw [h3 s' hg]
  cases h
  exact ⟨g, .gB [], [], [], rfl, rfl, by simp, by simp, h2⟩
 ·cases h

theorem qy {hs : List (Nat × Option HE)} {n : Nat} : ∀ {hp : Nat → Option HE}, (∀ e ∈ hs, e.1 ≠ n) → C9 hs hp n = hp n := by
 induction hs with
 | nil => intro _ _; rfl
 | cons e r ih =>
  intro hp h
  obtain ⟨k, v⟩ := e
  show C9 r (fK hp k v) n = hp n
  rw [ih fun e he => h e (by simp [he])]
  have : k ≠ n := h (k, v) (by simp)
  simp only [fK, r8 (Ne.symm this), cond_false]
theorem K0 {hs : List (Nat × Option HE)} {n : Nat} : ∀ {hp hp' : Nat → Option HE}, hp n = hp' n → C9 hs hp n = C9 hs hp' n := by
 induction hs with
 | nil => intro _ _ h; exact h
 | cons e r ih =>
  intro hp hp' h
  obtain ⟨k, v⟩ := e
  refine ih ?_
  simp only [fK, h]
theorem Mu {hs : List (Nat × Option HE)} {n : Nat} : ∀ {hp hp' : Nat → Option HE}, (∃ e ∈ hs, e.1 = n) → C9 hs hp n = C9 hs hp' n := by
 induction hs with
 | nil => rintro _ _ ⟨_, h, _⟩; cases h
 | cons e r ih =>
  rintro hp hp' ⟨e', he', hn⟩
  obtain ⟨k, v⟩ := e
  show C9 r (fK hp k v) n = C9 r (fK hp' k v) n
  by_cases hk : k = n
  ·refine K0 ?_
   simp [fK, hk]
  ·refine ih ⟨e', ?_, hn⟩
   rcases List.mem_cons.1 he' with rfl | h
   ·exact absurd hn hk
   ·exact h
theorem BQ {un : List Nat} {n : Nat} : ∀ {us : Nat → Bool}, SX un us n = (un.contains n || us n) := by
 induction un with
 | nil => intro _; simp [SX]
 | cons k r ih =>
  intro us
  show SX r (uset us k) n = _
  rw [ih]
  by_cases h : n = k
  ·subst h; simp [uset]
  ·simp [uset, h, r8 h]

theorem jX (d : Option Nat) (v : SV) (hs : List (Nat × Option HE)) (un : List Nat) (g : Option (Nat × Bool)) (s : St) : (ap d v hs un (fW g s)).fr.length = s.fr.length := by
 cases d with
 | none => exact vY g s
 | some d => exact (dF _ _ _).trans (vY g s)
theorem yd (d : Option Nat) (v : SV) (hs : List (Nat × Option HE)) (un : List Nat) (g : Option (Nat × Bool)) (s : St) : (ap d v hs un (fW g s)).hp = C9 hs s.hp := by
 cases d <;> cases g <;> rfl
theorem ze (d : Option Nat) (v : SV) (hs : List (Nat × Option HE)) (un : List Nat) (g : Option (Nat × Bool)) (s : St) : (ap d v hs un (fW g s)).us = SX un s.us := by
 cases d <;> cases g <;> rfl
theorem ND (d : Option Nat) (v : SV) (hs : List (Nat × Option HE)) (un : List Nat) (g : Option (Nat × Bool)) (s : St) : (ap d v hs un (fW g s)).nx = s.nx := by
 cases d <;> cases g <;> rfl
theorem NA (d : Option Nat) (v : SV) (hs : List (Nat × Option HE)) (un : List Nat) (g : Option (Nat × Bool)) (s : St) : (ap d v hs un (fW g s)).bk = s.bk := by
 cases d <;> cases g <;> rfl
theorem l3 (g : Option (Nat × Bool)) (s : St) (i : Nat) : aF (fW g s).fr i = (match g with
  | some (dg, c) => if dg = i ∧ i < s.fr.length then .one (.lit c) else aF s.fr i
  | none => aF s.fr i) := by
 cases g with
 | none => rfl
 | some dc => exact gV _ _ _ _
theorem lB (d : Option Nat) (v : SV) (hs : List (Nat × Option HE)) (un : List Nat) (g : Option (Nat × Bool)) (s : St) (i : Nat) : aF (ap d v hs un (fW g s)).fr i =
  if d = some i ∧ i < s.fr.length then v else aF (fW g s).fr i := by
 cases d with
 | none => simp; rfl
 | some d =>
  show aF (jI (fW g s).fr d v) i = _
  rw [gV, vY]
  simp

theorem St.ext' {s t : St} (h1 : s.fr = t.fr) (h2 : s.hp = t.hp) (h3 : s.us = t.us) (h4 : s.nx = t.nx) (h5 : s.bk = t.bk) : s = t := by
 cases s; cases t
 simp only at h1 h2 h3 h4 h5
 subst h1; subst h2; subst h3; subst h4; subst h5; rfl

theorem F9 {d1 d2 : Option Nat} {v1 v2 : SV} {h1 h2 : List (Nat × Option HE)} {u1 u2 : List Nat} {g1 g2 : Option (Nat × Bool)} {s : St}
  (hd : ∀ i, d1 = some i → d2 ≠ some i) (hdg : ∀ i c, d1 = some i → g2 ≠ some (i, c)) (hgd : ∀ i c, d2 = some i → g1 ≠ some (i, c))
  (hgg : ∀ i c c', g1 = some (i, c) → g2 = some (i, c') → c = c') (hk : ∀ e ∈ h1, ∀ e' ∈ h2, e.1 ≠ e'.1) :
  ap d1 v1 h1 u1 (fW g1 (ap d2 v2 h2 u2 (fW g2 s))) = ap d2 v2 h2 u2 (fW g2 (ap d1 v1 h1 u1 (fW g1 s))) := by
 refine St.ext' (Bb ?_ fun i => ?_) ?_ ?_ ?_ ?_
 ·simp only [jX]
 ·rw [lB, lB, jX, jX, l3, l3, jX, jX, lB, lB, l3, l3]
  by_cases hi : i < s.fr.length
  ·simp only [hi, and_true]
   by_cases e1 : d1 = some i
   ·have e2 := hd i e1
    simp only [e1, if_true, e2, if_false]
    cases hg2 : g2 with
    | none => simp
    | some dc =>
     have : dc.1 ≠ i := fun e => hdg i dc.2 e1 (by rw [hg2, ← e])
     simp [this]
   ·simp only [e1, if_false]
    by_cases e2 : d2 = some i
    ·simp only [e2, if_true]
     cases hg1 : g1 with
     | none => simp
     | some dc =>
      have : dc.1 ≠ i := fun e => hgd i dc.2 e2 (by rw [hg1, ← e])
      simp [this]
    ·simp only [e2, if_false]
     cases hg1 : g1 with
     | none => cases hg2 : g2 <;> rfl
     | some dc =>
      cases hg2 : g2 with
      | none => rfl
      | some dc' =>
       by_cases x1 : dc.1 = i
       ·by_cases x2 : dc'.1 = i
        ·have := hgg i dc.2 dc'.2 (by rw [hg1, ← x1]) (by rw [hg2, ← x2])
         simp [x1, x2, this]
        ·simp [x1, x2]
       ·simp [x1]
  ·simp only [hi, and_false, if_false]
   cases g1 <;> cases g2 <;> rfl
 ·simp only [yd]
  funext n
  by_cases e1 : ∃ e ∈ h1, e.1 = n
  ·have e2 : ∀ e ∈ h2, e.1 ≠ n := fun e' he' hn => by
    obtain ⟨e, he, hen⟩ := e1
    exact hk e he e' he' (hen.trans hn.symm)
   rw [qy (hs := h2) e2]
   exact Mu e1
  ·have e1' : ∀ e ∈ h1, e.1 ≠ n := fun e he hn => e1 ⟨e, he, hn⟩
   rw [qy (hs := h1) e1']
   exact K0 (by rw [qy e1'])
 ·simp only [ze]
  funext n
  simp only [BQ]
  cases u1.contains n <;> cases u2.contains n <;> rfl
 ·simp only [ND]
 ·simp only [NA]

theorem Ey {d : Nat} {l : List Operand} (h : rS d l = false) : ∀ x ∈ l, x ≠ .tmp d := by
 induction l with
 | nil => simp
 | cons y r ih =>
  intro x hx
  cases y with
  | tmp t =>
   unfold rS at h
   cases hb : Nat.beq d t with
   | true => rw [hb] at h; cases h
   | false =>
    rw [hb] at h
    rcases List.mem_cons.1 hx with rfl | hx
    ·intro e; cases e; exact Nat.ne_of_beq_eq_false hb rfl
    ·exact ih h x hx
  | _ =>
   unfold rS at h
   rcases List.mem_cons.1 hx with rfl | hx
   ·simp
   ·exact ih h x hx
theorem kx {d : Option Nat} {l : List Operand} (h : rH d l = true) : ∀ i, d = some i → ∀ x ∈ l, x ≠ .tmp i := by
 rintro i rfl
 exact Ey (by simpa [rH] using h)
theorem wj {x y : Option Nat} (h : Ua x y = true) : ∀ i, x = some i → y ≠ some i := by
 rintro i rfl hy
 subst hy
 simp [Ua] at h

theorem Ea {d : Option Nat} {v : SV} {hs : List (Nat × Option HE)} {un : List Nat} {g : Option (Nat × Bool)} {s : St} {x : Operand} (h1 : ∀ i, d = some i → x ≠ .tmp i)
  (h2 : ∀ i c, g = some (i, c) → x ≠ .tmp i) : ev (ap d v hs un (fW g s)) x = ev s x := by
 cases x with
 | tmp t =>
  show aF (ap d v hs un (fW g s)).fr t = aF s.fr t
  rw [lB, l3]
  have e1 : d ≠ some t := fun e => h1 t e rfl
  simp only [e1, false_and, if_false]
  cases hg : g with
  | none => rfl
  | some dc =>
   have e2 : dc.1 ≠ t := fun e => h2 t dc.2 (by rw [hg, ← e]) rfl
   simp [e2]
 | _ => rfl
theorem o8 {d : Option Nat} {v : SV} {hs : List (Nat × Option HE)} {un : List Nat} {g : Option (Nat × Bool)} {s : St} {j : Nat} (h1 : d ≠ some j)
  (h2 : ∀ c, g = some (j, c) → zB (aF s.fr j) = some (some c)) : zB (aF (ap d v hs un (fW g s)).fr j) = zB (aF s.fr j) := by
 rw [lB, l3]
 simp only [h1, false_and, if_false]
 cases hg : g with
 | none => rfl
 | some dc =>
  by_cases e : dc.1 = j
  ·have := h2 dc.2 (by rw [hg, ← e])
   by_cases hj : j < s.fr.length
   ·simp only [e, hj, and_self, if_true, this]; rfl
   ·simp [hj]
  ·simp [e]

theorem swap {i j : Nat} {y x : Oper} {r : List (Nat × Oper)} {acc : List Rec} {s : St} {K : St → Prop} (hap : l7 all y x = true) (hord : ord ms j i = false) (hord' : ord ms i j = false)
  (h : iT X f nb all ms ((i, y) :: (j, x) :: r) acc s K) : iT X f nb all ms ((j, x) :: (i, y) :: r) acc s K := by
 simp only [l7, Bool.and_eq_true] at hap
 obtain ⟨a1, a2, a3, a4, a5, a6, a7⟩ := hap
 have a1 := kx a1
 have a2 := kx a2
 have a3 := kx a3
 have a4 := kx a4
 have a5 := wj a5
 have a6 := wj a6
 have a7 := wj a7
 obtain ⟨p1, t1, F1, W1, hy, hc1, hp1, p2, t2, F2, W2, hx, hc2, hp2, hr⟩ := h
 have hcc := mO.1 hc2
 have hdj := hcc (i, F1, W1) (by simp)
 simp only [hord, Bool.false_or, Bool.and_eq_true] at hdj
 obtain ⟨b1, b2, b3⟩ := hdj
 obtain ⟨g0, v0, h0, u0, et0, _, k0, l0, m0⟩ := nr (s' := s) rfl (fun _ _ => rfl) (fun _ _ => rfl) (fun _ _ => ⟨rfl, rfl⟩) hy
 -- x at s
 have hx0 := nr (s := t1) (s' := s) (by rw [et0, jX])
  (fun z hz => by rw [et0]; exact (Ea (fun d hd => a1 d hd z hz) (fun d c hd => a3 d (m0 d c hd).1 z hz)).symm)
  (fun d hd => by rw [et0]; exact (o8 (fun e => a6 d e hd) (fun c hc => (m0 d c hc).2)).symm)
  (fun n hn => by
   rw [et0, yd, ze, BQ]
   have hnW : n ∉ W1 := lW.1 (rR b1) n hn
   refine ⟨(qy (hs := h0) (fun e he hen => hnW (by rw [← hen]; exact k0 e he))).symm, ?_⟩
   have : u0.contains n = false := by
    cases hb : u0.contains n with
    | false => rfl
    | true => exact absurd (l0 n (by simpa using hb)) hnW
   rw [this, Bool.false_or]) hx
 obtain ⟨g2, v2, h2, u2, et2, hxs, k2, l2, m2⟩ := hx0
 -- y at what x made of s
 have hy0 := nr (s := s) (s' := ap x.dst v2 h2 u2 (fW g2 s)) (by rw [jX])
  (fun z hz => Ea (fun d hd => a2 d hd z hz) (fun d c hd => a4 d (m2 d c hd).1 z hz))
  (fun d hd => o8 (fun e => a7 d e hd) (fun c hc => by
   have := (m2 d c hc).2
   rw [et0] at this
   rwa [o8 (fun e => by
    have hsl := (m2 d c hc).1
    exact a6 d e hsl) (fun c' hc' => (m0 d c' hc').2)] at this))
  (fun n hn => by
   rw [yd, ze, BQ]
   have hnW : n ∉ W2 := lW.1 (rR b2) n hn
   refine ⟨qy (hs := h2) (fun e he hen => hnW (by rw [← hen]; exact k2 e he)), ?_⟩
   have : u2.contains n = false := by
    cases hb : u2.contains n with
    | false => rfl
    | true => exact absurd (l2 n (by simpa using hb)) hnW
   rw [this, Bool.false_or]) hy
 obtain ⟨g1, v1, h1, u1, et1, hyu, k1, l1, m1⟩ := hy0
 have hcom : ap y.dst v1 h1 u1 (fW g1 (ap x.dst v2 h2 u2 (fW g2 s))) = t2 := by
  rw [et2, et1]
  refine F9 (fun n e1 e2 => a5 n e1 e2) (fun n c e1 e2 => a6 n e1 (m2 n c e2).1) (fun n c e1 e2 => a7 n e1 (m1 n c e2).1) (fun n c c' e1 e2 => ?_) (fun e he e' he' hee => ?_)
  ·have q1 := (m1 n c e1).2
   have q2 := (m2 n c' e2).2
   rw [et0, o8 (fun e => a6 n e (m2 n c' e2).1) (fun c' hc' => (m0 n c' hc').2), q1] at q2
   cases q2; rfl
  ·exact lW.1 b3 _ (k2 e' he') (by rw [← hee]; exact k1 e he)
 refine ⟨p2, _, F2, W2, hxs, mO.2 fun e he => hcc e (by simp [he]), hp2, p1, _, F1, W1, hyu, mO.2 fun e he => ?_, hp1, ?_⟩
 ·rcases List.mem_cons.1 he with rfl | he
  ·simp only [hord', Bool.false_or, b2, rR b3, Bool.and_true, Bool.true_and]
   exact b1
  ·exact mO.1 hc1 e he
 ·rw [hcom]
  refine xW (fun e => ?_) hr
  simp only [List.mem_cons]
  constructor
  ·rintro (h | h | h)
   ·exact .inr (.inl h)
   ·exact .inl h
   ·exact .inr (.inr h)
  ·rintro (h | h | h)
   ·exact .inr (.inl h)
   ·exact .inl h
   ·exact .inr (.inr h)

theorem Cp {j : Nat} {x : Oper} {l2 : List (Nat × Oper)} {K : St → Prop} : ∀ {l1 : List (Nat × Oper)} {acc : List Rec} {s : St},
  (∀ e ∈ l1, l7 all e.2 x = true ∧ ord ms j e.1 = false ∧ ord ms e.1 j = false) → iT X f nb all ms (l1 ++ (j, x) :: l2) acc s K → iT X f nb all ms ((j, x) :: (l1 ++ l2)) acc s K
 | [], _, _, _, h => h
 | (i, y) :: l1, acc, s, ha, h => by
  have h' := ha (i, y) (by simp)
  exact swap h'.1 h'.2.1 h'.2.2 (Cw (fun acc s hh => Cp (fun e he => ha e (by simp [he])) hh) h)
end
end Go.Sx
/-
 Sx, part U: a region that draws its order does what the executor says.
-/
namespace Go.Sx

section
variable {P : Program} {X : Fx} {f nb : Nat} {all : List Oper} {ms : List Nat} {callK : Nat → Nat → List SV → St → (SV → St → Prop) → Prop}
 {w0 : cz} {w : World} {ρ : Nat → Value} {s s1 t : St} {a : Act}

def nW (X : Fx) (callK : Nat → Nat → List SV → St → (SV → St → Prop) → Prop) : Prop :=
 (∀ k g c, X.K g = some c → ∀ args s K, tx c k s args K → callK k g args s K) ∧
 ∀ k g c args l, X.K g = none → iL X g args = some (c, l) → ∀ s K, tx c k s l K → callK k g args s K

theorem JI {c : ah} {k : Nat} {args : List SV} {d : Option Nat} {p : Option Prop} (h : zt c k s args d = some (p, t)) (hp : l6 p) : tx c k s args (fun v s' => s'.put d v = t) := by
 unfold zt at h
 unfold tx
 cases ho : c.own with
 | true =>
  rw [ho] at h
  simp only [cond_true] at h ⊢
  cases hg : kC c.rs && !(s.us k) with
  | false => rw [hg] at h; cases h
  | true =>
   rw [hg] at h
   simp only [cond_true] at h ⊢
   cases hfl : ng c.rs with
   | true =>
    rw [hfl] at h
    simp only [cond_true] at h ⊢
    split at h
    ·split at h
     ·rename_i x hx v he hv
      cases h
      exact ⟨hp, rfl⟩
     ·cases h
    ·cases h
   | false =>
    rw [hfl] at h
    simp only [cond_false] at h ⊢
    split at h
    ·split at h
     ·split at h
      ·cases h
       exact ⟨hp, rfl⟩
      ·cases h
     ·cases h
    ·cases h
 | false =>
 rw [ho] at h
 simp only [cond_false] at h ⊢
 cases hn : c.rs.all lS with
 | true =>
  rw [hn] at h
  simp only [cond_true] at h ⊢
  split at h
  ·cases h
   exact ⟨hp, rfl⟩
  ·cases h
 | false =>
  rw [hn] at h
  simp only [cond_false] at h ⊢
  split at h
  ·split at h
   ·cases h
    exact ⟨hp, rfl⟩
   ·cases h
  ·cases h
theorem xn (hK : nW X callK) {k : Nat} {o : Oper} {p : Option Prop} (h : nc X f s k o = some (p, t)) (hp : l6 p) : FJ X callK f s k o (fun s' => s' = t) := by
 unfold FJ
 have hpre : pre X f s o = s := by
  unfold pre
  unfold nc at h
  cases hc : callee? s o.op with
  | none =>
   simp only []
   have hc1 : eB s o.op = none := by
    cases h1 : eB s o.op with
    | none => rfl
    | some ga =>
     obtain ⟨_, _, _, _, _, h2⟩ := fZ (g := ga.1) (args := ga.2) h1
     rw [hc] at h2; cases h2
   rw [hc1] at h
   simp only [] at h
   cases hf : Dj X f o with
   | true => rw [hf] at h; cases h
   | false =>
    unfold Dj at hf
    split
    ·rename_i hop hd
     rw [hop, hd] at hf
     rw [show X.wr f _ = false from hf]; rfl
    ·rfl
  | some ga =>
   obtain ⟨g, args⟩ := ga
   simp only []
   split
   ·rename_i c hct
    cases hg : (bif c.own then !(ng c.rs) else !(c.rs.all lS)) with
    | false => rfl
    | true =>
     cases hc1 : eB s o.op with
     | none =>
      rw [hc1] at h
      simp only [] at h
      exfalso
      revert h hc
      cases Dj X f o with
      | true => intro h; cases h
      | false =>
      cases ho : o.op with
      | call c =>
       simp only [callee?, Mr, ho, cond_false]
       cases hcc : c.callee with
       | value x => intro h; simp [wD] at h
       | _ => intro _ h; cases h
      | _ => intro _ h; simp [callee?] at h
     | some ga' =>
      obtain ⟨g', args'⟩ := ga'
      have hc' : callee? s o.op = some (g', args') := by
       obtain ⟨_, _, _, _, _, h2⟩ := fZ hc1
       exact h2
      rw [hc] at hc'
      simp only [Option.some.injEq, Prod.mk.injEq] at hc'
      obtain ⟨rfl, rfl⟩ := hc'
      rw [hc1] at h
      simp only [] at h
      rw [hct] at h
      simp only [] at h
      unfold zt at h
      cases hown : c.own with
      | false =>
       rw [hown] at h hg
       simp only [cond_false, Bool.not_eq_true'] at h hg
       rw [hg] at h
       simp only [cond_false] at h
       split at h
       ·rename_i hr; simp only [cond_true, hr]; rfl
       ·cases h
      | true =>
       rw [hown] at h hg
       simp only [cond_true, Bool.not_eq_true'] at h hg
       rw [hg] at h
       cases hok : kC c.rs && !(s.us k) with
       | false => rw [hok] at h; cases h
       | true =>
        rw [hok] at h
        simp only [cond_true, cond_false] at h
        split at h
        ·rename_i hr; simp only [cond_true, hr]; rfl
        ·cases h
   ·rfl
 rw [hpre]
 unfold nc at h
 unfold Ss
 cases hc : eB s o.op with
 | some ga =>
  obtain ⟨g, args⟩ := ga
  rw [hc] at h
  simp only [] at h
  split at h
  ·rename_i c hct
   have hc' : callee? s o.op = some (g, args) := by
    obtain ⟨_, _, _, _, _, h2⟩ := fZ hc
    exact h2
   rw [hc']
   exact hK.1 k g c hct args s _ (JI h hp)
  ·rename_i hct
   split at h
   ·rename_i c l hsp
    have hc' : callee? s o.op = some (g, args) := by
     obtain ⟨_, _, _, _, _, h2⟩ := fZ hc
     exact h2
    rw [hc']
    exact hK.2 k g c args l hct hsp s _ (JI h hp)
   ·cases h
 | none =>
  rw [hc] at h
  simp only [] at h
  cases hf : Dj X f o with
  | true => rw [hf] at h; cases h
  | false =>
  rw [hf] at h
  simp only [cond_false] at h
  cases hc' : callee? s o.op with
  | none =>
   simp only []
   rw [h]
   cases p with
   | none => rfl
   | some p => exact ⟨hp, rfl⟩
  | some ga =>
   exfalso
   revert h hc'
   cases ho : o.op with
   | call c =>
    simp only [callee?, Mr, ho]
    cases hcc : c.callee with
    | value x => intro h; simp [wD] at h
    | _ => intro _ h; cases h
   | _ => intro _ h; cases h

theorem nE {X : Fx} : ∀ (os : List Operand) {s : St}, Ok w0 ρ s a w → l6 (fv s os).2 → Ok w0 ρ (fv s os).1 a w ∧
  ((fv s os).1.hp = s.hp ∧ (fv s os).1.us = s.us ∧ (fv s os).1.nx = s.nx ∧ (fv s os).1.bk = s.bk ∧ (fv s os).1.fr.length = s.fr.length) ∧
  ∀ i, aF (fv s os).1.fr i = aF s.fr i ∨ ∃ b p, aF s.fr i = .lT b p ∧ b = true ∧ aF (fv s os).1.fr i = .one p
 | [], s, h, _ => ⟨h, ⟨rfl, rfl, rfl, rfl, rfl⟩, fun _ => .inl rfl⟩
 | x :: r, s, h, hc => by
  cases x with
  | tmp t =>
   unfold fv at hc ⊢
   split
   ·rename_i b p hbp
    rw [hbp] at hc
    simp only [] at hc ⊢
    have hb : b = true ∧ l6 (fv (s.put (some t) (.one p)) r).2 := by
     cases hq : (fv (s.put (some t) (.one p)) r).2 with
     | none => rw [hq] at hc; exact ⟨hc, trivial⟩
     | some q => rw [hq] at hc; exact hc
    have hf := h.frame t
    rw [hbp] at hf
    obtain ⟨h1, h2, h3⟩ := nE (X := X) r (h.tell t (v := .one p) (hf.1 hb.1)) hb.2
    refine ⟨h1, ⟨h2.1, h2.2.1, h2.2.2.1, h2.2.2.2.1, by rw [h2.2.2.2.2]; exact dF _ _ _⟩, fun i => ?_⟩
    have hput : aF (s.put (some t) (.one p)).fr i = if t = i ∧ i < s.fr.length then .one p else aF s.fr i := gV _ _ _ _
    by_cases e : t = i ∧ i < s.fr.length
    ·rw [if_pos e] at hput
     obtain ⟨rfl, _⟩ := e
     refine .inr ⟨b, p, hbp, hb.1, ?_⟩
     rcases h3 t with h4 | ⟨b', p', h4, _⟩
     ·rw [h4, hput]
     ·rw [hput] at h4; cases h4
    ·rw [if_neg e] at hput
     rcases h3 i with h4 | ⟨b', p', h4, h5, h6⟩
     ·exact .inl (h4.trans hput)
     ·exact .inr ⟨b', p', hput.symm.trans h4, h5, h6⟩
   ·rename_i hno
    refine nE (X := X) r h ?_
    revert hc
    split
    ·rename_i b p hbp; exact absurd hbp (hno b p)
    ·exact fun h => h
  | _ => exact nE (X := X) r h hc
theorem FF {k : Nat} {o : Oper} {p : Option Prop} {s2 : St} (hl : vF X s k o = true) (h : nc X f s k o = some (p, s2)) : ∃ v, s2 = s.put o.dst v := by
 unfold vF at hl
 unfold nc at h
 cases hc : eB s o.op with
 | some ga =>
  obtain ⟨g, args⟩ := ga
  rw [hc] at hl h
  simp only [] at hl h
  split at h
  ·rename_i c hct
   rw [hct] at hl
   simp only [Bool.not_eq_true'] at hl
   unfold zt at h
   rw [hl] at h
   simp only [cond_false] at h
   cases hn : c.rs.all lS with
   | true =>
    rw [hn] at h
    simp only [cond_true] at h
    split at h
    ·cases h; exact ⟨_, rfl⟩
    ·cases h
   | false =>
    rw [hn] at h
    simp only [cond_false] at h
    split at h
    ·split at h
     ·cases h; exact ⟨_, rfl⟩
     ·cases h
    ·cases h
  ·rename_i hct
   rw [hct] at hl
   cases hl
 | none =>
  rw [hc] at hl h
  simp only [] at hl h
  cases hf : Dj X f o with
  | true => rw [hf] at h; cases h
  | false =>
   rw [hf] at h
   simp only [cond_false] at h
   obtain ⟨v, hs, un, e1, _, e2, e3⟩ := xT (s' := s) (fun _ _ => rfl) (fun _ _ => ⟨rfl, rfl⟩) h
   have hw0 : mU false s k o.op = [] := by simpa using hl
   have hw : mU (FG (X.wr f) 3000000 o.dst) s k o.op = [] := by
    revert hw0
    cases o.op with
    | slice t x lo hi mx =>
     simp only [mU]
     split
     ·intro h; cases h
     ·intro h; cases h
     ·intro _; rfl
    | buildSlice t n ps => intro h; cases h
    | _ => exact fun h => h
   rw [hw] at e2 e3
   have hs0 : hs = [] := by
    cases hs with
    | nil => rfl
    | cons x xs => have := e2 x (by simp); cases this
   have un0 : un = [] := by
    cases un with
    | nil => rfl
    | cons x xs => have := e3 x (by simp); cases this
   subst hs0; subst un0
   exact ⟨v, e1⟩
theorem Fa (hK : nW X callK) {k : Nat} {o : Oper} {gb : Bool} {pp : Option Prop} {s' : St} (h : Vd X f s k o gb = some (pp, s')) (hp : l6 pp) (hok : Ok w0 ρ s a w) :
  ∃ d q, o.dst = some d ∧ s' = s.put (some d) (.lT gb q) ∧ (gb = true → ∃ s1 s2 ρ1, Ok w0 ρ1 s1 a w ∧ FJ X callK f s1 k o (fun t => t = s2) ∧ ∀ ρ' a' w', Ok w0 ρ' s2 a' w' → Ok w0 ρ' s' a' w') := by
 unfold Vd at h
 split at h
 ·rename_i d hd
  have key : ∀ s1 C, fv s (om o.op) = (s1, C) → (bif vF X s1 k o then (match nc X f s1 k o with
   | some (p, s2) => (match aF s2.fr d with
    | .one q => (match Cd C p with
     | some p => some (some (gb = true → p), s.put (some d) (.lT gb q))
     | none => some (none, s.put (some d) (.lT gb q)))
    | _ => none)
   | none => none) else none) = some (pp, s') → ∃ d q, o.dst = some d ∧ s' = s.put (some d) (.lT gb q) ∧ (gb = true → ∃ s1 s2 ρ1, Ok w0 ρ1 s1 a w ∧ FJ X callK f s1 k o (fun t => t = s2) ∧ ∀ ρ' a' w', Ok w0 ρ' s2 a' w' → Ok w0 ρ' s' a' w') := by
   intro s1 C hop h
   cases hl : vF X s1 k o with
   | false => rw [hl] at h; cases h
   | true =>
    rw [hl] at h
    simp only [cond_true] at h
    split at h
    ·rename_i p s2 hst
     split at h
     ·rename_i q hq
      have hfin : s' = s.put (some d) (.lT gb q) ∧ (gb = true → l6 C ∧ l6 p) := by
       cases C with
       | none => cases p with
        | none => simp only [Cd, Option.some.injEq, Prod.mk.injEq] at h; exact ⟨h.2.symm, fun _ => ⟨trivial, trivial⟩⟩
        | some p => simp only [Cd, Option.some.injEq, Prod.mk.injEq] at h; obtain ⟨e1, e2⟩ := h; subst e1; exact ⟨e2.symm, fun e => ⟨trivial, hp e⟩⟩
       | some C => cases p with
        | none => simp only [Cd, Option.some.injEq, Prod.mk.injEq] at h; obtain ⟨e1, e2⟩ := h; subst e1; exact ⟨e2.symm, fun e => ⟨hp e, trivial⟩⟩
        | some p => simp only [Cd, Option.some.injEq, Prod.mk.injEq] at h; obtain ⟨e1, e2⟩ := h; subst e1; exact ⟨e2.symm, hp⟩
      obtain ⟨rfl, hcp⟩ := hfin
      refine ⟨d, q, hd, rfl, fun hgb => ?_⟩
      obtain ⟨hC, hpp⟩ := hcp hgb
      have hC' : l6 (fv s (om o.op)).2 := by rw [hop]; exact hC
      obtain ⟨hok1, hsame, hslots⟩ := nE (X := X) (om o.op) hok hC'
      rw [hop] at hok1 hsame hslots
      simp only [] at hok1 hsame hslots
      refine ⟨s1, s2, ρ, hok1, xn hK hst hpp, fun ρ' a' w' ho => ?_⟩
      obtain ⟨v, rfl⟩ := FF hl hst
      rw [hd] at ho hq
      have hcx : cx w0 ρ' (s1.put (some d) v) w' = cx w0 ρ' (s.put (some d) (.lT gb q)) w' := by
       show (⟨ρ', s1.us, dE w0 ρ' s1.hp w', w'⟩ : Cx) = ⟨ρ', s.us, dE w0 ρ' s.hp w', w'⟩
       rw [hsame.1, hsame.2.1]
      have hlen : (jI s1.fr d v).length = (jI s.fr d (.lT gb q)).length := by rw [dF, dF, hsame.2.2.2.2]
      have hl1 : (jI s1.fr d v).length = a'.tmps.size := ho.len
      have hfr := ho.frame
      have hbk := ho.back
      have hhp := ho.heap
      have hus := ho.used
      have hfs := ho.fresh
      have hap := ho.apart
      rw [hcx] at hfr hbk hhp
      refine { defers := ho.defers, below := ho.below, len := hlen.symm.trans hl1, frame := fun i => ?_, back := fun i => ?_, heap := ?_, used := ?_, fresh := ?_, apart := ?_ }
      ·have h2 := hfr i
       have e1 : aF (s1.put (some d) v).fr i = if d = i ∧ i < s1.fr.length then v else aF s1.fr i := gV _ _ _ _
       have e2 : aF (s.put (some d) (.lT gb q)).fr i = if d = i ∧ i < s.fr.length then .lT gb q else aF s.fr i := gV _ _ _ _
       rw [hsame.2.2.2.2] at e1
       by_cases e : d = i ∧ i < s.fr.length
       ·rw [if_pos e] at e1 e2
        obtain ⟨rfl, _⟩ := e
        rw [hq] at h2
        rw [e2]
        exact ⟨fun _ => h2, fun e => by rw [hgb] at e; cases e⟩
       ·rw [if_neg e] at e1 e2
        rw [e2]
        rw [e1] at h2
        rcases hslots i with h3 | ⟨b, p', h3, h4, h5⟩
        ·rw [h3] at h2; exact h2
        ·rw [h5] at h2
         rw [h3]
         exact ⟨fun _ => h2, fun e => by rw [h4] at e; cases e⟩
      ·have := hbk i
       have e : (s1.put (some d) v).bk = s.bk := hsame.2.2.2.1
       rw [e] at this
       exact this
      ·intro n he hn
       exact hhp n he (by show s1.hp n = some he; rw [hsame.1]; exact hn)
      ·intro n he hn
       have := hus n he (by show s1.hp n = some he; rw [hsame.1]; exact hn)
       have e : (s1.put (some d) v).us = s.us := hsame.2.1
       rw [e] at this
       exact this
      ·intro n he b hn
       exact hfs n he b (by show s1.hp n = some he; rw [hsame.1]; exact hn)
      ·intro n n' h1 h2 b hne hn hn'
       exact hap n n' h1 h2 b hne (by show s1.hp n = some h1; rw [hsame.1]; exact hn) (by show s1.hp n' = some h2; rw [hsame.1]; exact hn')
     ·cases h
    ·cases h
  exact key _ _ rfl h
 ·cases h
theorem RA {o : Oper} {j d : Nat} {want gb : Bool} {v : SV} (hd : mV all j = some d) (hg : o.guard = some (j, want)) (h : Jj want v = some gb) (hv : aK (cx w0 ρ s w) v (a.tmps.getD d undef)) :
  Region.wanted o (yielded all.toArray a.tmps) = gb := by
 have one : ∀ b, a.tmps.getD d undef = .bool b → Region.wanted o (yielded all.toArray a.tmps) = bif want then b else !b := fun b hb => by
  have hy := jV hd hb
  simp only [Region.wanted, hg, hy]
  cases b <;> cases want <;> rfl
 unfold Jj at h
 split at h
 ·rename_i b
  simp only [Option.some.injEq] at h
  subst h
  have hb : [a.tmps.getD d undef] = [.bool b] := aK.bb rfl (by simp) hv
  exact one b (by simpa using hb)
 ·rename_i b1 u
  simp only [Option.some.injEq] at h
  subst h
  cases b1 with
  | true =>
   have hb : [a.tmps.getD d undef] = [.bool u] := aK.bb (p := .d .bool u) rfl (by simp) (hv.1 rfl)
   rw [one u (by simpa using hb)]
   rfl
  | false =>
   simp [Region.wanted, hg, pZ hd (hv.2 rfl)]
 ·cases h

theorem xF {k : Nat} {o : Oper} {K : St → Prop} (h : LG X callK f s k o K) (hok : Ok w0 ρ s a w) : ∃ s1, Ok w0 ρ s1 a w ∧ FJ X callK f s1 k o K := by
 unfold LG at h
 cases hop : fv s (om o.op) with
 | mk s1 C =>
  rw [hop] at h
  have hC' : l6 (fv s (om o.op)).2 := by
   rw [hop]
   cases C with
   | none => trivial
   | some c => exact h.1
  obtain ⟨hok1, _, _⟩ := nE (X := X) (om o.op) hok hC'
  rw [hop] at hok1
  cases C with
  | none => exact ⟨s1, hok1, h⟩
  | some c => exact ⟨s1, hok1, h.2⟩
theorem EG {k : Nat} {o : Oper} {gb : Bool} {r : Option Prop × St} (h : Mo X f s k o gb = some r) : Vd X f s k o gb = some r := by
 unfold Mo at h
 cases hm : FG (X.wr f) 10000000 o.dst with
 | true => rw [hm] at h; cases h
 | false => rw [hm] at h; exact h
theorem ja {all : List Oper} {nb : Nat} {K : St → Prop} {Q : Exit → Act → World → Prop} (hX : vR P X) (hcall : j3 P callK) (hCB : nW X callK)
  (hQ : ∀ ρ' s' a' w', Ok w0 ρ' s' a' w' → K s' → Q .normal a' w') :
  ∀ (r : List Oper) (i : Nat) (s : St) (ρ : Nat → Value) (a : Act) (w : World), ops X callK f all nb i r s K → Ok w0 ρ s a w → wpList P all.toArray Q r a w
 | [], i, s, ρ, a, w, h, hok => hQ ρ s a w hok h
 | o :: r, i, s, ρ, a, w, h, hok => by
  unfold ops at h
  have skip : Region.wanted o (yielded all.toArray a.tmps) = false → ops X callK f all nb (i + 1) r (s.put o.dst (.gB [])) K → wpList P all.toArray Q (o :: r) a w := fun hw hr => by
   unfold wpList
   rw [hw]
   simp only [Bool.false_eq_true, if_false]
   exact ja hX hcall hCB hQ r (i + 1) _ ρ _ w hr (hok.put o.dst vK)
  have run : ∀ s1 ρ1, Ok w0 ρ1 s1 a w → Region.wanted o (yielded all.toArray a.tmps) = true → FJ X callK f s1 (nb + i) o (fun s => ops X callK f all nb (i + 1) r s K) → wpList P all.toArray Q (o :: r) a w := fun s1 ρ1 hok1 hw hr => by
   unfold wpList
   rw [hw]
   simp only [if_true]
   exact .inl (oC hX hcall hok1 hr (fun ρ' s' a' w' hok' hK => ja hX hcall hCB hQ r (i + 1) s' ρ' a' w' hK hok'))
  split at h
  ·rename_i hg
   exact run s ρ hok (by simp [Region.wanted, hg]) h
  ·rename_i j want hg
   split at h
   ·rename_i d hd
    have hv := hok.frame d
    split at h
    ·rename_i b hsl
     rw [hsl] at hv
     have hb : [a.tmps.getD d undef] = [.bool b] := aK.bb rfl (by simp) hv
     simp only [List.cons.injEq, and_true] at hb
     have hy := jV hd hb
     cases hx : Bool.xor b want with
     | true =>
      rw [hx] at h
      refine skip ?_ h
      simp only [Region.wanted, hg, hy]
      cases b <;> cases want <;> first | rfl | cases hx
     | false =>
      rw [hx] at h
      obtain ⟨s1, hok1, h⟩ := xF h hok
      refine run s1 ρ hok1 ?_ h
      simp only [Region.wanted, hg, hy]
      cases b <;> cases want <;> first | rfl | cases hx
    ·rename_i hsl
     rw [hsl] at hv
     obtain ⟨vs, hvs, he⟩ := hv
     have hu : a.tmps.getD d undef = undef := by
      rw [hvs]
      have he : vs.toList = [] := he
      have : vs = #[] := by simpa using he
      rw [this]; rfl
     refine skip ?_ h
     simp [Region.wanted, hg, pZ hd hu]
    ·split at h
     ·rename_i gb hgate
      have hwant := RA (o := o) (all := all) hd hg hgate hv
      have go : ∀ pp s', Mo X f s (nb + i) o gb = some (pp, s') → l6 pp → ops X callK f all nb (i + 1) r s' K → wpList P all.toArray Q (o :: r) a w := fun pp s' hgo hpp hr => by
       obtain ⟨dd, q, hdd, hs', hrun⟩ := Fa hCB (EG hgo) hpp hok
       cases gb with
       | true =>
        obtain ⟨s1, s2, ρ1, hok1, h1, hback⟩ := hrun rfl
        unfold wpList
        rw [hwant]
        simp only [if_true]
        exact .inl (oC hX hcall hok1 h1 (fun ρ' t a' w' hok' hK' => by
         subst hK'
         exact ja hX hcall hCB hQ r (i + 1) s' ρ' a' w' hr (hback ρ' a' w' hok')))
       | false =>
        unfold wpList
        rw [hwant]
        simp only [Bool.false_eq_true, if_false]
        subst hs'
        rw [hdd]
        exact ja hX hcall hCB hQ r (i + 1) _ ρ _ w hr (hok.put (some dd) ⟨fun e => (by cases e), fun _ => rfl⟩)
      split at h
      ·rename_i pp s' hgo
       exact go _ s' hgo h.1 h.2
      ·rename_i s' hgo
       exact go _ s' hgo trivial h
      ·split at h
       ·rename_i b hsl
        rw [hsl] at hv
        have hb : [a.tmps.getD d undef] = [.bool b] := aK.bb rfl (by simp) hv
        simp only [List.cons.injEq, and_true] at hb
        have hy := jV hd hb
        by_cases e : b = want
        ·have hok1 := hok.tell d (v := .one (.lit want)) (by rw [hb, e]; exact nY want)
         obtain ⟨s1, hok2, h2⟩ := xF (h.1 e) hok1
         exact run s1 ρ hok2 (by simp [Region.wanted, hg, hy, e]) h2
        ·have e' : b = !want := by cases b <;> cases want <;> first | rfl | exact absurd rfl e
         have hok1 := hok.tell d (v := .one (.lit !want)) (by rw [hb, e']; exact nY _)
         have hw : Region.wanted o (yielded all.toArray a.tmps) = false := by
          simp only [Region.wanted, hg, hy, e']
          cases want <;> rfl
         unfold wpList
         rw [hw]
         simp only [Bool.false_eq_true, if_false]
         exact ja hX hcall hCB hQ r (i + 1) _ ρ _ w (h.2 e') (hok1.put o.dst vK)
       ·exact h.elim
     ·exact h.elim
   ·exact h.elim

theorem PC {o : Oper} {b : Bool} (hok : Ok w0 ρ s a w) (h : gd all o s = some (b, s1)) : Region.wanted o (yielded all.toArray a.tmps) = b ∧ Ok w0 ρ s1 a w := by
 unfold gd at h
 split at h
 ·rename_i hg
  cases h
  exact ⟨by simp [Region.wanted, hg], hok⟩
 ·rename_i j want hg
  split at h
  ·rename_i d hd
   have hv := hok.frame d
   split at h
   ·rename_i c hc
    cases h
    rw [hc] at hv
    have hb : [a.tmps.getD d undef] = [.bool c] := aK.bb rfl (by simp) hv
    simp only [List.cons.injEq, and_true] at hb
    have hy := jV hd hb
    exact ⟨by simp only [Region.wanted, hg, hy]; cases c <;> cases want <;> rfl, hok.tell d (v := .one (.lit c)) (by rw [hb]; exact nY c)⟩
   ·rename_i c hc
    cases h
    rw [hc] at hv
    have hb : [a.tmps.getD d undef] = [.bool c] := aK.bb rfl (by simp) hv
    simp only [List.cons.injEq, and_true] at hb
    have hy := jV hd hb
    exact ⟨by simp only [Region.wanted, hg, hy]; cases c <;> cases want <;> rfl, hok.tell d (v := .one (.lit c)) (by rw [hb]; exact nY c)⟩
   ·rename_i hc
    cases h
    rw [hc] at hv
    obtain ⟨vs, hvs, he⟩ := hv
    have hu : a.tmps.getD d undef = undef := by
     rw [hvs]
     have he : vs.toList = [] := he
     have : vs = #[] := by simpa using he
     rw [this]; rfl
    exact ⟨by simp [Region.wanted, hg, pZ hd hu], hok⟩
   ·cases h
  ·cases h

theorem sZ {i : Nat} {o : Oper} {p : Option Prop} {F W : List Nat} {N : Act → World → Prop} {Q : Exit → Act → World → Prop} (hX : vR P X) (hcall : j3 P callK) (hK : nW X callK)
  (ho : all[i]? = some o) (hok : Ok w0 ρ s a w) (h : mX X f nb all i o s = some (p, t, F, W)) (hp : l6 p) (hN : ∀ ρ' a' w', Ok w0 ρ' t a' w' → N a' w') : wpOp P all.toArray Q i N a w := by
 unfold wpOp
 have ho' : all.toArray[i]? = some o := by simpa using ho
 rw [ho']
 simp only []
 unfold mX at h
 split at h
 ·rename_i s1 hgd
  obtain ⟨hw, hok1⟩ := PC hok hgd
  rw [hw]
  simp only [if_true]
  split at h
  ·rename_i pp tt hst
   cases h
   exact .inl (oC hX hcall hok1 (xn hK hst hp) (fun ρ' s' a' w' hok' hs => hN ρ' a' w' (hs ▸ hok')))
  ·cases h
 ·rename_i s1 hgd
  obtain ⟨hw, hok1⟩ := PC hok hgd
  rw [hw]
  simp only [Bool.false_eq_true, if_false]
  cases h
  exact hN ρ _ _ (hok1.put o.dst vK)
 ·cases h

theorem eX : ∀ {l : List Oper} {n i : Nat} {o : Oper}, (i, o) ∈ bL n l ↔ n ≤ i ∧ l[i - n]? = some o
 | [], _, _, _ => by simp [bL]
 | x :: l, n, i, o => by
  simp only [bL, List.mem_cons, Prod.mk.injEq, eX (l := l)]
  constructor
  ·rintro (⟨rfl, rfl⟩ | ⟨h1, h2⟩)
   ·simp
   ·refine ⟨by omega, ?_⟩
    rw [show i - n = (i - (n + 1)) + 1 by omega]; simpa using h2
  ·rintro ⟨h1, h2⟩
   by_cases e : i = n
   ·subst e; simp at h2; exact .inl ⟨rfl, h2.symm⟩
   ·right
    refine ⟨by omega, ?_⟩
    rw [show i - n = (i - (n + 1)) + 1 by omega] at h2; simpa using h2
theorem fB : ∀ {l : List Oper} {n : Nat}, (bL n l).Pairwise (fun x y => x.1 < y.1)
 | [], _ => List.Pairwise.nil
 | x :: l, n => List.Pairwise.cons (fun e he => by
   obtain ⟨i, o⟩ := e
   have := (eX.1 he).1
   show n < i
   omega) fB

structure Stat (all : List Oper) (ms : List Nat) : Prop where
 after : ∀ j x, all[j]? = some x → ∀ e ∈ x.after, Region.binds .any e = true → e.on < j
 VT : ∀ i j x y, all[j]? = some x → all[i]? = some y → i < j → Nat.testBit (ko ms j) i = true → ∃ e ∈ x.after, Region.binds .any e = true ∧ (e.on = i ∨ (i < e.on ∧ Nat.testBit (ko ms e.on) i = true))
 apart : ∀ i j x y, all[j]? = some x → all[i]? = some y → i < j → Nat.testBit (ko ms j) i = false → l7 all y x = true

theorem uC {j : Nat} {x : Oper} : ∀ {l : List (Nat × Oper)}, l.Pairwise (fun x y => x.1 < y.1) → xz all ms j x l = true → ∀ i y, (i, y) ∈ l → i < j →
  (bif Nat.testBit (ko ms j) i then x.after.toList.any (fun e => Region.binds .any e && (Nat.beq e.on i || (Nat.blt i e.on && Nat.testBit (ko ms e.on) i))) else l7 all y x) = true
 | [], _, _, _, _, h, _ => by cases h
 | (i', y') :: r, hs, h, i, y, hm, hij => by
  unfold xz at h
  cases hb : Nat.blt i' j with
  | false =>
   have hlt : ¬ i' < j := fun hh => by
    have : Nat.blt i' j = true := by simpa using hh
    rw [this] at hb; cases hb
   rcases List.mem_cons.1 hm with e | hm
   ·cases e; exact absurd hij hlt
   ·have := (List.pairwise_cons.1 hs).1 _ hm
    omega
  | true =>
   rw [hb] at h
   simp only [cond_true] at h
   generalize hc : (bif Nat.testBit (ko ms j) i' then x.after.toList.any (fun e => Region.binds .any e && (Nat.beq e.on i' || (Nat.blt i' e.on && Nat.testBit (ko ms e.on) i'))) else l7 all y' x) = c at h
   cases c with
   | false => cases h
   | true =>
    rcases List.mem_cons.1 hm with e | hm
    ·cases e; exact hc
    ·exact uC (List.pairwise_cons.1 hs).2 h i y hm hij
theorem qD {ns : List (Nat × Oper)} : ∀ {l : List (Nat × Oper)}, oh all ms ns l = true → ∀ j x, (j, x) ∈ l →
  x.after.toList.all (fun e => bif Region.binds .any e then Nat.blt e.on j else true) = true ∧ xz all ms j x ns = true
 | [], _, _, _, h => by cases h
 | (j', x') :: r, h, j, x, hm => by
  unfold oh at h
  cases hb : (x'.after.toList.all (fun e => bif Region.binds .any e then Nat.blt e.on j' else true) && xz all ms j' x' ns) with
  | false => rw [hb] at h; cases h
  | true =>
   rw [hb] at h
   rcases List.mem_cons.1 hm with e | hm
   ·cases e; simpa using hb
   ·exact qD h j x hm
theorem s5 (h : oh all ms (bL 0 all) (bL 0 all) = true) : Stat all ms := by
 have key := fun j x (hj : all[j]? = some x) => qD h j x (eX.2 ⟨Nat.zero_le _, by simpa using hj⟩)
 have keyJ := fun i j x y (hj : all[j]? = some x) (hi : all[i]? = some y) (hij : i < j) => uC fB (key j x hj).2 i y (eX.2 ⟨Nat.zero_le _, by simpa using hi⟩) hij
 refine ⟨fun j x hj e he hb => ?_, fun i j x y hj hi hij ht => ?_, fun i j x y hj hi hij ht => ?_⟩
 ·have := List.all_eq_true.1 (key j x hj).1 e (by simpa using he)
  rw [hb] at this
  simpa using this
 ·have := keyJ i j x y hj hi hij
  rw [ht] at this
  simp only [cond_true] at this
  obtain ⟨e, he, hh⟩ := List.any_eq_true.1 this
  simp only [Bool.and_eq_true, Bool.or_eq_true] at hh
  exact ⟨e, by simpa using he, hh.1, hh.2.imp (fun h => Nat.eq_of_beq_eq_true h) (fun h => ⟨by simpa using h.1, h.2⟩)⟩
 ·have := keyJ i j x y hj hi hij
  rw [ht] at this
  exact this

structure gp (all : List Oper) (listed : Array Bool) (rest : List (Nat × Oper)) : Prop where
 size : listed.size = all.length
 mem : ∀ i o, (i, o) ∈ rest ↔ all[i]? = some o ∧ listed.getD i true = false
 sorted : rest.Pairwise (fun x y => x.1 < y.1)
 closed : ∀ i o, all[i]? = some o → listed.getD i false = true → ∀ e ∈ o.after, Region.binds .any e = true → listed.getD e.on false = true

theorem oM {listed : Array Bool} {i : Nat} (hi : i < listed.size) : listed.getD i true = listed.getD i false := by
 simp [Array.getD, hi]
theorem ej {i : Nat} {o : Oper} (h : all[i]? = some o) : i < all.length := (List.getElem?_eq_some_iff.1 h).1

theorem vz {listed : Array Bool} {rest : List (Nat × Oper)} (hs : Stat all ms) (hl : gp all listed rest) : ∀ (j i : Nat) (x y : Oper), all[j]? = some x → all[i]? = some y → i < j →
  (∀ e ∈ x.after, Region.binds .any e = true → listed.getD e.on false = true) → Nat.testBit (ko ms j) i = true → listed.getD i false = true := by
 intro j
 induction j using Nat.strongRecOn with
 | _ j ih =>
  intro i x y hj hi hij hd ht
  obtain ⟨e, he, hb, h⟩ := hs.VT i j x y hj hi hij ht
  have hlist := hd e he hb
  rcases h with h | h
  ·rw [← h]; exact hlist
  ·have hej := hs.after j x hj e he hb
   have hlt : e.on < all.length := Nat.lt_trans hej (ej hj)
   obtain ⟨z, hz⟩ : ∃ z, all[e.on]? = some z := ⟨_, List.getElem?_eq_getElem hlt⟩
   exact ih e.on hej i z y hz hi h.1 (hl.closed e.on z hz hlist) h.2

theorem ov {listed : Array Bool} {l1 l2 : List (Nat × Oper)} {j : Nat} {x : Oper} (hl : gp all listed (l1 ++ (j, x) :: l2))
  (hd : ∀ e ∈ x.after, Region.binds .any e = true → listed.getD e.on false = true) : gp all (listed.setIfInBounds j true) (l1 ++ l2) := by
 have hj := (hl.mem j x).1 (by simp)
 have hjs : j < listed.size := by rw [hl.size]; exact ej hj.1
 have hpw := hl.sorted
 rw [List.pairwise_append] at hpw
 refine ⟨by simpa using hl.size, fun i o => ?_, ?_, fun i o hi hli e he hb => ?_⟩
 ·by_cases e : i = j
  ·subst e
   have e1 : (listed.setIfInBounds i true).getD i true = true := by simp
   rw [e1]
   refine ⟨fun h => ?_, fun h => by simp at h⟩
   exfalso
   rcases List.mem_append.1 h with h | h
   ·have := hpw.2.2 _ h (i, x) (by simp)
    exact Nat.lt_irrefl _ this
   ·have := (List.pairwise_cons.1 hpw.2.1).1 _ h
    exact Nat.lt_irrefl _ this
  ·have e1 : (listed.setIfInBounds j true).getD i true = listed.getD i true := getD_set_ne true (Ne.symm e)
   rw [e1, ← hl.mem i o]
   simp [e]
 ·exact List.pairwise_append.2 ⟨hpw.1, (List.pairwise_cons.1 hpw.2.1).2, fun a ha b hb => hpw.2.2 a ha b (by simp [hb])⟩
 ·refine getD_set_true ?_
  by_cases e' : i = j
  ·subst e'
   have : o = x := by rw [hj.1] at hi; cases hi; rfl
   subst this
   exact hd e he hb
  ·rw [getD_set_ne false (Ne.symm e')] at hli
   exact hl.closed i o hi hli e he hb

theorem pM {K : St → Prop} {Q : Exit → Act → World → Prop} (hX : vR P X) (hcall : j3 P callK) (hK : nW X callK) (hs : Stat all ms)
  (hQ : ∀ ρ' s' a' w', Ok w0 ρ' s' a' w' → K s' → Q .normal a' w') :
  ∀ (fuel : Nat) (listed : Array Bool) (rest : List (Nat × Oper)) (acc : List Rec) (s : St) (ρ : Nat → Value) (a : Act) (w : World), gp all listed rest → rest.length ≤ fuel →
   iT X f nb all ms rest acc s K → Ok w0 ρ s a w → wpAny P .any all.toArray Q fuel listed a w := by
 have ready_mem : ∀ {listed : Array Bool} {rest : List (Nat × Oper)}, gp all listed rest → ∀ i, i ∈ Region.ready .any all.toArray listed →
   ∃ x, (i, x) ∈ rest ∧ ∀ e ∈ x.after, Region.binds .any e = true → listed.getD e.on false = true := fun hl i hi => by
  obtain ⟨h0, x, hx, he⟩ := mem_ready.1 hi
  exact ⟨x, (hl.mem i x).2 ⟨by simpa using hx, h0⟩, he⟩
 have empty : ∀ {listed : Array Bool} {rest : List (Nat × Oper)}, gp all listed rest → Region.ready .any all.toArray listed = [] → rest = [] := fun {listed} {rest} hl hr => by
  cases rest with
  | nil => rfl
  | cons ix r =>
   exfalso
   obtain ⟨i, x⟩ := ix
   have hi := (hl.mem i x).1 (by simp)
   have : i ∈ Region.ready .any all.toArray listed := mem_ready.2 ⟨hi.2, x, by simpa using hi.1, fun e he hb => by
    have hlt := hs.after i x hi.1 e he hb
    have hlt' : e.on < all.length := Nat.lt_trans hlt (ej hi.1)
    have hsz : e.on < listed.size := by rw [hl.size]; exact hlt'
    cases hb' : listed.getD e.on false with
    | true => rfl
    | false =>
     have hm := (hl.mem e.on all[e.on]).2 ⟨List.getElem?_eq_getElem hlt', by rw [oM hsz]; exact hb'⟩
     rcases List.mem_cons.1 hm with h | h
     ·have : e.on = i := congrArg (·.1) h
      omega
     ·have := (List.pairwise_cons.1 hl.sorted).1 _ h
      have : i < e.on := this
      omega⟩
   rw [hr] at this; cases this
 intro fuel
 induction fuel with
 | zero =>
  intro listed rest acc s ρ a w hl hf h hok
  have : rest = [] := List.eq_nil_of_length_eq_zero (by omega)
  subst this
  refine ⟨?_, hQ ρ s a w hok h⟩
  cases hr : Region.ready .any all.toArray listed with
  | nil => rfl
  | cons i r =>
   obtain ⟨x, hx, _⟩ := ready_mem hl i (by rw [hr]; simp)
   cases hx
 | succ fuel ih =>
  intro listed rest acc s ρ a w hl hf h hok
  refine ⟨fun hr => ?_, fun j hj => ?_⟩
  ·have := empty hl hr
   subst this
   exact hQ ρ s a w hok h
  ·obtain ⟨x, hx, hd⟩ := ready_mem hl j hj
   obtain ⟨l1, l2, rfl⟩ := List.append_of_mem hx
   have hjx := (hl.mem j x).1 hx
   have hpw := hl.sorted
   rw [List.pairwise_append] at hpw
   have hap : ∀ e ∈ l1, l7 all e.2 x = true ∧ ord ms j e.1 = false ∧ ord ms e.1 j = false := by
    rintro ⟨i, y⟩ he
    have hij : i < j := hpw.2.2 _ he (j, x) (by simp)
    have hiy := (hl.mem i y).1 (by simp [he])
    have hsz : i < listed.size := by rw [hl.size]; exact ej hiy.1
    have hbit : Nat.testBit (ko ms j) i = false := by
     cases hb : Nat.testBit (ko ms j) i with
     | false => rfl
     | true =>
      have := vz hs hl j i x y hjx.1 hiy.1 hij hd hb
      rw [← oM hsz, hiy.2] at this
      cases this
    have h1 : Nat.blt i j = true := by simpa using hij
    have h2 : Nat.blt j i = false := by
     cases hb : Nat.blt j i with
     | false => rfl
     | true =>
      have : j < i := by simpa using hb
      omega
    exact ⟨hs.apart i j x y hjx.1 hiy.1 hij hbit, by simp only [ord, h2, cond_false]; exact hbit, by simp only [ord, h1, cond_true]; exact hbit⟩
   obtain ⟨p, t, F, W, e1, _, e3, e4⟩ := Cp hap h
   refine sZ hX hcall hK hjx.1 hok e1 e3 fun ρ' a' w' hok' => ?_
   refine ih _ _ _ _ ρ' a' w' (ov hl hd) ?_ e4 hok'
   simp only [List.length_append, List.length_cons] at hf ⊢
   omega

theorem Ay {id : Nat} {os : Array Oper} {s : St} {K : St → Prop} {Q : Exit → Act → World → Prop} (hX : vR P X) (hcall : j3 P callK) (hK : nW X callK)
  (hQ : ∀ ρ' s' a' w', Ok w0 ρ' s' a' w' → K s' → Q .normal a' w') (h : drawn X f os.toList s K) (hok : Ok w0 ρ s a w) : (Code.region id os true).wp P Q a w := by
 refine wp_region_any hX.mixed ?_
 unfold drawn at h
 simp only [] at h
 generalize zZ os.toList [] = ms at h
 cases hst : oh os.toList ms (bL 0 os.toList) (bL 0 os.toList) with
 | false => rw [hst] at h; exact h.elim
 | true =>
  rw [hst] at h
  simp only [cond_true] at h
  have hok1 : Ok w0 ρ { s with nx := s.nx + os.toList.length } a { w with drawn := w.drawn + 1 } := by
   have : Ok w0 ρ { s with nx := s.nx + os.toList.length } a w := { hok with }
   exact this.more (fm.drew w)
  have hl : gp os.toList (Array.replicate os.size false) (bL 0 os.toList) := by
   refine ⟨by simp, fun i o => ?_, fB, fun i o hi hli => ?_⟩
   ·rw [eX]
    simp only [Nat.zero_le, Nat.sub_zero, true_and]
    constructor
    ·intro h
     have := ej h
     refine ⟨h, ?_⟩
     have hlt : i < os.size := by simpa using this
     simp [hlt]
    ·exact fun h => h.1
   ·exfalso
    have := ej hi
    have hlt : i < os.size := by simpa using this
    simp [hlt] at hli
  have hlen : (bL 0 os.toList).length ≤ os.size := by
   have : ∀ (l : List Oper) (n : Nat), (bL n l).length = l.length := fun l => by
    induction l with
    | nil => intro n; rfl
    | cons x l ih => intro n; simp [bL, ih]
   rw [this]; simp
  have := pM (f := f) (nb := s.nx) (Q := Q) hX hcall hK (s5 hst) hQ os.size _ _ [] _ ρ a _ hl hlen (uX _ _ _ h) hok1
  simpa using this
theorem vO {listed : Array Bool} {rest : List (Nat × Oper)} (hl : gp all listed rest) (i : Nat) (hi : i ∈ Region.ready .any all.toArray listed) :
  ∃ x, (i, x) ∈ rest ∧ ∀ e ∈ x.after, Region.binds .any e = true → listed.getD e.on false = true := by
 obtain ⟨h0, x, hx, he⟩ := mem_ready.1 hi
 exact ⟨x, (hl.mem i x).2 ⟨by simpa using hx, h0⟩, he⟩
theorem vB {listed : Array Bool} {rest : List (Nat × Oper)} (hs : Stat all ms) (hl : gp all listed rest) (hr : Region.ready .any all.toArray listed = []) : rest = [] := by
 cases rest with
 | nil => rfl
 | cons ix r =>
  exfalso
  obtain ⟨i, x⟩ := ix
  have hi := (hl.mem i x).1 (by simp)
  have : i ∈ Region.ready .any all.toArray listed := mem_ready.2 ⟨hi.2, x, by simpa using hi.1, fun e he hb => by
   have hlt := hs.after i x hi.1 e he hb
   have hlt' : e.on < all.length := Nat.lt_trans hlt (ej hi.1)
   have hsz : e.on < listed.size := by rw [hl.size]; exact hlt'
   cases hb' : listed.getD e.on false with
   | true => rfl
   | false =>
    have hm := (hl.mem e.on all[e.on]).2 ⟨List.getElem?_eq_getElem hlt', by rw [oM hsz]; exact hb'⟩
    rcases List.mem_cons.1 hm with h | h
    ·have : e.on = i := congrArg (·.1) h
     omega
    ·have := (List.pairwise_cons.1 hl.sorted).1 _ h
     have : i < e.on := this
     omega⟩
  rw [hr] at this; cases this
theorem pa {listed : Array Bool} {rest : List (Nat × Oper)} (hs : Stat all ms) (hl : gp all listed rest) {i j : Nat} {x y : Oper} (hj : (j, x) ∈ rest) (hi : (i, y) ∈ rest) (hij : i < j)
  (hd : ∀ e ∈ x.after, Region.binds .any e = true → listed.getD e.on false = true) : Nat.testBit (ko ms j) i = false := by
 have hiy := (hl.mem i y).1 hi
 have hjx := (hl.mem j x).1 hj
 have hsz : i < listed.size := by rw [hl.size]; exact ej hiy.1
 cases hb : Nat.testBit (ko ms j) i with
 | false => rfl
 | true =>
  have := vz hs hl j i x y hjx.1 hiy.1 hij hd hb
  rw [← oM hsz, hiy.2] at this
  cases this
theorem EJ {K1 : St → Prop} {Q : Exit → Act → World → Prop} (hX : vR P X) (hcall : j3 P callK) (hK : nW X callK) (hs : Stat all ms) {p : Nat} {x : Oper} {post : List (Nat × Oper)}
  (hpost : ∀ e ∈ post, Nat.testBit (ko ms e.1) p = true)
  (next : ∀ (fuel : Nat) (listed : Array Bool) (s : St) (ρ : Nat → Value) (a : Act) (w : World), Ok w0 ρ s a w → K1 s → gp all listed ((p, x) :: post) → post.length + 1 ≤ fuel → wpAny P .any all.toArray Q fuel listed a w) :
  ∀ (fuel : Nat) (listed : Array Bool) (pre : List (Nat × Oper)) (acc : List Rec) (s : St) (ρ : Nat → Value) (a : Act) (w : World), (∀ e ∈ pre, Nat.testBit (ko ms p) e.1 = true) →
   gp all listed (pre ++ (p, x) :: post) → pre.length + post.length + 1 ≤ fuel → iT X f nb all ms pre acc s K1 → Ok w0 ρ s a w → wpAny P .any all.toArray Q fuel listed a w := by
 intro fuel
 induction fuel with
 | zero => intro listed pre acc s ρ a w _ _ hf; omega
 | succ fuel ih =>
  intro listed pre acc s ρ a w hpre hl hf h hok
  cases pre with
  | nil => exact next (fuel + 1) listed s ρ a w hok h (by simpa using hl) (by simpa using hf)
  | cons e0 pre0 =>
   refine ⟨fun hr => absurd (vB hs hl hr) (by simp), fun j hj => ?_⟩
   obtain ⟨y, hy, hd⟩ := vO hl j hj
   have hsorted := hl.sorted
   rcases List.mem_append.1 hy with hy1 | hy1
   ·obtain ⟨l1, l2, hl12⟩ := List.append_of_mem hy1
    rw [hl12] at hl h hpre hf
    have hjx := (hl.mem j y).1 (by simp)
    have hpw := hl.sorted
    rw [List.append_assoc, List.pairwise_append] at hpw
    have hap : ∀ e ∈ l1, l7 all e.2 y = true ∧ ord ms j e.1 = false ∧ ord ms e.1 j = false := by
     rintro ⟨i, z⟩ he
     have hij : i < j := hpw.2.2 _ he (j, y) (by simp)
     have hiz := (hl.mem i z).1 (by simp [he])
     have hbit := pa hs hl (i := i) (j := j) (x := y) (y := z) (by simp) (by simp [he]) hij hd
     have h1 : Nat.blt i j = true := by simpa using hij
     have h2 : Nat.blt j i = false := by
      cases hb : Nat.blt j i with
      | false => rfl
      | true =>
       have : j < i := by simpa using hb
       omega
     exact ⟨hs.apart i j y z hjx.1 hiz.1 hij hbit, by simp only [ord, h2, cond_false]; exact hbit, by simp only [ord, h1, cond_true]; exact hbit⟩
    obtain ⟨q, t, F, W, e1, _, e3, e4⟩ := Cp hap h
    refine sZ hX hcall hK hjx.1 hok e1 e3 fun ρ' a' w' hok' => ?_
    refine ih _ (l1 ++ l2) _ _ ρ' a' w' (fun e he => hpre e ?_) ?_ ?_ e4 hok'
    ·rcases List.mem_append.1 he with he | he
     ·simp [he]
     ·simp [he]
    ·have := ov (l1 := l1) (l2 := l2 ++ (p, x) :: post) (j := j) (x := y) (by simpa using hl) hd
     simpa using this
    ·simp only [List.length_append, List.length_cons] at hf ⊢
     omega
   ·exfalso
    rcases List.mem_cons.1 hy1 with e | hy2
    ·cases e
     obtain ⟨i, z⟩ := e0
     have hlt : i < p := by
      rw [List.pairwise_append] at hsorted
      exact hsorted.2.2 (i, z) (by simp) (p, x) (by simp)
     have := pa hs hl (i := i) (j := p) (x := x) (y := z) (by simp) (by simp) hlt hd
     rw [hpre (i, z) (by simp)] at this
     cases this
    ·have hlt : p < j := by
      rw [List.pairwise_append] at hsorted
      exact (List.pairwise_cons.1 hsorted.2.1).1 (j, y) hy2
     have := pa hs hl (i := p) (j := j) (x := y) (y := x) (by simp [hy2]) (by simp) hlt hd
     rw [hpost (j, y) hy2] at this
     cases this
theorem pv {bp : Oper → Bool} : ∀ {l a b : List (Nat × Oper)} {e : Nat × Oper}, nH bp l = (a, some (e, b)) → l = a ++ e :: b
 | [], _, _, _, h => by cases h
 | q :: r, a, b, e, h => by
  unfold nH at h
  cases hq : bp q.2 with
  | true => rw [hq] at h; cases h; rfl
  | false =>
   rw [hq] at h
   simp only [cond_false] at h
   generalize hr : nH bp r = u at h
   obtain ⟨a', b'⟩ := u
   simp only [Prod.mk.injEq] at h
   obtain ⟨rfl, rfl⟩ := h
   rw [pv hr]; rfl
theorem AI {K : St → Prop} {Q : Exit → Act → World → Prop} (hX : vR P X) (hcall : j3 P callK) (hK : nW X callK) (hs : Stat all ms)
  (hQ : ∀ ρ' s' a' w', Ok w0 ρ' s' a' w' → K s' → Q .normal a' w') :
  ∀ (n fuel : Nat) (listed : Array Bool) (rest : List (Nat × Oper)) (s : St) (ρ : Nat → Value) (a : Act) (w : World), gp all listed rest → rest.length ≤ fuel →
   zO X callK f nb all ms n rest s K → Ok w0 ρ s a w → wpAny P .any all.toArray Q fuel listed a w := by
 intro n
 induction n with
 | zero => exact fun fuel listed rest s ρ a w hl hf h hok => pM (f := f) (nb := nb) hX hcall hK hs hQ fuel listed rest [] s ρ a w hl hf (uX _ _ _ h) hok
 | succ n ih =>
  intro fuel listed rest s ρ a w hl hf h hok
  unfold zO at h
  split at h
  ·rename_i pre e post hsp
   have hrest := pv hsp
   obtain ⟨p, x⟩ := e
   cases hb : (Vp x && Je ms pre post p) with
   | false => rw [hb] at h; exact h.elim
   | true =>
    rw [hb] at h
    simp only [cond_true] at h
    simp only [Bool.and_eq_true, Je, List.all_eq_true] at hb
    subst hrest
    have hg : x.guard = none := by
     have := hb.1
     unfold Vp at this
     split at this
     ·assumption
     ·cases this
    refine EJ (K1 := fun s1 => FJ X callK f s1 (nb + p) x (fun s2 => zO X callK f nb all ms n post s2 K)) (f := f) (nb := nb) hX hcall hK hs (fun e he => hb.2.2 e he) ?_ fuel listed pre [] s ρ a w (fun e he => hb.2.1 e he) hl ?_ (uX _ _ _ h) hok
    ·intro fuel listed s ρ a w hok hop hl hf
     obtain ⟨m, rfl⟩ : ∃ m, fuel = m + 1 := ⟨fuel - 1, by omega⟩
     refine ⟨fun hr => absurd (vB hs hl hr) (by simp), fun j hj => ?_⟩
     obtain ⟨y, hy, hd⟩ := vO hl j hj
     rcases List.mem_cons.1 hy with e | hy2
     ·cases e
      have hjx := (hl.mem p x).1 (by simp)
      have ho' : all.toArray[p]? = some x := by simpa using hjx.1
      unfold wpOp
      rw [ho']
      have hw : Region.wanted x (yielded all.toArray a.tmps) = true := by simp [Region.wanted, hg]
      simp only [hw, if_true]
      exact .inl (oC hX hcall hok hop (fun ρ' s' a' w' hok' hK' => ih m _ post s' ρ' a' w' (by simpa using ov (l1 := []) (by simpa using hl) hd) (by omega) hK' hok'))
     ·exfalso
      have hlt : p < j := (List.pairwise_cons.1 hl.sorted).1 (j, y) hy2
      have := pa hs hl (i := p) (j := j) (x := y) (y := x) (by simp [hy2]) (by simp) hlt hd
      rw [hb.2.2 (j, y) hy2] at this
      cases this
    ·simp only [List.length_append, List.length_cons] at hf
     omega
  ·exact pM (f := f) (nb := nb) hX hcall hK hs hQ fuel listed rest [] s ρ a w hl hf (uX _ _ _ h) hok
theorem zE {os : Array Oper} : gp os.toList (Array.replicate os.size false) (bL 0 os.toList) := by
 refine ⟨by simp, fun i o => ?_, fB, fun i o hi hli => ?_⟩
 ·rw [eX]
  simp only [Nat.zero_le, Nat.sub_zero, true_and]
  constructor
  ·intro h
   have := ej h
   refine ⟨h, ?_⟩
   have hlt : i < os.size := by simpa using this
   simp [hlt]
  ·exact fun h => h.1
 ·exfalso
  have := ej hi
  have hlt : i < os.size := by simpa using this
  simp [hlt] at hli
theorem mW : ∀ (l : List Oper) (n : Nat), (bL n l).length = l.length
 | [], _ => rfl
 | _ :: l, n => by simp [bL, mW l]
theorem zk {id : Nat} {os : Array Oper} {s : St} {K : St → Prop} {Q : Exit → Act → World → Prop} (hX : vR P X) (hcall : j3 P callK) (hK : nW X callK)
  (hQ : ∀ ρ' s' a' w', Ok w0 ρ' s' a' w' → K s' → Q .normal a' w') (h : BW X callK f os.toList s K) (hok : Ok w0 ρ s a w) : (Code.region id os true).wp P Q a w := by
 refine wp_region_any hX.mixed ?_
 unfold BW at h
 simp only [] at h
 generalize zZ os.toList [] = ms at h
 cases hst : oh os.toList ms (bL 0 os.toList) (bL 0 os.toList) with
 | false => rw [hst] at h; exact h.elim
 | true =>
  rw [hst] at h
  simp only [cond_true] at h
  have hok1 : Ok w0 ρ { s with nx := s.nx + os.toList.length } a { w with drawn := w.drawn + 1 } := by
   have : Ok w0 ρ { s with nx := s.nx + os.toList.length } a w := { hok with }
   exact this.more (fm.drew w)
  have := AI (f := f) (nb := s.nx) (Q := Q) hX hcall hK (s5 hst) hQ os.toList.length os.size _ _ _ ρ a _ zE (by rw [mW]; simp) h hok1
  simpa using this
end
end Go.Sx
