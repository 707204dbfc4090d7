/-
 Sx: a verified executor over the loaded code, part 4 of 4.
-/
import Derived.Test.YtlnlichdidobpaaGreatDoorSxP3
import Derived.ProofKit
import Derived.SizedLaws
import Derived.Deep.Slices
import Derived.Carry
import Derived.Handed
import Derived.LaidLaws
import Derived.LaidHandle
import Derived.MakeChecks
import Derived.Lib.LaidTab
import Derived.JoinedOf
import Derived.Stop.LaidErr
import Derived.Deep.DeepHandedRow
/-
 Sx, part Q: invariants: a state that is one of an invariant's.
-/
namespace Go.Sx
open Go.RowKit

section
variable {w0 : cz} {w : World} {ρ : Nat → Value} {s s' : St} {a : Act}

theorem fV : ∀ (sl : List (Nat × SV)) (j : Nat) (s : St) (ρ : Nat → Value), Ok w0 ρ s a w → ∀ v : Inv, ∃ ρ1, Ok w0 ρ1 (iC s v j sl) a w
 | [], j, s, ρ, h, v => ⟨ρ, h⟩
 | (d, x) :: r, j, s, ρ, h, v => by
  have key : ∀ t, aF s.fr d = .one (.aC (.slice none 0 0)) → s.us j = false → ∃ ρ1, Ok w0 ρ1 ((s.new j (.row t [])).put (some d) (.one (.row j))) a w := fun t hl hu => by
   have hok := h.new (he := .row t []) (v := .slice none 0 0) hu (fm.refl w) (fun b e => by cases e) (.inl ⟨aw _ _ _, rfl⟩)
   have e3 : bF ρ j (.slice none 0 0) j = .slice none 0 0 := aw _ _ _
   have hv := h.frame d
   rw [hl] at hv
   obtain ⟨h1, _⟩ := aK.bb rfl (by simp) hv
   simp only [List.cons.injEq, and_true] at h1
   refine ⟨_, hok.tell d (v := .one (.row j)) (aK.ki (p := .row j) rfl ⟨bA _ _, ?_, ?_⟩)⟩
   ·show [_] = [bF ρ j _ j]
    rw [e3, h1]
   ·show (bF ρ j _ j).oneCell' = true
    rw [e3]; rfl
  unfold iC
  cases x with
  | one p =>
   cases p with
   | row k =>
    simp only []
    split
    ·rename_i t xs hl ha
     cases hu : s.us j with
     | true => exact fV r (j + 1) s ρ h v
     | false =>
      obtain ⟨ρ1, h1⟩ := key t hl hu
      exact fV r (j + 1) _ ρ1 h1 v
    ·exact fV r j s ρ h v
   | _ => exact fV r j s ρ h v
  | _ => exact fV r j s ρ h v

theorem b9.Ui {c : Cx} {p q : PV} (h : ∀ l, iD c p l → iD c q l) : ∀ {pre ps : List PV} {l : List Value}, b9 c (pre ++ (p :: ps)) l → b9 c (pre ++ (q :: ps)) l
 | [], ps, l, hp => by
  obtain ⟨a, b, e, h1, h2⟩ := hp
  exact ⟨a, b, e, h _ h1, h2⟩
 | x :: pre, ps, l, hp => by
  obtain ⟨a, b, e, h1, h2⟩ := hp
  exact ⟨a, b, e, h1, b9.Ui h h2⟩
theorem vw (v : Inv) (k : Nat) : ∀ (ps qs pre : List PV) (j : Nat) (s : St) (ρ : Nat → Value), Ok w0 ρ s a w → s.hp k = some (.box (pre ++ ps)) → ∃ ρ1, Ok w0 ρ1 (vh s v k pre j ps qs) a w
 | [], _, pre, j, s, ρ, h, _ => ⟨ρ, h⟩
 | _ :: _, [], pre, j, s, ρ, h, _ => ⟨ρ, h⟩
 | p :: ps, q :: qs, pre, j, s, ρ, h, hk => by
  have step : ∃ ρ1, Ok w0 ρ1 (vh s v k (pre ++ [p]) j ps qs) a w := vw v k ps qs (pre ++ [p]) j s ρ h (by rw [List.append_assoc]; exact hk)
  unfold vh
  split
  ·rename_i n
   split
   ·rename_i t xs ha
    cases hu : s.us j with
    | true => exact ⟨ρ, h⟩
    | false =>
     have hne : k ≠ j := fun e => by
      have := h.used k _ hk
      rw [e, hu] at this; cases this
     have hok := h.new (he := .row t []) (v := .slice none 0 0) hu (fm.refl w) (fun b e => by cases e) (.inl ⟨aw _ _ _, rfl⟩)
     have e3 : bF ρ j (.slice none 0 0) j = .slice none 0 0 := aw _ _ _
     have hk1 : (s.new j (.row t [])).hp k = some (.box (pre ++ (.aC (.slice none 0 0) :: ps))) := by
      show fK s.hp j _ k = _
      rw [bI _ _ hne]; exact hk
     obtain ⟨b, e, cs, h1, h2, h3⟩ := hok.heap k _ hk1
     have hle := r5 (w0 := w0) (ρ := bF ρ j (.slice none 0 0)) (s := s.new j (.row t [])) (w := w) (w' := w) (k := k) (he := .box (pre ++ (.row j :: ps))) ⟨_, hk1⟩ (Nat.le_refl _) (fun _ _ => rfl)
     have hok2 := hok.fY (he := .box (pre ++ (.row j :: ps))) hk1 (Below.refl _ _) (fun _ _ => rfl) ⟨b, e, cs, h1, h2, b9.Ui (p := .aC (.slice none 0 0)) (fun l hl => by
      refine ⟨bA _ _, ?_, ?_⟩
      ·show l = [bF ρ j _ j]
       rw [e3]; exact hl.1
      ·show (bF ρ j _ j).oneCell' = true
       rw [e3]; rfl) (h3.mono hle)⟩
     obtain ⟨ρ1, h4⟩ := vw v k ps qs (pre ++ [.row j]) (j + 1) _ _ hok2 (by rw [List.append_assoc]; exact dw _ _ _)
     exact ⟨ρ1, h4⟩
   ·exact step
  ·exact step
theorem fI (v : Inv) : ∀ (l : List (Nat × HE)) (j : Nat) (s : St) (ρ : Nat → Value), Ok w0 ρ s a w → ∃ ρ1, Ok w0 ρ1 (mD s v j l) a w
 | [], j, s, ρ, h => ⟨ρ, h⟩
 | (k, he) :: r, j, s, ρ, h => by
  unfold mD
  cases he with
  | box qs =>
   simp only []
   split
   ·rename_i ps hk
    obtain ⟨ρ1, h1⟩ := vw v k ps qs [] j s ρ h hk
    exact fI v r (j + qs.length) _ ρ1 h1
   ·exact fI v r j s ρ h
  | row t xs => exact fI v r j s ρ h
  | jP f ps => exact fI v r j s ρ h
  | map kk t xs => exact fI v r j s ρ h
  | pmap kk xs => exact fI v r j s ρ h

theorem xB : ∀ (fr : List SV) (i : Nat), aF (J6 fr) i = .one .any
 | [], _ => rfl
 | _ :: _, 0 => rfl
 | _ :: r, i + 1 => xB r i
theorem vu : ∀ {x y : List SV}, tC x y = true → x.length = y.length
 | [], [], _ => rfl
 | _ :: r, _ :: q, h => by simp [vu (x := r) (y := q) h]
 | [], _ :: _, h => by cases h
 | _ :: _, [], h => by cases h
theorem Av : ∀ {l : List Nat} {n : Nat}, qX n l = true ↔ n ∈ l
 | [], n => by simp [qX]
 | k :: r, n => by
  unfold qX
  by_cases e : n = k
  ·subst e; simp
  ·rw [r8 e]; simp [Av (l := r), e]

theorem px : ∀ (sl : List (Nat × SV)) (fr : List SV) (i : Nat), aF (kP fr sl) i = aF fr i ∨ (∃ v, (i, v) ∈ sl ∧ aF (kP fr sl) i = v) ∨ aF (kP fr sl) i = .one .any
 | [], fr, i => .inl rfl
 | (d, v) :: r, fr, i => by
  rcases px r (jI fr d v) i with h | ⟨u, hu, h⟩ | h
  ·by_cases e : d = i
   ·subst e
    rw [gk] at h
    by_cases hd : d < fr.length
    ·rw [if_pos hd] at h
     exact .inr (.inl ⟨v, by simp, h⟩)
    ·rw [if_neg hd] at h
     exact .inr (.inr h)
   ·rw [gw _ _ _ _ e] at h
    exact .inl h
  ·exact .inr (.inl ⟨u, by simp [hu], h⟩)
  ·exact .inr (.inr h)

theorem x7 : ∀ {l : List (Nat × HE)} {k : Nat} {h : HE}, assoc l k = some h → (k, h) ∈ l
 | [], _, _, e => by cases e
 | (j, g) :: r, k, h, e => by
  unfold assoc at e
  by_cases ek : k = j
  ·subst ek
   rw [show Nat.beq k k = true from by simp] at e
   simp only [cond_true, Option.some.injEq] at e
   subst e; simp
  ·rw [r8 ek] at e
   exact List.mem_cons_of_mem _ (x7 e)

theorem tg {σ : Ren} : ∀ {sl : List (Nat × SV)}, y3 σ s sl → ∀ {d v}, (d, v) ∈ sl → GC σ (aF s.fr d) v
 | [], _, _, _, h => by cases h
 | (d', v') :: r, h, d, v, hm => by
  rcases List.mem_cons.1 hm with e | hm
  ·simp only [Prod.mk.injEq] at e
   obtain ⟨rfl, rfl⟩ := e
   exact h.1
  ·exact tg h.2 hm
theorem gZ {σ : Ren} : ∀ {hl : List (Nat × HE)}, BM σ s hl → ∀ {k h}, (k, h) ∈ hl → ∃ h', s.hp (σ.at k) = some h' ∧ IH σ h' h
 | [], _, _, _, h => by cases h
 | (k', g) :: r, h, k, g', hm => by
  rcases List.mem_cons.1 hm with e | hm
  ·simp only [Prod.mk.injEq] at e
   obtain ⟨rfl, rfl⟩ := e
   have h1 := h.1
   split at h1
   ·rename_i h' e; exact ⟨h', e, h1⟩
   ·exact h1.elim
  ·exact gZ h.2 hm
theorem tc {v : Inv} : ∀ {sl : List (Nat × SV)} {seen : List Nat}, qq v sl seen = true → ∀ {d x}, (d, x) ∈ sl → w8 v x = true
 | [], _, _, _, _, h => by cases h
 | (d', x') :: r, seen, h, d, x, hm => by
  unfold qq at h
  cases h1 : qX d' seen with
  | true => rw [h1] at h; cases h
  | false =>
   rw [h1] at h
   simp only [cond_false] at h
   cases h2 : w8 v x' with
   | false => rw [h2] at h; cases h
   | true =>
    rw [h2] at h
    simp only [cond_true] at h
    rcases List.mem_cons.1 hm with e | hm
    ·simp only [Prod.mk.injEq] at e
     obtain ⟨rfl, rfl⟩ := e
     exact h2
    ·exact tc h hm
def RM (v : Inv) : HE → Bool
 | .box ps => wV v ps
 | .jP _ ps => wV v ps
 | .row _ _ => true
 | .map _ _ _ => true
 | .pmap _ _ => false
theorem wo {v : Inv} : ∀ {hl : List (Nat × HE)} {seen : List Nat}, mb v hl seen = true → ∀ {k h}, (k, h) ∈ hl → RM v h = true
 | [], _, _, _, _, h => by cases h
 | (k', g) :: r, seen, h, k, g', hm => by
  have h' : qX k' seen = false ∧ RM v g = true ∧ mb v r (k' :: seen) = true := by
   by_cases hpm : ∃ kk es, g = .pmap kk es
   ·obtain ⟨kk, es, rfl⟩ := hpm
    cases h
   cases g <;> (try exact absurd ⟨_, _, rfl⟩ hpm) <;> unfold mb at h <;> cases h1 : qX k' seen <;> rw [h1] at h <;> simp only [cond_false, cond_true, Bool.false_eq_true] at h
   ·rename_i ps
    cases h2 : wV v ps with
    | false => rw [h2] at h; cases h
    | true => rw [h2] at h; exact ⟨rfl, h2, h⟩
   ·exact ⟨rfl, rfl, h⟩
   ·rename_i ps
    cases h2 : wV v ps with
    | false => rw [h2] at h; cases h
    | true => rw [h2] at h; exact ⟨rfl, h2, h⟩
   ·exact ⟨rfl, rfl, h⟩
  rcases List.mem_cons.1 hm with e | hm
  ·simp only [Prod.mk.injEq] at e
   obtain ⟨rfl, rfl⟩ := e
   exact h'.2.1
  ·exact wo h'.2.2 hm
theorem zW {σ : Ren} : ∀ {hl : List (Nat × HE)} {seen : List Nat}, Lh σ hl seen = true → (∀ k h, (k, h) ∈ hl → σ.at k ∉ seen) ∧ ∀ k h k' h', (k, h) ∈ hl → (k', h') ∈ hl → σ.at k = σ.at k' → k = k'
 | [], _, _ => ⟨fun _ _ h => (by cases h), fun _ _ _ _ h => (by cases h)⟩
 | (j, g) :: r, seen, h => by
  unfold Lh at h
  cases h1 : qX (σ.at j) seen with
  | true => rw [h1] at h; cases h
  | false =>
   rw [h1] at h
   simp only [cond_false] at h
   obtain ⟨h2, h3⟩ := zW h
   have h1' : σ.at j ∉ seen := fun e => by rw [Av.2 e] at h1; cases h1
   refine ⟨fun k g' hm => ?_, fun k g1 k' g2 hm hm' e => ?_⟩
   ·rcases List.mem_cons.1 hm with e | hm
    ·simp only [Prod.mk.injEq] at e
     obtain ⟨rfl, rfl⟩ := e
     exact h1'
    ·exact fun e => h2 k g' hm (List.mem_cons_of_mem _ e)
   ·rcases List.mem_cons.1 hm with e1 | hm
    ·simp only [Prod.mk.injEq] at e1
     obtain ⟨rfl, rfl⟩ := e1
     rcases List.mem_cons.1 hm' with e2 | hm'
     ·simp only [Prod.mk.injEq] at e2
      exact e2.1.symm
     ·exact absurd (by rw [e]; simp) (h2 k' g2 hm')
    ·rcases List.mem_cons.1 hm' with e2 | hm'
     ·simp only [Prod.mk.injEq] at e2
      exact absurd (by rw [e, e2.1]; simp) (h2 k g1 hm)
     ·exact h3 k g1 k' g2 hm hm' e

structure Over (σ : Ren) (v : Inv) (c c' : Cx) : Prop where
 ρ : ∀ k, c'.ρ k = c.ρ (σ.at k)
 us : ∀ k, (assoc v.heap k).isSome = true → c'.us k = true
 keep : gD c.S c.w c'.S c'.w

theorem Kj {v : Value} (h : isNil v = true) : v = .slice none 0 0 := by
 unfold isNil at h
 split at h
 ·rfl
 ·cases h
theorem hG {a b : Nat} (h : Dl a b) : a = b := by
 unfold Dl at h
 split at h
 ·rename_i e; exact Nat.eq_of_beq_eq_true e
 ·exact h.elim
theorem Gh {σ : Ren} {v : Inv} {c c' : Cx} (h : Over σ v c c') {p q : PV} {l : List Value} (hle : Fp σ p q) (hq : MW v q = true) (hp : iD c p l) : iD c' q l := by
 cases q with
 | any =>
  have hg : p.agg = false := by
   simp only [Fp] at hle
   cases e : p.agg with
   | true => rw [e] at hle; exact hle.elim
   | false => rfl
  have hl := hp.len
  have h1 := hp.one
  have hsz : p.size = 1 := by
   cases p with
   | d t x => cases t <;> first | rfl | cases hg
   | _ => rfl
  rw [hsz] at hl
  match l, hl with
  | [u], _ => exact ⟨u, rfl, h1 u (by simp)⟩
 | d u y =>
  cases p with
  | d t x =>
   have hle : Sl t x u y := hle
   unfold Sl at hle
   split at hle
   ·rename_i x' e
    subst hle
    obtain ⟨e2, rfl⟩ := du e
    subst e2
    exact Rd.mono h.keep hp
   ·exact hle.elim
  | lit b =>
   have hle : Jt b u y := hle
   cases u <;> first | exact hle.elim | skip
   have hle : b = y := hle
   subst hle; exact hp
  | aC z =>
   have hle : IW z u y := hle
   cases u with
   | sl t =>
    have hle : (match isNil z with
     | true => y = []
     | false => False) := hle
    cases e : isNil z with
    | true =>
     rw [e] at hle
     have hz := Kj e
     subst hz
     have hle : y = [] := hle
     subst hle
     exact ⟨none, 0, hp.1, Nat.le_refl _, by simp [maxLen], fun h => absurd h (by simp)⟩
    | false => rw [e] at hle; exact hle.elim
   | err =>
    have hle : (match yI z with
     | true => (y : Bool) = false
     | false => False) := hle
    cases e : yI z with
    | true =>
     rw [e] at hle
     have hz : z = .nilIface := by
      unfold yI at e
      split at e
      ·rfl
      ·cases e
     subst hz
     have hle : y = false := hle
     subst hle
     exact .inl ⟨rfl, hp.1⟩
    | false => rw [e] at hle; exact hle.elim
   | _ => exact (hle : False).elim
  | _ => exact (hle : False).elim
 | lit b =>
  cases p with
  | lit b' => have hle : b' = b := hle; subst hle; exact hp
  | _ => exact (hle : False).elim
 | aC u =>
  cases p with
  | aC u' => have hle : u' = u := hle; subst hle; exact hp
  | _ => exact (hle : False).elim
 | row k =>
  cases p with
  | row j =>
   have hle : σ.at k = j := hG hle
   subst hle
   exact ⟨h.us k hq, by rw [h.ρ k]; exact hp.2⟩
  | _ => exact (hle : False).elim
 | ptr k o =>
  cases p with
  | ptr j o' =>
   obtain ⟨hle1, rfl⟩ : σ.at k = j ∧ o' = o := ⟨hG hle.1, hG hle.2⟩
   subst hle1
   exact ⟨h.us k hq, by rw [h.ρ k]; exact hp.2⟩
  | _ => exact (hle : False).elim
 | jP k =>
  cases p with
  | jP j =>
   have hle : σ.at k = j := hG hle
   subst hle
   exact ⟨h.us k hq, by rw [h.ρ k]; exact hp.2⟩
  | _ => exact (hle : False).elim
 | wG k sz i j n' sz' i' j' => exact (hle : False).elim
 | sub k k' sz x y => exact (hle : False).elim
 | tu k off n sz => exact (hle : False).elim
 | rel k sz i j =>
  cases p with
  | rel k' sz' i' j' =>
   obtain ⟨⟨e1, e2, e3⟩, rfl⟩ : (σ.at k = k' ∧ sz' = sz ∧ j' = j) ∧ i' = i := ⟨⟨hG hle.1.1, hG hle.1.2.1, hG hle.1.2.2⟩, hle.2⟩
   subst e1 e2 e3
   exact ⟨h.us k hq, by rw [h.ρ k]; exact hp.2⟩
  | _ => exact (hle : False).elim
 | pV k off n sz i j =>
  cases p with
  | pV k' off' n' sz' i' j' =>
   obtain ⟨⟨e1, e2, e3, e4, e5⟩, rfl⟩ : (σ.at k = k' ∧ off' = off ∧ n' = n ∧ sz' = sz ∧ j' = j) ∧ i' = i :=
    ⟨⟨hG hle.1.1, hG hle.1.2.1, hG hle.1.2.2.1, hG hle.1.2.2.2.1, hG hle.1.2.2.2.2⟩, hle.2⟩
   subst e1 e2 e3 e4 e5
   exact ⟨h.us k hq, by rw [h.ρ k]; exact hp.2⟩
  | _ => exact (hle : False).elim
 | zz t x => cases hq

theorem wi {σ : Ren} {v : Inv} {c c' : Cx} (h : Over σ v c c') : ∀ {ps qs : List PV} {l : List Value}, xi σ ps qs → wV v qs = true → b9 c ps l → b9 c' qs l
 | [], [], l, _, _, hp => hp
 | p :: ps, q :: qs, l, hle, hq, hp => by
  obtain ⟨l1, l2, e, h1, h2⟩ := hp
  unfold wV at hq
  cases hq1 : MW v q with
  | false => rw [hq1] at hq; cases hq
  | true =>
   rw [hq1] at hq
   exact ⟨l1, l2, e, Gh h hle.1 hq1 h1, wi h hle.2 hq h2⟩
 | [], _ :: _, _, hle, _, _ => hle.elim
 | _ :: _, [], _, hle, _, _ => hle.elim
theorem Aq {σ : Ren} : ∀ {ps qs : List PV}, xi σ ps qs → ps.length = qs.length
 | [], [], _ => rfl
 | _ :: ps, _ :: qs, h => by simp [Aq h.2]
 | [], _ :: _, h => h.elim
 | _ :: _, [], h => h.elim
theorem Bg {σ : Ren} {p q : PV} (h : Fp σ p q) (hp : p.agg = false) : q.agg = false := by
 cases q with
 | d u y =>
  cases p with
  | d t x =>
   have hle : Sl t x u y := h
   unfold Sl at hle
   split at hle
   ·rename_i x' e
    obtain ⟨e2, _⟩ := du e
    subst e2; exact hp
   ·exact hle.elim
  | lit b => have hle : Jt b u y := h; cases u <;> first | exact hle.elim | rfl
  | aC z => have hle : IW z u y := h; cases u <;> first | rfl | exact (hle : False).elim
  | _ => exact (h : False).elim
 | _ => rfl
theorem BD {σ : Ren} : ∀ {ps qs : List PV}, xi σ ps qs → (∀ p ∈ ps, p.agg = false) → ∀ q ∈ qs, q.agg = false
 | [], [], _, _ => by simp
 | p :: ps, q :: qs, h, hp => by
  intro x hx
  rcases List.mem_cons.1 hx with e | hx
  ·subst e; exact Bg h.1 (hp p (by simp))
  ·exact BD h.2 (fun y hy => hp y (by simp [hy])) x hx
 | [], _ :: _, h, _ => h.elim
 | _ :: _, [], h, _ => h.elim

theorem Lc {σ : Ren} {v : Inv} {c c' : Cx} (h : Over σ v c c') {x y : SV} {u : Value} (hle : GC σ x y) (hy : w8 v y = true) (hx : aK c x u) : aK c' y u := by
 cases y with
 | one q =>
  by_cases hq : q = .any
  ·subst hq; trivial
  ·cases x with
   | one p =>
    have hle' : Fp σ p q := by cases q <;> first | exact absurd rfl hq | exact hle
    have hpn : p ≠ .any := fun e => by subst e; cases q <;> first | exact absurd rfl hq | exact (hle' : False).elim
    cases hg : p.agg with
    | false => exact aK.ki (Bg hle' hg) (Gh h hle' hy (aK.bb hg hpn hx))
    | true =>
     cases p with
     | d t z =>
      cases q with
      | d t' z' =>
       have hle2 : Sl t z t' z' := hle'
       unfold Sl at hle2
       split at hle2
       ·rename_i x' e
        subst hle2
        obtain ⟨e2, rfl⟩ := du e
        subst e2
        have hx' : dW c t.agg [.d t z] u := hx
        show dW c' t.agg [.d t z] u
        rw [show t.agg = true from hg] at hx' ⊢
        obtain ⟨cs, e1, l1, l2, e2, h1, h2⟩ := hx'
        exact ⟨cs, e1, l1, l2, e2, Rd.mono h.keep h1, h2⟩
       ·exact hle2.elim
      | any => exact absurd rfl hq
      | _ => exact (hle' : False).elim
     | _ => cases hg
   | agg ps => cases q <;> first | exact absurd rfl hq | exact (hle : False).elim
   | gB es => cases q <;> first | exact absurd rfl hq | exact (hle : False).elim
   | lT b p => cases q <;> first | exact absurd rfl hq | exact (hle : False).elim
 | agg qs =>
  cases x with
  | agg ps => obtain ⟨cs, e, hp⟩ := hx; exact ⟨cs, e, wi h hle hy hp⟩
  | one p =>
   have hle2 : (match p.agg with
    | true => xi σ p.parts qs
    | false => False) := hle
   cases hg : p.agg with
   | false => rw [hg] at hle2; exact hle2.elim
   | true =>
    rw [hg] at hle2
    cases p with
    | d t z =>
     have hx' : dW c t.agg [.d t z] u := hx
     rw [show t.agg = true from hg] at hx'
     obtain ⟨cs, e, hp⟩ := hx'
     exact ⟨cs, e, wi h hle2 hy (by have := ju hp; simpa [hY] using this)⟩
    | _ => cases hg
  | gB es => exact (hle : False).elim
  | lT b p => exact (hle : False).elim
 | gB es =>
  cases es with
  | nil =>
   cases x with
   | gB fs =>
    cases fs with
    | nil => exact hx
    | cons _ _ => exact (hle : False).elim
   | one p => exact (hle : False).elim
   | agg ps => exact (hle : False).elim
   | lT b p => exact (hle : False).elim
  | cons e es => cases hy
 | lT b p => cases hy

theorem iP.keep {c c' : Cx} (h : gD c.S c.w c'.S c'.w) {kk : IntKind} {t : Ty} : ∀ {es : List MapEntry} {xs : List (Int × t.D)}, iP c kk t es xs → iP c' kk t es xs
 | [], [], _ => trivial
 | _ :: _, _ :: _, ⟨⟨h1, h2, h3⟩, h4⟩ => ⟨⟨h1, h2, Rd.mono h h3⟩, iP.keep h h4⟩
 | [], _ :: _, h' => h'.elim
 | _ :: _, [], h' => h'.elim
theorem SK {σ : Ren} {v : Inv} {c c' : Cx} (h : Over σ v c c') (hw : c'.w = c.w) {k : Nat} {x y : HE} (hle : IH σ x y) (hy : RM v y = true) (hx : rv c (σ.at k) x) : rv c' k y := by
 cases y with
 | box qs =>
  cases x with
  | box ps =>
   obtain ⟨b, e, cs, h1, h2, h3⟩ := hx
   exact ⟨b, e, cs, by rw [h.ρ k]; exact h1, by rw [hw]; exact h2, wi h hle hy h3⟩
  | _ => exact (hle : False).elim
 | jP g qs =>
  cases x with
  | jP f ps =>
   obtain ⟨rfl, hlp⟩ : f = g ∧ xi σ ps qs := ⟨hG hle.1, hle.2⟩
   obtain ⟨vs, h1, h2, h3, h4⟩ := hx
   exact ⟨vs, by rw [h.ρ k]; exact h1, wi h hlp hy h2, by rw [← h3]; exact (Aq hlp).symm, BD hlp h4⟩
  | _ => exact (hle : False).elim
 | row u ys =>
  cases x with
  | row t xs =>
   simp only [IH] at hle
   split at hle
   ·rename_i xs' e
    subst hle
    obtain ⟨e2, e3⟩ := du e
    injection e2 with e2
    subst e2
    have e3 : xs = xs' := e3
    subst e3
    rcases hx with ⟨h1, h2⟩ | ⟨b, o, cp, cur, e, h1, h2, h3, h4, h5, h6⟩
    ·exact .inl ⟨by rw [h.ρ k]; exact h1, h2⟩
    ·exact .inr ⟨b, o, cp, cur, e, by rw [h.ρ k]; exact h1, by rw [hw]; exact h2, h3, h4, h5, fun i x hx => Rd.mono h.keep (h6 i x hx)⟩
   ·exact hle.elim
  | _ => exact (hle : False).elim
 | map kk u ys =>
  cases x with
  | map kk' t xs =>
   simp only [IH] at hle
   split at hle
   ·rename_i xs' e
    subst hle
    unfold Ai at e
    split at e
    ·rename_i he
     obtain ⟨rfl, rfl⟩ := he
     cases e
     obtain ⟨b, es, cl, h1, h2, h3⟩ := hx
     exact ⟨b, es, cl, by rw [h.ρ k]; exact h1, by rw [hw]; exact h2, iP.keep h.keep h3⟩
    ·cases e
   ·exact hle.elim
  | _ => exact (hle : False).elim
 | pmap kk ys => cases hy

theorem Ac (v : Inv) : ∀ (l : List SV) (i : Nat), w8 v (aF (Sr v l) i) = true
 | [], i => rfl
 | x :: r, 0 => by
  show w8 v (bif w8 v x then x else .one .any) = true
  cases e : w8 v x
  ·rfl
  ·exact e
 | x :: r, i + 1 => Ac v r i
theorem zY {σ : Ren} : ∀ {xs ys : List SV}, RN σ xs ys → ∀ i, GC σ (aF xs i) (aF ys i)
 | [], [], _, i => by unfold aF; cases i <;> trivial
 | x :: xs, y :: ys, h, 0 => h.1
 | x :: xs, y :: ys, h, i + 1 => zY h.2 i
 | [], _ :: _, h, _ => h.elim
 | _ :: _, [], h, _ => h.elim

theorem H9 {s0 : St} {v : Inv} (h : Ok w0 ρ s a w) (hle : le s v (Inv.st s0 v)) : ∃ ρ', Ok w0 ρ' (Inv.st s0 v) a w := by
 obtain ⟨ρ0, h0⟩ := fV v.im s.nx s ρ h v
 obtain ⟨ρ1, h1⟩ := fI v v.heap (s.nx + v.im.length) _ ρ0 h0
 unfold le at hle
 generalize mD (iC s v s.nx v.im) v (s.nx + v.im.length) v.heap = s1 at h1 hle
 simp only [] at hle
 generalize qw s1 (qw s1 (Cy s1 [] v.im) v.heap) v.heap = σ at hle
 cases hb : (tC s1.fr (Inv.st s0 v).fr && Lh σ v.heap [] && qq v v.im [] && mb v v.heap []) with
 | false => rw [hb] at hle; exact hle.elim
 | true =>
  rw [hb] at hle
  simp only [cond_true] at hle
  obtain ⟨hls, hlh, hlb⟩ := hle
  simp only [Bool.and_eq_true] at hb
  obtain ⟨⟨⟨hb1, hb2⟩, hb3⟩, hb4⟩ := hb
  obtain ⟨_, hinj⟩ := zW hb2
  have hmem : ∀ {k he}, (Inv.st s0 v).hp k = some he → (k, he) ∈ v.heap := fun e => x7 e
  have hover : Over σ v (cx w0 ρ1 s1 w) (cx w0 (fun k => ρ1 (σ.at k)) (Inv.st s0 v) w) := by
   refine ⟨fun _ => rfl, fun k hk => hk, fun b hS => ⟨⟨hS.1, fun k he hk => ?_, hS.2.2⟩, rfl⟩⟩
   obtain ⟨h', hh, _⟩ := gZ hlh (hmem hk)
   exact hS.2.1 _ h' hh
  refine ⟨fun k => ρ1 (σ.at k), { defers := h1.defers, below := h1.below, len := ?_, frame := ?_, back := ?_, heap := ?_, used := ?_, fresh := ?_, apart := ?_ }⟩
  ·rw [← vu hb1]; exact h1.len
  ·intro i
   show aK _ (aF (kP (J6 s0.fr) v.im) i) _
   rcases px v.im (J6 s0.fr) i with e | ⟨x, hx, e⟩ | e
   ·rw [e, xB]; trivial
   ·rw [e]
    exact Lc hover (tg hls hx) (tc hb3 hx) (h1.frame i)
   ·rw [e]; trivial
  ·intro i
   cases hbk : (Inv.st s0 v).bk with
   | nil => unfold aF; cases i <;> trivial
   | cons y q =>
    rw [hbk] at hlb
    have hok : w8 v (aF (y :: q) i) = true := by rw [← hbk]; exact Ac v s0.bk i
    exact Lc hover (zY hlb i) hok (h1.back i)
  ·intro k he hk
   obtain ⟨h', hh, hle⟩ := gZ hlh (hmem hk)
   exact SK hover rfl hle (wo hb4 (hmem hk)) (h1.heap _ h' hh)
  ·intro k he hk
   show (assoc v.heap k).isSome = true
   rw [show assoc v.heap k = some he from hk]; rfl
  ·intro k he b hk hbk
   obtain ⟨h', hh, _⟩ := gZ hlh (hmem hk)
   exact h1.fresh _ h' b hh hbk
  ·intro k k' he he' b hne hk hk' hb1' hb2'
   obtain ⟨g, hg, _⟩ := gZ hlh (hmem hk)
   obtain ⟨g', hg', _⟩ := gZ hlh (hmem hk')
   exact h1.apart _ _ g g' b (fun e => hne (hinj k he k' he' (hmem hk) (hmem hk') e)) hg hg' hb1' hb2'
end
end Go.Sx
/-
 Sx, part R: the code, calls and contracts.
-/
namespace Go.Sx
open Go.RowKit

def Ll (w0 : cz) (Q : Vf → St → Prop) : Exit → Act → World → Prop
 | .normal, a, w => ∃ ρ s, Ok w0 ρ s a w ∧ Q .normal s
 | .exit id, a, w => ∃ ρ s, Ok w0 ρ s a w ∧ Q (.exit id) s
 | .ret, a, w => ∃ ρ s, Ok w0 ρ s a w ∧ Q .ret s
 | _, _, _ => False

section
variable {P : Program} {X : Fx} {callK : Nat → Nat → List SV → St → (SV → St → Prop) → Prop} {f : Nat} {w0 : cz}

theorem Ap {m : Bool} {sk : Nat → Bool} {id : Nat} {os : Array Oper} {s : St} {Q : Vf → St → Prop} {ρ : Nat → Value} {a : Act} {w : World} (hX : vR P X) (hcall : j3 P callK) (hK : nW X callK)
  (h : ops X callK f os.toList s.nx 0 os.toList { s with nx := s.nx + os.toList.length } (fun s => Q .normal (bif m then mq sk s else s))) (hok : Ok w0 ρ s a w) : (Code.region id os false).wp P (Ll w0 Q) a w := by
 refine wp_region_list ?_
 have hok' : Ok w0 ρ { s with nx := s.nx + os.toList.length } a w := { hok with }
 have := ja (w0 := w0) (Q := Ll w0 Q) hX hcall hK (fun ρ' s' a' w' ho hq => by
  cases m with
  | true => exact ⟨ρ', _, ho.mq, hq⟩
  | false => exact ⟨ρ', s', ho, hq⟩) os.toList 0 _ ρ a w h hok'
 simpa using this

theorem tG {an : jz} {s0 s : St} {R : an.G → Prop} {ρ : Nat → Value} {a : Act} {w : World} (hok : Ok w0 ρ s a w) (h : Ga an s0 s R) : ∃ g, (an.ok s0 g ∧ an.lens g) ∧ R g ∧ le s (an.inv s0 g) (Inv.st s0 (an.inv s0 g)) := by
 unfold Ga at h
 split at h
 ·rename_i g hg
  exact ⟨g, ⟨h.1.1, an.told w0 ρ s0 s a w g hok hg⟩, h.1.2, h.2⟩
 ·obtain ⟨g, ⟨h1, h2⟩, h3⟩ := h
  exact ⟨g, h1, h2, h3⟩
theorem wF {s0 s : St} {ρ : Nat → Value} {a : Act} {w : World} {k : St → Prop} (hok : Ok w0 ρ s a w) : ∀ {ans : List jz}, yE s0 s ans → zd s0 k ans →
  ∃ (an : jz) (g : an.G), an.ok s0 g ∧ le s (an.inv s0 g) (Inv.st s0 (an.inv s0 g)) ∧ k (Inv.st s0 (an.inv s0 g))
 | [], h, _ => h.elim
 | [an], h, hf => by
  obtain ⟨g, ⟨hg, hlg⟩, _, hle⟩ := tG hok h
  exact ⟨an, g, hg, hle, hf g hg hlg⟩
 | an :: an2 :: r, h, hf => by
  rcases h with h | h
  ·obtain ⟨g, ⟨hg, hlg⟩, _, hle⟩ := tG hok h
   exact ⟨an, g, hg, hle, hf.1 g hg hlg⟩
  ·exact wF hok h hf.2
theorem ca (hX : vR P X) (hcall : j3 P callK) (hK : nW X callK) : ∀ (c : Code) (s : St) (Q : Vf → St → Prop), code X callK f c s Q → ∀ ρ a w, Ok w0 ρ s a w → c.wp P (Ll w0 Q) a w
 | .skip, s, Q, h, ρ, a, w, hok => wp_skip ⟨ρ, s, hok, h⟩
 | .label _, s, Q, h, ρ, a, w, hok => wp_label ⟨ρ, s, hok, h⟩
 | .exit id, s, Q, h, ρ, a, w, hok => wp_exit ⟨ρ, s, hok, h⟩
 | .ret, s, Q, h, ρ, a, w, hok => wp_ret ⟨ρ, s, hok, h⟩
 | .region id os draw, s, Q, h, ρ, a, w, hok => by
  unfold code at h
  cases draw with
  | true =>
   simp only [cond_true] at h
   cases hmark : X.wr f (9000000 + id) with
   | true =>
    rw [hmark] at h
    simp only [cond_true] at h
    exact zk (Q := Ll w0 Q) hX hcall hK (fun ρ' s' a' w' ho hq => ⟨ρ', s', ho, hq⟩) h hok
   | false =>
   rw [hmark] at h
   simp only [cond_false] at h
   have hok' : Ok w0 ρ (bif X.wr f (2000000 + id) then jD s (qH s s.nx) else s) a w := by
    cases X.wr f (2000000 + id) with
    | true => exact Ok.jD _ hok
    | false => exact hok
   refine Ay (Q := Ll w0 Q) hX hcall hK (fun ρ' s' a' w' ho hq => ?_) h hok'
   cases hm : X.wr f (4000000 + id) with
   | true => rw [hm] at hq; exact ⟨ρ', _, ho.mq, hq⟩
   | false => rw [hm] at hq; exact ⟨ρ', s', ho, hq⟩
  | false =>
   simp only [cond_false] at h
   exact Ap hX hcall hK h hok
 | .seq x y, s, Q, h, ρ, a, w, hok => by
  unfold code at h
  split at h
  ·refine wp_seq (wp_mono (ca hX hcall hK x s _ h ρ a w hok) fun e a' w' hq => ?_)
   cases e with
   | normal => obtain ⟨ρ', s', ho, hq⟩ := hq; exact ca hX hcall hK y s' Q hq ρ' a' w' ho
   | exit id => exact hq
   | ret => exact hq
   | goto l => exact hq
   | panic c => exact hq
   | outgrown => exact hq
  ·rename_i an r _
   obtain ⟨h1, h2⟩ := h
   refine wp_seq (wp_mono (ca hX hcall hK x s _ h1 ρ a w hok) fun e a' w' hq => ?_)
   cases e with
   | normal =>
    obtain ⟨ρ', s', ho, hq⟩ := hq
    obtain ⟨an', g, hg, hle, hy⟩ := wF ho hq h2
    obtain ⟨ρ2, ho2⟩ := H9 ho hle
    exact ca hX hcall hK y _ Q hy ρ2 a' w' ho2
   | exit id => exact hq
   | ret => exact hq
   | goto l => exact hq
   | panic c => exact hq
   | outgrown => exact hq
 | .cond c x y, s, Q, h, ρ, a, w, hok => by
  unfold code at h
  have hv := hok.ev c
  split at h
  ·rename_i b hb
   have eb := iu hv (b := b) (by rw [hb]; rfl)
   cases b with
   | true => exact wp_cond_true eb (ca hX hcall hK x s Q h ρ a w hok)
   | false => exact wp_cond_false eb (ca hX hcall hK y s Q h ρ a w hok)
  ·rename_i b hb
   have eb := iu hv (b := b) (by rw [hb]; rfl)
   split at h
   ·rename_i d
    cases b with
    | true => exact wp_cond_true eb (ca hX hcall hK x _ Q (h.1 rfl) ρ a w (hok.tell d (by rw [show a.tmps.getD d undef = _ from eb]; exact nY true)))
    | false => exact wp_cond_false eb (ca hX hcall hK y _ Q (h.2 rfl) ρ a w (hok.tell d (by rw [show a.tmps.getD d undef = _ from eb]; exact nY false)))
   ·exact h.elim
  ·exact h.elim
 | .block id c, s, Q, h, ρ, a, w, hok => by
  unfold code at h
  refine wp_block (wp_mono (ca hX hcall hK c s _ h ρ a w hok) fun e a' w' hq => ?_)
  cases e with
  | normal => exact hq
  | exit id' =>
   obtain ⟨ρ', s', ho, hq⟩ := hq
   simp only [Exit.inBlock]
   by_cases e : id' = id
   ·subst e
    rw [if_pos rfl]
    simp only [show Nat.beq id' id' = true from by simp, cond_true] at hq
    exact ⟨ρ', s', ho, hq⟩
   ·rw [if_neg e]
    simp only [r8 e, cond_false] at hq
    exact ⟨ρ', s', ho, hq⟩
  | ret => exact hq
  | goto l => exact hq
  | panic c => exact hq
  | outgrown => exact hq
 | .loop c, s, Q, h, ρ, a, w, hok => by
  unfold code at h
  split at h
  ·exact h.elim
  ·rename_i an _
   obtain ⟨h0, hround⟩ := h
   obtain ⟨g0, hg0, _, hle0⟩ := tG hok h0
   obtain ⟨ρ0, hok0⟩ := H9 hok hle0
   refine wp_loop_ghost (fun n a w => ∃ g ρ, an.m s g = n ∧ (an.ok s g ∧ an.lens g) ∧ Ok w0 ρ (Inv.st s (an.inv s g)) a w) (an.m s g0) ⟨g0, ρ0, rfl, hg0, hok0⟩ ?_
   rintro n a1 w1 ⟨g, ρ1, rfl, hg, hok1⟩
   refine wp_mono (ca hX hcall hK c _ _ (hround g hg.1 hg.2) ρ1 a1 w1 hok1) fun e a' w' hq => ?_
   cases e with
   | normal =>
    obtain ⟨ρ', s', ho, hq⟩ := hq
    obtain ⟨g', hg', hm, hle⟩ := tG ho hq
    obtain ⟨ρ2, ho2⟩ := H9 ho hle
    exact ⟨an.m s g', hm, g', ρ2, rfl, hg', ho2⟩
   | exit id => exact hq
   | ret => exact hq
   | goto l => exact hq
   | panic c => exact hq
   | outgrown => exact hq
 | .rangeFunc _ _ _ _, _, _, h, _, _, _, _ => h.elim
 | .scope _, _, _, h, _, _, _, _ => h.elim
 | .goto _, _, _, h, _, _, _, _ => h.elim
 | .refuse _, _, _, h, _, _, _, _ => h.elim
end

def mY (S : Nat → Prop) (w : World) (t : Ty) (v : Value) (x : t.D) : Prop :=
 match t.agg with
 | true => ∃ cs, v = .agg cs ∧ Rd S w t cs.toList x
 | false => Rd S w t [v] x
def fw (S : Nat → Prop) (w : World) : (ts : List Ty) → List Value → HL ts → Prop
 | [], [], _ => True
 | t :: ts, v :: vs, x => mY S w t v x.1 ∧ fw S w ts vs x.2
 | _, _, _ => False
def oe (S : Nat → Prop) (w : World) : (ts : List Ty) → Value → HL ts → Prop
 | [t], v, x => mY S w t v x.1
 | ts, v, x => ∃ vs, v = .tuple vs ∧ fw S w ts vs.toList x
def x9 (S : Nat → Prop) (B : Nat) (w : World) (t : Ty) (v : Value) (xs : List t.D) : Prop :=
 (v = .slice none 0 0 ∧ xs = []) ∨
  ∃ b o cp cur e, v = .slice (some ⟨b, o, none⟩) xs.length cp ∧ (B ≤ b ∧ b < w.heap.size) ∧ w.heap[b]? = some (.cells cur e (0, 0)) ∧ xs.length ≤ cp ∧ cp ≤ maxLen ∧
   o + cp * t.size ≤ cur.size ∧ ∀ (i : Nat) x, xs[i]? = some x → Rd (fun c => c ≠ b ∧ (S c ∨ (B ≤ c ∧ c < w.heap.size))) w t ((cur.toList.drop (o + i * t.size)).take t.size) x
def CA (S : Nat → Prop) (B : Nat) (w : World) : (rs : List Ty) → Value → HL rs → Prop
 | [.sl t], v, x => x9 S B w t v x.1
 | .sl t :: u :: r, v, x => ∃ v0 r0, v = .tuple (v0 :: r0).toArray ∧ x9 S B w t v0 x.1 ∧ fw (fun c => bO v0 ≠ some c ∧ (S c ∨ (B ≤ c ∧ c < w.heap.size))) w (u :: r) r0 x.2
 | _, _, _ => False
def aX (P : Program) (g : Nat) (c : ah) : Prop :=
 lC P g ∧ ∀ (S : Nat → Prop) (w : World) (args : Array Value) (x : HL c.as), (∀ b, S b → b < w.heap.size) → qC w → fw S w c.as args.toList x → c.pre x →
  Calls P g args w (fun e w' => ∃ v, e = .returned v ∧ (match c.own with
   | true => CA S w.heap.size w' c.rs v (c.f x)
   | false => oe (fun b => S b ∨ (w.heap.size ≤ b ∧ b < w'.heap.size)) w' c.rs v (c.f x)) ∧ Below w.heap.size w w')

def wH (P : Program) (g h : Nat) (c : ah) : Prop :=
 lC P g ∧ ∀ (S : Nat → Prop) (w : World) (args : Array Value) (x : HL c.as), (∀ b, S b → b < w.heap.size) → qC w → fw S w c.as args.toList x → c.pre x →
  Calls P g (args ++ #[.func (.func h) #[] #[]]) w (fun e w' => ∃ v, e = .returned v ∧ (match c.own with
   | true => CA S w.heap.size w' c.rs v (c.f x)
   | false => oe (fun b => S b ∨ (w.heap.size ≤ b ∧ b < w'.heap.size)) w' c.rs v (c.f x)) ∧ Below w.heap.size w w')

theorem mY.mono {S S' : Nat → Prop} {w w' : World} (k : gD S w S' w') {t : Ty} {v : Value} {x : t.D} (h : mY S w t v x) : mY S' w' t v x := by
 unfold mY at h ⊢
 cases hg : t.agg <;> rw [hg] at h
 ·exact Rd.mono k h
 ·obtain ⟨cs, e, h⟩ := h; exact ⟨cs, e, Rd.mono k h⟩
theorem fw.mono {S S' : Nat → Prop} {w w' : World} (k : gD S w S' w') : ∀ {ts : List Ty} {vs : List Value} {x : HL ts}, fw S w ts vs x → fw S' w' ts vs x
 | [], [], _, _ => trivial
 | _ :: _, _ :: _, _, h => ⟨h.1.mono k, fw.mono k h.2⟩
 | [], _ :: _, _, h => h.elim
 | _ :: _, [], _, h => h.elim
theorem mY.sv {c : Cx} {t : Ty} {v : Value} {x : t.D} (h : mY c.S c.w t v x) : aK c (.one (.d t x)) v := by
 show dW c t.agg [.d t x] v
 unfold mY at h
 cases hg : t.agg <;> rw [hg] at h
 ·exact b9.single h
 ·obtain ⟨cs, e, h⟩ := h
  exact ⟨cs, e, b9.single (p := .d t x) h⟩

theorem Rd.any {S S' : Nat → Prop} {w w' : World} : ∀ {t : Ty} {cs : List Value} {x : t.D}, lS t = true → Rd S w t cs x → Rd S' w' t cs x
 | .int _, _, _, _, h => h
 | .bool, _, _, _, h => h
 | .str, _, _, _, h => h
 | .sl _, _, _, hn, _ => by cases hn
 | .arr n t, _, _, hn, h => ⟨h.1, h.2.1, fun i x hi => Rd.any (t := t) hn (h.2.2 i x hi)⟩
 | .pair a b, _, _, hn, h => by
  simp only [lS, Bool.and_eq_true] at hn
  obtain ⟨l, m, e, h1, h2⟩ := h
  exact ⟨l, m, e, h1.any hn.1, h2.any hn.2⟩
 | .err, _, _, _, h => h
theorem mY.any {S S' : Nat → Prop} {w w' : World} {t : Ty} {v : Value} {x : t.D} (hn : lS t = true) (h : mY S w t v x) : mY S' w' t v x := by
 unfold mY at h ⊢
 cases hg : t.agg <;> rw [hg] at h
 ·exact Rd.any hn h
 ·obtain ⟨cs, e, h⟩ := h; exact ⟨cs, e, Rd.any hn h⟩
theorem fw.any {S S' : Nat → Prop} {w w' : World} : ∀ {ts : List Ty} {vs : List Value} {x : HL ts}, ts.all lS = true → fw S w ts vs x → fw S' w' ts vs x
 | [], [], _, _, _ => trivial
 | _ :: _, _ :: _, _, hn, h => by
  simp only [List.all_cons, Bool.and_eq_true] at hn
  exact ⟨h.1.any hn.1, fw.any hn.2 h.2⟩
 | [], _ :: _, _, _, h => h.elim
 | _ :: _, [], _, _, h => h.elim
theorem oe.any {S S' : Nat → Prop} {w w' : World} {ts : List Ty} {v : Value} {x : HL ts} (hn : ts.all lS = true) (h : oe S w ts v x) : oe S' w' ts v x := by
 match ts, x, h with
 | [], x, ⟨vs, e, h⟩ => exact ⟨vs, e, h.any hn⟩
 | [t], x, h =>
  simp only [List.all_cons, Bool.and_eq_true] at hn
  exact mY.any hn.1 h
 | t :: u :: ts, x, ⟨vs, e, h⟩ => exact ⟨vs, e, h.any hn⟩
theorem oe.mono {S S' : Nat → Prop} {w w' : World} (k : gD S w S' w') {ts : List Ty} {v : Value} {x : HL ts} (h : oe S w ts v x) : oe S' w' ts v x := by
 match ts, x, h with
 | [], x, ⟨vs, e, h⟩ => exact ⟨vs, e, h.mono k⟩
 | [t], x, h => exact mY.mono k h
 | t :: u :: ts, x, ⟨vs, e, h⟩ => exact ⟨vs, e, h.mono k⟩
theorem fw.gB {c : Cx} : ∀ {ts : List Ty} {vs : List Value} {x : HL ts}, fw c.S c.w ts vs x → qT c (Me ts x) vs
 | [], [], _, _ => rfl
 | t :: _, v :: vs, x, h => by
  refine ⟨v, vs, rfl, ?_, fw.gB h.2⟩
  have h1 := h.1
  unfold mY at h1
  show dW c t.agg [.d t x.1] v
  cases hg : t.agg <;> rw [hg] at h1
  ·exact b9.single h1
  ·obtain ⟨cs, e, h1⟩ := h1
   exact ⟨cs, e, b9.single (p := .d t x.1) h1⟩
 | [], _ :: _, _, h => h.elim
 | _ :: _, [], _, h => h.elim
theorem oe.sv {c : Cx} {ts : List Ty} {v : Value} {x : HL ts} (h : oe c.S c.w ts v x) : aK c (Jn ts x) v := by
 match ts, x, h with
 | [], x, ⟨vs, e, h⟩ => exact ⟨vs, e, h.gB⟩
 | [t], x, h => exact mY.sv h
 | t :: u :: ts, x, ⟨vs, e, h⟩ => exact ⟨vs, e, h.gB⟩

section
variable {w0 : cz} {w : World} {ρ : Nat → Value} {s : St} {a : Act}

theorem Tu {S : Nat → Prop} (h : Ok w0 ρ s a w) (hS : ∀ b, b < w.heap.size → w0.S b → S b) {p : PV} {l : List Value} (hp : iD (cx w0 ρ s w) p l) : iD ⟨ρ, s.us, S, w⟩ (PV.res s p) l := by
 have hle : (cx w0 ρ s w).le ⟨ρ, s.us, S, w⟩ := ⟨fun _ hk => hk, fun _ _ => rfl, fun b hb => ⟨hS b hb.1 hb.2.2, rfl⟩⟩
 have hmono := hp.mono hle
 cases p with
 | sub k k' sz x y =>
  simp only [PV.res]
  split
  ·rename_i t xs hd
   obtain ⟨A, cp, h1, h2, h3, h4⟩ := BI (v := ρ k') h (aK.ki rfl (by have := hp.2.2.1; rw [this] at hp; exact hp)) hd
   refine ⟨A, cp, by rw [hp.2.2.1]; exact congrArg (fun v => [v]) h1, h2, h3, fun hpos => ?_⟩
   obtain ⟨b, q, e1, e2, e3⟩ := h4 hpos
   refine ⟨b, q, e1, hS b e2.1 e2.2, fun i z hi => ?_⟩
   obtain ⟨l2, g1, g2⟩ := e3 i z hi
   exact ⟨l2, fun j v hv => by rw [← Nat.add_assoc]; exact g1 j v hv, Rd.mono hle.keep g2⟩
  ·exact hmono
 | tu k off n sz =>
  simp only [PV.res]
  split
  ·rename_i t xs hd
   obtain ⟨_, b0, _, hl⟩ := id hp
   obtain ⟨A, cp, h1, h2, h3, h4⟩ := BI h (aK.ki (v := .slice (some ⟨b0, off, none⟩) n n) rfl (by rw [hl] at hp; exact hp)) hd
   refine ⟨A, cp, by rw [hl, h1], h2, h3, fun hpos => ?_⟩
   obtain ⟨b, q, e1, e2, e3⟩ := h4 hpos
   refine ⟨b, q, e1, hS b e2.1 e2.2, fun i z hi => ?_⟩
   obtain ⟨l2, g1, g2⟩ := e3 i z hi
   exact ⟨l2, fun j v hv => by rw [← Nat.add_assoc]; exact g1 j v hv, Rd.mono hle.keep g2⟩
  ·exact hmono
 | row k =>
  simp only [PV.res]
  split
  ·rename_i t xs hk
   obtain ⟨_, hl, _⟩ := hp
   rcases h.heap k _ hk with ⟨h1, rfl⟩ | ⟨b, o, cp, cur, e, h1, h2, h3, h4, h5, h6⟩
   ·exact ⟨none, 0, by rw [hl, h1]; rfl, Nat.le_refl _, by simp [maxLen], fun h => absurd h (by simp)⟩
   ·have hfr := h.fresh k _ b hk (by rw [show ρ k = _ from h1]; rfl)
    refine ⟨_, cp, by rw [hl, h1], h3, h4, fun _ => ⟨b, o, rfl, hS b hfr.2 (w0.all b hfr.1), fun i x hx => ⟨_, fun j v hv => ?_, Rd.mono hle.keep (h6 i x hx)⟩⟩⟩
    have := At.of_block h2 (o + i * t.size) t.size j v hv
    rwa [Nat.add_assoc] at this
  ·exact hmono
 | _ => exact hmono
theorem zb {S : Nat → Prop} (h : Ok w0 ρ s a w) (hS : ∀ b, b < w.heap.size → w0.S b → S b) : ∀ {ps : List PV} {l : List Value}, b9 (cx w0 ρ s w) ps l → b9 ⟨ρ, s.us, S, w⟩ (ps.map (PV.res s)) l
 | [], _, hp => hp
 | _ :: _, _, ⟨l1, l2, e, h1, h2⟩ => ⟨l1, l2, e, Tu h hS h1, zb h hS h2⟩

theorem IT {c : Cx} {x : SV} {v : Value} {ps : List PV} (h : aK c x v) (hx : x.isAgg = false) (hps : x.parts = some ps) : v.cells.toList = [v] := by
 cases x with
 | agg ps => cases hx
 | gB es => cases hps
 | lT _ _ => cases hps
 | one p =>
  have hn : p ≠ .any := fun e => by subst e; cases hps
  have h1 := aK.bb (p := p) hx hn h
  have := h1.one v (by simp)
  cases v <;> first | rfl | cases this

theorem Em {S : Nat → Prop} (h : Ok w0 ρ s a w) (hS : ∀ b, b < w.heap.size → w0.S b → S b) {bor : Bool} {t : Ty} {v : SV} {u : Value} {x : t.D} (hv : aK (cx w0 ρ s w) v u)
  (hr : tb s bor t v = some x) : mY (bif bor then S else dE w0 ρ s.hp w) w t u x := by
 unfold tb at hr
 split at hr
 ·rename_i ps hps
  cases hx : Bool.xor v.isAgg t.agg with
  | true => rw [hx] at hr; cases hr
  | false =>
   rw [hx] at hr
   simp only [cond_false] at hr
   have hag : v.isAgg = t.agg := by cases e1 : v.isAgg <;> cases e2 : t.agg <;> rw [e1, e2] at hx <;> first | rfl | cases hx
   have hp := dZ hv hps
   have hrd : Rd (bif bor then S else dE w0 ρ s.hp w) w t u.cells.toList x := by
    cases bor with
    | true => exact fA (c := ⟨ρ, s.us, S, w⟩) hr (zb h hS hp)
    | false => exact fA (c := cx w0 ρ s w) hr hp
   unfold mY
   cases hg : t.agg with
   | true =>
    obtain ⟨cs, e⟩ := yT hv (by rw [hag, hg])
    rw [e] at hrd
    exact ⟨cs, e, hrd⟩
   | false =>
    rw [IT hv (by rw [hag, hg]) hps] at hrd
    exact hrd
 ·cases hr
theorem nB {S : Nat → Prop} (h : Ok w0 ρ s a w) (hS : ∀ b, b < w.heap.size → w0.S b → S b) {bor : Bool} : ∀ {ts : List Ty} {vs : List SV} {us : List Value} {x : HL ts}, fq (cx w0 ρ s w) vs us →
  gv s bor ts vs = some x → fw (bif bor then S else dE w0 ρ s.hp w) w ts us x
 | [], [], [], _, _, _ => trivial
 | t :: ts, v :: vs, u :: us, x, ha, hr => by
  unfold gv at hr
  split at hr
  ·rename_i y hy
   split at hr
   ·rename_i z hz
    injection hr with hr
    subst hr
    exact ⟨Em h hS ha.1 hy, nB h hS ha.2 hz⟩
   ·cases hr
  ·cases hr
 | [], _ :: _, _, _, _, hr => by cases hr
 | _ :: _, [], _, _, _, hr => by cases hr
 | [], [], _ :: _, _, ha, _ => ha.elim
 | _ :: _, _ :: _, [], _, ha, _ => ha.elim
end

section
variable {P : Program} {X : Fx}

structure xv (P : Program) (X : Fx) : Prop where
 ok : vR P X
 SP : ∀ g c, X.K g = some c → aX P g c
 R6 : ∀ g h c, X.KF g h = some c → wH P g h c
 fn : ∀ g fn, X.fn g = some fn → P.funcs[g]? = some fn ∧ (fn.name == "runtime.NumGoroutine") = false

theorem AY {S : Nat → Prop} {k : Nat} {v : Value} {s : St} {he : HE} {w0 : cz} {ρ : Nat → Value} {a : Act} {w w' : World} (h : Ok w0 ρ s a w) (hn : ∀ b, S b → dE w0 ρ s.hp w b) (hb : Below w.heap.size w w') {c : Nat}
  (hc : bO v ≠ some c) (hc2 : S c ∨ (w.heap.size ≤ c ∧ c < w'.heap.size)) : dE w0 (bF ρ k v) (s.new k he).hp w' c := by
 have hlt : c < w'.heap.size := by
  rcases hc2 with q | q
  ·exact Nat.lt_of_lt_of_le (hn c q).1 hb.size
  ·exact q.2
 refine ⟨hlt, fun k' he' hk' e2 => ?_, ?_⟩
 ·by_cases ek : k' = k
  ·subst ek
   rw [aw] at e2
   exact hc e2
  ·have hk2 : s.hp k' = some he' := by
    have : fK s.hp k (some he) k' = some he' := hk'
    rwa [bI s.hp (some he) ek] at this
   rw [aR ρ v ek] at e2
   rcases hc2 with q | q
   ·exact (hn c q).2.1 k' he' hk2 e2
   ·have := (h.fresh k' he' c hk2 e2).2
    omega
 ·rcases hc2 with q | q
  ·exact (hn c q).2.2
  ·exact w0.all c (Nat.le_trans h.base q.1)
theorem Ep {S : Nat → Prop} {t : Ty} {xs : List t.D} {k : Nat} {v : Value} {s : St} {w0 : cz} {ρ : Nat → Value} {a : Act} {w w' : World} (h : Ok w0 ρ s a w) (hus : s.us k = false) (hn : lS t = true ∨ ∀ b, S b → dE w0 ρ s.hp w b) (hb : Below w.heap.size w w')
  (hv : x9 S w.heap.size w' t v xs) : Ok w0 (bF ρ k v) (s.new k (.row t xs)) a w' ∧ iD (cx w0 (bF ρ k v) (s.new k (.row t xs)) w') (.row k) [v] := by
 have hone : v.oneCell' = true := by rcases hv with ⟨rfl, _⟩ | ⟨b, o, cp, cur, e, rfl, _⟩ <;> rfl
 refine ⟨h.new hus ⟨hb⟩ (fun b e => ?_) ?_, bA _ _, ?_, ?_⟩
 ·rcases hv with ⟨rfl, _⟩ | ⟨b', o, cp, cur, e', rfl, h1, _⟩
  ·cases e
  ·have : b' = b := by simpa [bO] using e
   subst this; exact h1
 ·rcases hv with ⟨rfl, rfl⟩ | ⟨b, o, cp, cur, e, rfl, h1, h2, h3, h4, h5, h6⟩
  ·exact .inl ⟨aw _ _ _, rfl⟩
  ·refine .inr ⟨b, o, cp, cur, e, aw _ _ _, h2, h3, h4, h5, fun i x hi => ?_⟩
   rcases hn with hn | hn
   ·exact Rd.any hn (h6 i x hi)
   ·refine Rd.mono (fun c hc => ⟨AY (v := .slice (some ⟨b, o, none⟩) xs.length cp) h hn hb (fun e => hc.1 ?_) hc.2, rfl⟩) (h6 i x hi)
    have e : b = c := by simpa [bO] using e
    exact e.symm
 ·show [v] = [bF ρ k v k]
  rw [aw]
 ·show (bF ρ k v k).oneCell' = true
  rw [aw]; exact hone
theorem tZ {S : Nat → Prop} {rs : List Ty} {x : HL rs} {k : Nat} {v : Value} {sv : SV} {he : HE} {s : St} {w0 : cz} {ρ : Nat → Value} {a : Act} {w w' : World} (h : Ok w0 ρ s a w) (hus : s.us k = false) (hb : Below w.heap.size w w')
  (hok : kC rs = true) (hS : ng rs = true ∨ ∀ b, S b → dE w0 ρ s.hp w b) (hr : BK k rs x = some (sv, he)) (hv : CA S w.heap.size w' rs v x) : ∃ ρ', Ok w0 ρ' (s.new k he) a w' ∧ aK (cx w0 ρ' (s.new k he) w') sv v := by
 match rs, x, hok, hS, hr, hv with
 | [.sl t], x, hok, hS, hr, hv =>
  simp only [BK, Option.some.injEq, Prod.mk.injEq] at hr
  obtain ⟨rfl, rfl⟩ := hr
  obtain ⟨h1, h2⟩ := Ep h hus (hS.imp (fun q => by simpa [ng] using q) id) hb hv
  exact ⟨_, h1, aK.ki rfl h2⟩
 | .sl t :: u :: r, x, hok, hS, hr, hv =>
  simp only [BK, Option.some.injEq, Prod.mk.injEq] at hr
  obtain ⟨rfl, rfl⟩ := hr
  obtain ⟨v0, r0, rfl, hf, hrest⟩ := hv
  obtain ⟨h1, h2⟩ := Ep h hus (hS.imp (fun q => by simp only [ng, Bool.and_eq_true] at q; exact q.1) id) hb hf
  refine ⟨_, h1, _, rfl, v0, r0, by simp, b9.single h2, ?_⟩
  rcases hS with hS | hS
  ·simp only [ng, Bool.and_eq_true] at hS
   exact fw.gB (hrest.any hS.2)
  ·exact fw.gB (hrest.mono fun c hc => ⟨AY h hS hb hc.1 hc.2, rfl⟩)
theorem s8 {g : Nat} {c : ah} {ext : Array Value} (hc : ∀ (S : Nat → Prop) (w : World) (args : Array Value) (x : HL c.as), (∀ b, S b → b < w.heap.size) → qC w → fw S w c.as args.toList x → c.pre x →
  Calls P g (args ++ ext) w (fun e w' => ∃ v, e = .returned v ∧ (match c.own with
   | true => CA S w.heap.size w' c.rs v (c.f x)
   | false => oe (fun b => S b ∨ (w.heap.size ≤ b ∧ b < w'.heap.size)) w' c.rs v (c.f x)) ∧ Below w.heap.size w w')) {args : List SV} {s : St} {K : SV → St → Prop} {w0 : cz} {ρ : Nat → Value} {a : Act} {w : World} {vs : Array Value} (h : Ok w0 ρ s a w)
  {k : Nat} (hargs : fq (cx w0 ρ s w) args vs.toList) (hk : tx c k s args K) :
  Calls P g (vs ++ ext) w (fun e w' => ∃ v sv s' ρ', e = .returned v ∧ Ok w0 ρ' s' a w' ∧ aK (cx w0 ρ' s' w') sv v ∧ K sv s') := by
 unfold tx at hk
 cases ho : c.own with
 | true =>
  rw [ho] at hk
  simp only [cond_true] at hk
  cases hg : kC c.rs && !(s.us k) with
  | false => rw [hg] at hk; exact hk.elim
  | true =>
   rw [hg] at hk
   simp only [cond_true] at hk
   simp only [Bool.and_eq_true, Bool.not_eq_true'] at hg
   cases hfl : ng c.rs with
   | true =>
    rw [hfl] at hk
    simp only [cond_true] at hk
    split at hk
    ·rename_i x hx
     split at hk
     ·rename_i sv he hv
      obtain ⟨hpre, hK⟩ := hk
      have hr := nB (S := fun b => b < w.heap.size) (bor := true) h (fun b hb _ => hb) hargs hx
      refine (hc (fun b => b < w.heap.size) w vs x (fun _ hb => hb) h.gl hr hpre.out).mono fun e w' he' => ?_
      obtain ⟨v, rfl, hres, hbel⟩ := he'
      rw [ho] at hres
      obtain ⟨ρ', h1, h2⟩ := tZ h hg.2 hbel hg.1 (.inl hfl) hv hres
      exact ⟨v, _, _, ρ', rfl, h1, h2, hK⟩
     ·exact hk.elim
    ·exact hk.elim
   | false =>
    rw [hfl] at hk
    simp only [cond_false] at hk
    split at hk
    ·split at hk
     ·rename_i x hx
      split at hk
      ·rename_i sv he hv
       obtain ⟨hpre, hK⟩ := hk
       have hr := nB (S := fun b => b < w.heap.size) (bor := false) h (fun b hb _ => hb) hargs hx
       refine (hc (dE w0 ρ s.hp w) w vs x (fun _ hb => hb.1) h.gl hr hpre.out).mono fun e w' he' => ?_
       obtain ⟨v, rfl, hres, hbel⟩ := he'
       rw [ho] at hres
       obtain ⟨ρ', h1, h2⟩ := tZ h hg.2 hbel hg.1 (.inr fun _ hb => hb) hv hres
       exact ⟨v, _, _, ρ', rfl, h1, h2, hK⟩
      ·exact hk.elim
     ·exact hk.elim
    ·exact hk.elim
 | false =>
 rw [ho] at hk
 simp only [cond_false] at hk
 cases hn : c.rs.all lS with
 | true =>
  rw [hn] at hk
  simp only [cond_true] at hk
  split at hk
  ·rename_i x hx
   obtain ⟨hpre, hK⟩ := hk
   have hr := nB (S := fun b => b < w.heap.size) (bor := true) h (fun b hb _ => hb) hargs hx
   refine (hc (fun b => b < w.heap.size) w vs x (fun _ hb => hb) h.gl hr hpre.out).mono fun e w' he => ?_
   obtain ⟨v, rfl, hres, hbel⟩ := he
   rw [ho] at hres
   exact ⟨v, _, s, ρ, rfl, h.more ⟨hbel⟩, oe.sv (c := cx w0 ρ s w') (hres.any hn), hK⟩
  ·exact hk.elim
 | false =>
  rw [hn] at hk
  simp only [cond_false] at hk
  split at hk
  ·split at hk
   ·rename_i x hx
    obtain ⟨hpre, hK⟩ := hk
    have hr := nB (S := fun b => b < w.heap.size) (bor := false) h (fun b hb _ => hb) hargs hx
    refine (hc (dE w0 ρ s.hp w) w vs x (fun _ hb => hb.1) h.gl hr hpre.out).mono fun e w' he => ?_
    obtain ⟨v, rfl, hres, hbel⟩ := he
    rw [ho] at hres
    refine ⟨v, _, s, ρ, rfl, h.more ⟨hbel⟩, oe.sv (c := cx w0 ρ s w') (hres.mono fun b hb => ⟨?_, rfl⟩), hK⟩
    rcases hb with hb | ⟨hb1, hb2⟩
    ·exact ⟨Nat.lt_of_lt_of_le hb.1 hbel.size, hb.2.1, hb.2.2⟩
    ·refine ⟨hb2, fun k he hk e => ?_, w0.all b (Nat.le_trans h.base hb1)⟩
     have := (h.fresh k he b hk e).2
     omega
   ·exact hk.elim
  ·exact hk.elim

theorem ud {g : Nat} {c : ah} (hc : aX P g c) {args : List SV} {s : St} {K : SV → St → Prop} {w0 : cz} {ρ : Nat → Value} {a : Act} {w : World} {vs : Array Value} (h : Ok w0 ρ s a w)
  {k : Nat} (hargs : fq (cx w0 ρ s w) args vs.toList) (hk : tx c k s args K) :
  Calls P g vs w (fun e w' => ∃ v sv s' ρ', e = .returned v ∧ Ok w0 ρ' s' a w' ∧ aK (cx w0 ρ' s' w') sv v ∧ K sv s') := by
 have := s8 (ext := #[]) (g := g) (c := c) (P := P) (fun S w args x h1 h4 h2 h3 => by rw [Array.append_empty]; exact hc.2 S w args x h1 h4 h2 h3) h hargs hk
 rwa [Array.append_empty] at this
theorem DG {c : Cx} : ∀ {args l : List SV} {h : Nat} {vs : List Value}, s3 args = some (h, l) → fq c args vs → ∃ us, vs = us ++ [.func (.func h) #[] #[]] ∧ fq c l us
 | [], _, _, _, e, _ => by cases e
 | [x], l, h, [v], e, ha => by
  unfold s3 at e
  simp only [] at e
  split at e
  ·rename_i h' fs cs
   cases hb : (fs.isEmpty && cs.isEmpty) with
   | false => rw [hb] at e; cases e
   | true =>
    rw [hb] at e
    cases e
    simp only [Bool.and_eq_true, Array.isEmpty_iff] at hb
    have h1 := aK.bb (p := .aC (.func (.func h) fs cs)) rfl (by simp) ha.1
    have h2 : v = .func (.func h) fs cs := by simpa using h1.1
    rw [hb.1, hb.2] at h2
    exact ⟨[], by rw [h2]; rfl, trivial⟩
  ·cases e
 | x :: y :: r, l, h, v :: vs, e, ha => by
  unfold s3 at e
  simp only [] at e
  split at e
  ·rename_i h' l' e'
   cases e
   obtain ⟨us, e2, h2⟩ := DG e' ha.2
   exact ⟨v :: us, by rw [e2]; rfl, ha.1, h2⟩
  ·cases e
 | [_], _, _, [], _, ha => ha.elim
 | [_], _, _, _ :: _ :: _, _, ha => ha.2.elim
 | _ :: _ :: _, _, _, [], _, ha => ha.elim
theorem ql (hX : xv P X) {g : Nat} {c : ah} {args l : List SV} (hsp : iL X g args = some (c, l)) {s : St} {K : SV → St → Prop} {w0 : cz} {ρ : Nat → Value} {a : Act} {w : World} {vs : Array Value} (h : Ok w0 ρ s a w)
  {k : Nat} (hargs : fq (cx w0 ρ s w) args vs.toList) (hk : tx c k s l K) :
  lC P g ∧ Calls P g vs w (fun e w' => ∃ v sv s' ρ', e = .returned v ∧ Ok w0 ρ' s' a w' ∧ aK (cx w0 ρ' s' w') sv v ∧ K sv s') := by
 unfold iL at hsp
 split at hsp
 ·rename_i h' l' e
  split at hsp
  ·rename_i c' hkf
   cases hsp
   have hc := hX.R6 g h' c hkf
   obtain ⟨us, e1, h1⟩ := DG e hargs
   have := s8 (ext := #[.func (.func h') #[] #[]]) (g := g) (c := c) (P := P) hc.2 (vs := us.toArray) h (by simpa using h1) hk
   have e2 : us.toArray ++ #[.func (.func h') #[] #[]] = vs := by apply Array.ext'; simpa using e1.symm
   rw [e2] at this
   exact ⟨hc.1, this⟩
  ·cases hsp
 ·cases hsp
theorem mh : ∀ n, (pad n).length = n
 | 0 => rfl
 | n + 1 => by simp [pad, mh n]
theorem A6 : ∀ n i, aF (pad n) i = .one .any
 | 0, _ => rfl
 | _ + 1, 0 => rfl
 | n + 1, i + 1 => A6 n i
theorem oq : ∀ (x y : List SV) (i : Nat), aF (x ++ y) i = if i < x.length then aF x i else aF y (i - x.length)
 | [], y, i => by simp
 | _ :: _, _, 0 => by simp [aF]
 | _ :: x, y, i + 1 => by simpa [aF] using oq x y i
theorem jm {c : Cx} : ∀ {xs : List SV} {vs : List Value}, fq c xs vs → xs.length = vs.length ∧ ∀ i, aK c (aF xs i) (vs.getD i undef)
 | [], [], _ => ⟨rfl, fun _ => trivial⟩
 | x :: xs, v :: vs, h => by
  obtain ⟨h1, h2⟩ := jm h.2
  refine ⟨by simp [h1], fun i => ?_⟩
  cases i with
  | zero => exact h.1
  | succ i => simpa [aF] using h2 i
 | [], _ :: _, h => h.elim
 | _ :: _, [], h => h.elim

theorem nI {c : Cx} {args : List SV} {vs : Array Value} {n : Nat} (h : fq c args vs.toList) (i : Nat) :
  aK c (aF (args ++ pad (n - args.length)) i) ((vs ++ Array.replicate (n - vs.size) undef).getD i undef) := by
 obtain ⟨h1, h2⟩ := jm h
 have h1' : args.length = vs.size := by simpa using h1
 rw [oq]
 by_cases hi : i < args.length
 ·rw [if_pos hi]
  have := h2 i
  have e : (vs ++ Array.replicate (n - vs.size) undef).getD i undef = vs.toList.getD i undef := by
   have hlt : i < vs.size := by omega
   simp [Array.getElem?_append, hlt]
  rw [e]; exact this
 ·rw [if_neg hi, A6]; trivial

def wh (tmps : Array Value) : ResultVar → Sem Value
 | .tmp t => pure (tmps.getD t undef)
 | .cell a t => do loadVar t (← asAddr (tmps.getD a undef))
theorem CM (fn : Func) (tmps : Array Value) : results fn tmps = (do
  let vs ← fn.results.mapM (wh tmps)
  pure (if h : vs.size = 1 then vs[0] else .tuple vs)) := by
 unfold results
 congr 1

theorem FC {E : Env} (hE : aY P E) {w0 : cz} {ρ : Nat → Value} {s : St} {a : Act} {w : World} (h : Ok w0 ρ s a w) {r : ResultVar} {sv : SV} (hr : zK E s r = some sv) :
  ∃ v, aK (cx w0 ρ s w) sv v ∧ (wh a.tmps r).run P w = .ok v w := by
 cases r with
 | tmp t =>
  injection hr with hr
  subst hr
  exact ⟨_, h.frame t, rfl⟩
 | cell ad t =>
  simp only [zK] at hr
  split at hr
  ·rename_i ti ps j hti hl
   split at hr
   ·rename_i pre m post hc
    obtain ⟨b, q, l, e, hl1, hat⟩ := Gm h (h.frame ad) hl
    obtain ⟨h1, h2⟩ := zF hc hl1
    have hn : ((l.drop j).take ti.size).length = ti.size := by rw [List.length_take, List.length_drop]; omega
    refine ⟨_, zg hr h1, ?_⟩
    have := wL (w := w) (hE t ti hti) (hat.sub j ti.size) hn
    unfold Instr.loadAt Instr.sureAddr at this
    simp only [Sem.run_bind, Sem.run_pure, Result.andThen_ok] at this
    simp only [wh, e, asAddr, Sem.run_bind, Sem.run_pure, Result.andThen_ok]
    exact this
   ·cases hr
  ·cases hr
theorem pX {E : Env} (hE : aY P E) {w0 : cz} {ρ : Nat → Value} {s : St} {a : Act} {w : World} (h : Ok w0 ρ s a w) : ∀ {rs : List ResultVar} {svs : List SV}, qB E s rs = some svs →
  ∃ vs, (rs.mapM (wh a.tmps)).run P w = .ok vs w ∧ fq (cx w0 ρ s w) svs vs
 | [], svs, hr => by
  injection hr with hr
  subst hr
  exact ⟨[], rfl, trivial⟩
 | r :: rs, svs, hr => by
  unfold qB at hr
  split at hr
  ·rename_i v hv
   split at hr
   ·rename_i vs hvs
    injection hr with hr
    subst hr
    obtain ⟨u, h1, h2⟩ := FC hE h hv
    obtain ⟨us, h3, h4⟩ := pX hE h hvs
    exact ⟨u :: us, by simp only [List.mapM_cons, Sem.run_bind, h2, Result.andThen_ok, h3, Sem.run_pure], h1, h4⟩
   ·cases hr
  ·cases hr
theorem zw {c : Cx} : ∀ {svs : List SV} {vs : List Value} {es : List (Bool × List PV)}, xN svs = some es → fq c svs vs → qT c es vs
 | [], [], es, h, _ => by injection h with h; subst h; rfl
 | [], _ :: _, _, _, h => h.elim
 | _ :: _, [], _, _, h => h.elim
 | .one p :: r, v :: vs, es, h, ha => by
  have hn : p ≠ .any := fun e => by subst e; cases h
  have h' : (match xN r with
   | some es => some ((p.agg, [p]) :: es)
   | none => none) = some es := by cases p <;> first | exact h | exact absurd rfl hn
  split at h'
  ·rename_i fs hfs
   injection h' with h'
   subst h'
   refine ⟨v, vs, rfl, ?_, zw hfs ha.2⟩
   have := ha.1
   cases p <;> first | exact absurd rfl hn | exact this
  ·cases h'
 | .agg ps :: r, v :: vs, es, h, ha => by
  simp only [xN] at h
  split at h
  ·rename_i fs hfs
   injection h with h
   subst h
   exact ⟨v, vs, rfl, ha.1, zw hfs ha.2⟩
  ·cases h
 | .gB _ :: _, _ :: _, _, h, _ => by cases h
theorem CQ {E : Env} (hE : aY P E) {w0 : cz} {ρ : Nat → Value} {s : St} {a : Act} {w : World} (h : Ok w0 ρ s a w) {fn : Func} {sv : SV} (hr : zu E s fn.results.toList = some sv) :
  ∃ v, (results fn a.tmps).run P w = .ok v w ∧ aK (cx w0 ρ s w) sv v := by
 unfold zu at hr
 have hmap : ∀ vs, (fn.results.toList.mapM (wh a.tmps)).run P w = .ok vs w → (results fn a.tmps).run P w = .ok (if h : vs.toArray.size = 1 then vs.toArray[0] else .tuple vs.toArray) w := fun vs hvs => by
  rw [CM, Array.mapM_eq_mapM_toList]
  simp [hvs]
 split at hr
 ·rename_i v hv
  injection hr with hr
  subst hr
  obtain ⟨vs, h1, h2⟩ := pX hE h hv
  match vs, h2 with
  | [u], h2 => exact ⟨u, by rw [hmap _ h1]; rfl, h2.1⟩
  | [], h2 => exact h2.elim
  | _ :: _ :: _, h2 => exact h2.2.elim
 ·rename_i vs hne hvs
  split at hr
  ·rename_i es hes
   injection hr with hr
   subst hr
   obtain ⟨us, h1, h2⟩ := pX hE h hvs
   have hl : us.length ≠ 1 := fun e => by
    have := (jm h2).1
    rw [e] at this
    match vs, this with
    | [x], _ => exact hne x rfl
   refine ⟨.tuple us.toArray, by rw [hmap _ h1, dif_neg (by simpa using hl)], us.toArray, rfl, ?_⟩
   simpa using zw hes h2
  ·cases hr
 ·cases hr

theorem Am : ∀ {x y : List SV}, xw x y = true → x.length ≤ y.length
 | [], _, _ => by simp
 | _ :: x, _ :: y, h => by simpa using Am (x := x) (y := y) h
 | _ :: _, [], h => by cases h
theorem vS : ∀ (x y : List SV), sS x y = y.take x.length
 | [], y => by cases y <;> rfl
 | _ :: _, [] => rfl
 | _ :: x, _ :: y => by simp [sS, vS x y]
theorem Bh : ∀ (x y : List SV), s9 x y = y.drop x.length
 | [], y => by cases y <;> rfl
 | _ :: _, [] => rfl
 | _ :: x, _ :: y => by simp [s9, Bh x y]
theorem xX : ∀ (l : List SV) (n i : Nat), i < n → aF (l.take n) i = aF l i
 | [], n, i, _ => by simp
 | _ :: _, 0, _, h => by omega
 | _ :: _, _ + 1, 0, _ => rfl
 | _ :: l, n + 1, i + 1, h => xX l n i (by omega)
theorem xK : ∀ (l : List SV) (n i : Nat), aF (l.drop n) i = aF l (n + i)
 | [], n, i => by simp [aF]
 | _ :: _, 0, i => by simp
 | _ :: l, n + 1, i => by
  rw [show n + 1 + i = (n + i) + 1 by omega]
  exact xK l n i

theorem kS {n k g : Nat} {c : ah} {args : List SV} {s : St} {K : SV → St → Prop} (h : X.K g = some c) : call X n k g args s K = tx c k s args K := by
 unfold call; rw [h]
theorem jF {n k g : Nat} {c : ah} {args l : List SV} {s : St} {K : SV → St → Prop} (h : X.K g = none) (h' : iL X g args = some (c, l)) : call X n k g args s K = tx c k s l K := by
 unfold call; rw [h, h']
theorem Fk {k g : Nat} {args : List SV} {s : St} {K : SV → St → Prop} (h : X.K g = none) (h' : iL X g args = none) : call X 0 k g args s K = False := by
 unfold call; rw [h, h']
theorem ER {n k g : Nat} {args : List SV} {s : St} {K : SV → St → Prop} (h : X.K g = none) (h' : iL X g args = none) : call X (n + 1) k g args s K = (match X.fn g with
    | some fn => (match fn.body with
     | some c => bif Nat.ble args.length fn.ntmps then
       code X (call X n) g c { s with fr := args ++ pad (fn.ntmps - args.length), bk := s.fr ++ s.bk } (fun e s' => match e with
        | .exit _ => False
        | _ => (match zu X.E s' fn.results.toList with
         | some v => bif xw s.fr s'.bk then K v { s' with fr := sS s.fr s'.bk, bk := s9 s.fr s'.bk } else False
         | none => False)) else False
     | none => False)
    | none => False) := by
 conv => lhs; unfold call
 rw [h, h']
 rfl
theorem uZ (h : xv P X) (n : Nat) : j3 P (call X n) := by
 induction n with
 | zero =>
  intro k g args s K w0 ρ a w vs hok hargs hk
  cases hcg : X.K g with
  | some c =>
   rw [kS hcg] at hk
   exact ⟨(h.SP g c hcg).1, ud (h.SP g c hcg) hok hargs hk⟩
  | none =>
   cases hsp : iL X g args with
   | some cl => rw [jF hcg hsp] at hk; exact ql h hsp hok hargs hk
   | none => rw [Fk hcg hsp] at hk; exact hk.elim
 | succ n ih =>
  intro k g args s K w0 ρ a w vs hok hargs hk
  cases hcg : X.K g with
  | some c =>
   rw [kS hcg] at hk
   exact ⟨(h.SP g c hcg).1, ud (h.SP g c hcg) hok hargs hk⟩
  | none =>
   cases hsp : iL X g args with
   | some cl => rw [jF hcg hsp] at hk; exact ql h hsp hok hargs hk
   | none =>
    rw [ER hcg hsp] at hk
    split at hk
    ·rename_i fn hfn
     obtain ⟨hf1, hf2⟩ := h.fn g fn hfn
     split at hk
     ·rename_i c hbody
      refine ⟨⟨fn, hf1, hf2, by rw [hbody]; rfl⟩, ?_⟩
      cases hle : Nat.ble args.length fn.ntmps with
      | false => rw [hle] at hk; exact hk.elim
      | true =>
       rw [hle] at hk
       simp only [cond_true] at hk
       have hble := Nat.le_of_ble_eq_true hle
       have hal : args.length = vs.size := by simpa using (jm hargs).1
       let w1 : cz := { w0 with bv := a.tmps.toList ++ w0.bv }
       have hok1 : Ok w1 ρ { s with fr := args ++ pad (fn.ntmps - args.length), bk := s.fr ++ s.bk } { tmps := vs ++ Array.replicate (fn.ntmps - vs.size) undef, defers := [] } w :=
        {defers := rfl, below := hok.below, len := by simp [mh]; omega, frame := fun i => nI (c := cx w0 ρ s w) hargs i,
         back := fun i => by
          show aK (cx w0 ρ s w) (aF (s.fr ++ s.bk) i) ((a.tmps.toList ++ w0.bv).getD i undef)
          rw [oq]
          have hlen : s.fr.length = a.tmps.toList.length := by rw [hok.len]; simp
          by_cases hi : i < s.fr.length
          ·rw [if_pos hi]
           have := hok.frame i
           have e : (a.tmps.toList ++ w0.bv).getD i undef = a.tmps.getD i undef := by
            have hlt : i < a.tmps.size := by rw [← hok.len]; exact hi
            simp [List.getElem?_append, hlt]
           rw [e]; exact this
          ·rw [if_neg hi]
           have := hok.back (i - s.fr.length)
           have e : (a.tmps.toList ++ w0.bv).getD i undef = w0.bv.getD (i - s.fr.length) undef := by
            rw [hlen] at hi ⊢
            rw [List.getD, List.getD, List.getElem?_append_right (by omega)]
           rw [e]; exact this
         heap := hok.heap, used := hok.used, fresh := hok.fresh, apart := hok.apart }
       have hcode := ca (f := g) (w0 := w1) h.ok ih ⟨fun k' g' c' hc' args' s' K' hh => by rw [kS hc']; exact hh, fun k' g' c' args' l' hc' hsp' s' K' hh => by rw [jF hc' hsp']; exact hh⟩ c _ _ hk ρ _ w hok1
       refine calls_of_wp hf1 hbody (wp_mono hcode fun e a' w' hq => ?_)
       have fin : ∀ ρ' s', Ok w1 ρ' s' a' w' → (match zu X.E s' fn.results.toList with
         | some v => bif xw s.fr s'.bk then K v { s' with fr := sS s.fr s'.bk, bk := s9 s.fr s'.bk } else False
         | none => False) →
         a'.defers = [] ∧ ∃ v, (results fn a'.tmps).run P w' = .ok v w' ∧ ∃ v2 sv s2 ρ2, Ending.returned v = Ending.returned v2 ∧ Ok w0 ρ2 s2 a w' ∧ aK (cx w0 ρ2 s2 w') sv v2 ∧ K sv s2 := fun ρ' s' ho hr => by
        split at hr
        ·rename_i sv hsv
         cases hll : xw s.fr s'.bk with
         | false => rw [hll] at hr; exact hr.elim
         | true =>
          rw [hll] at hr
          simp only [cond_true] at hr
          have hlen := Am hll
          obtain ⟨v, h1, h2⟩ := CQ (P := P) h.ok.env ho hsv
          refine ⟨ho.defers, v, h1, v, sv, { s' with fr := sS s.fr s'.bk, bk := s9 s.fr s'.bk }, ρ', rfl, ?_, h2, hr⟩
          have hlen2 : s.fr.length = a.tmps.toList.length := by rw [hok.len]; simp
          exact {
              defers := hok.defers, below := ho.below, len := by rw [vS, List.length_take, Nat.min_eq_left hlen]; exact hok.len,
              frame := fun i => by
               show aK (cx w0 ρ' s' w') (aF (sS s.fr s'.bk) i) (a.tmps.getD i undef)
               rw [vS]
               by_cases hi : i < s.fr.length
               ·rw [xX _ _ _ hi]
                have := ho.back i
                have e : w1.bv.getD i undef = a.tmps.getD i undef := by
                 have hlt : i < a.tmps.size := by rw [← hok.len]; exact hi
                 show (a.tmps.toList ++ w0.bv).getD i undef = _
                 simp [List.getElem?_append, hlt]
                rw [e] at this; exact this
               ·have e : aF (s'.bk.take s.fr.length) i = .one .any := by
                 have hlt : (s'.bk.take s.fr.length).length ≤ i := by rw [List.length_take]; omega
                 generalize s'.bk.take s.fr.length = l at hlt
                 clear hi hlen2 hlen h2 h1 hsv hll hr
                 induction l generalizing i with
                 | nil => rfl
                 | cons x l ih =>
                  cases i with
                  | zero => simp at hlt
                  | succ i => exact ih i (by simpa using hlt)
                rw [e]; trivial
              back := fun i => by
               show aK (cx w0 ρ' s' w') (aF (s9 s.fr s'.bk) i) (w0.bv.getD i undef)
               rw [Bh, xK]
               have := ho.back (s.fr.length + i)
               have e : w1.bv.getD (s.fr.length + i) undef = w0.bv.getD i undef := by
                show (a.tmps.toList ++ w0.bv).getD (s.fr.length + i) undef = _
                rw [hlen2, List.getD, List.getD, List.getElem?_append_right (by omega)]
                congr 2; omega
               rw [e] at this; exact this
              heap := ho.heap, used := ho.used, fresh := ho.fresh, apart := ho.apart }
        ·exact hr.elim
       cases e with
       | normal => obtain ⟨ρ', s', ho, hr⟩ := hq; exact fin ρ' s' ho hr
       | ret => obtain ⟨ρ', s', ho, hr⟩ := hq; exact fin ρ' s' ho hr
       | exit id => obtain ⟨ρ', s', ho, hr⟩ := hq; exact hr.elim
       | goto l => exact hq.elim
       | panic c => exact hq.elim
       | outgrown => exact hq.elim
     ·exact hk.elim
    ·exact hk.elim

def um : (t : Ty) → t.D → Prop
 | .sl t, xs => xs.length ≤ 9223372036854775807 ∧ ∀ x ∈ xs, um t x
 | .arr n t, xs => xs.length = n ∧ ∀ x ∈ xs, um t x
 | .pair a b, x => um a x.1 ∧ um b x.2
 | .int k, n => IR k n
 | .str, l => bN l
 | .bool, _ => True
 | .err, _ => True
def aD : (ts : List Ty) → HL ts → Prop
 | [], _ => True
 | t :: ts, x => um t x.1 ∧ aD ts x.2
theorem Rd.lens {S : Nat → Prop} {w : World} : ∀ {t : Ty} {cs : List Value} {x : t.D}, Rd S w t cs x → um t x
 | .int _, _, _, h => h.2
 | .bool, _, _, _ => trivial
 | .str, _, _, h => h.2
 | .sl t, _, xs, h => by
  obtain ⟨A, c, _, h2, h3, h4⟩ := h
  refine ⟨by simp only [maxLen] at h3; omega, fun x hx => ?_⟩
  obtain ⟨i, hi⟩ := List.mem_iff_getElem?.1 hx
  have hp : 0 < xs.length := by
   cases xs with
   | nil => cases hx
   | cons _ _ => simp
  obtain ⟨b, q, _, _, hr⟩ := h4 hp
  obtain ⟨l, _, hl⟩ := hr i x hi
  exact hl.lens
 | .arr n t, _, xs, h => by
  refine ⟨h.1, fun x hx => ?_⟩
  obtain ⟨i, hi⟩ := List.mem_iff_getElem?.1 hx
  exact (h.2.2 i x hi).lens
 | .pair a b, _, _, h => by
  obtain ⟨l, m, _, h1, h2⟩ := h
  exact ⟨h1.lens, h2.lens⟩
 | .err, _, _, _ => trivial
theorem mY.lens {S : Nat → Prop} {w : World} {t : Ty} {v : Value} {x : t.D} (h : mY S w t v x) : um t x := by
 unfold mY at h
 cases hg : t.agg <;> rw [hg] at h
 ·exact Rd.lens h
 ·obtain ⟨cs, _, h⟩ := h; exact h.lens
theorem fw.lens {S : Nat → Prop} {w : World} : ∀ {ts : List Ty} {vs : List Value} {x : HL ts}, fw S w ts vs x → aD ts x
 | [], [], _, _ => trivial
 | _ :: _, _ :: _, _, h => ⟨h.1.lens, fw.lens h.2⟩
 | [], _ :: _, _, h => h.elim
 | _ :: _, [], _, h => h.elim

theorem zh {c : Cx} : ∀ {ts : List Ty} {vs : List Value} {x : HL ts}, fw c.S c.w ts vs x → fq c (kv ts x) vs
 | [], [], _, _ => trivial
 | _ :: _, _ :: _, _, h => ⟨h.1.sv, zh h.2⟩
 | [], _ :: _, _, h => h.elim
 | _ :: _, [], _, h => h.elim
theorem yU : ∀ {ts : List Ty} {x y : HL ts}, EH ts x y → x = y
 | [], _, _, _ => rfl
 | [_], (a, ()), (b, ()), h => by
  have h : a = b := h
  rw [h]
 | _ :: _ :: _, (a, x), (b, y), h => by
  obtain ⟨h1, h2⟩ := h
  have h1 : a = b := h1
  have h2 : x = y := yU h2
  rw [h1, h2]

theorem Da {w0 : cz} {ρ : Nat → Value} {s : St} {a : Act} {w : World} {S : Nat → Prop} (h : Ok w0 ρ s a w) (hS : ∀ b, b < w.heap.size → w0.S b → S b) :
  ∀ {ts : List Ty} {es : List (Bool × List PV)} {vs : List Value} {x : HL ts}, pt.go s ts es = some x → qT (cx w0 ρ s w) es vs → fw S w ts vs x
 | [], [], vs, x, hr, ht => by
  have ht : vs = [] := ht
  subst ht; trivial
 | t :: ts, e :: es, vs, x, hr, ht => by
  obtain ⟨v, r, rfl, h1, h2⟩ := ht
  unfold pt.go at hr
  cases hx : Bool.xor e.1 t.agg with
  | true => rw [hx] at hr; cases hr
  | false =>
   rw [hx] at hr
   simp only [cond_false] at hr
   have hag : e.1 = t.agg := by cases e1 : e.1 <;> cases e2 : t.agg <;> rw [e1, e2] at hx <;> first | rfl | cases hx
   split at hr
   ·rename_i y hy
    split at hr
    ·rename_i z hz
     injection hr with hr
     subst hr
     refine ⟨?_, Da h hS hz h2⟩
     have hp := ju (bH h1)
     have hrd : Rd S w t v.cells.toList y := fA (c := ⟨ρ, s.us, S, w⟩) hy (zb h hS hp)
     unfold mY
     rw [hag] at h1
     cases hg : t.agg with
     | true =>
      rw [hg] at h1
      obtain ⟨cs, e, _⟩ := h1
      rw [e] at hrd
      exact ⟨cs, e, hrd⟩
     | false =>
      rw [hg] at h1
      have h1 : b9 (cx w0 ρ s w) e.2 [v] := h1
      have hone := h1.one v (by simp)
      have : v.cells.toList = [v] := by cases v <;> first | rfl | cases hone
      rw [this] at hrd
      exact hrd
    ·cases hr
   ·cases hr
 | [], _ :: _, _, _, hr, _ => by cases hr
 | _ :: _, [], _, _, hr, _ => by cases hr
theorem Ej {w0 : cz} {ρ : Nat → Value} {s : St} {a : Act} {w : World} {S : Nat → Prop} (h : Ok w0 ρ s a w) (hS : ∀ b, b < w.heap.size → w0.S b → S b) {ts : List Ty} {sv : SV} {v : Value} {x : HL ts}
  (hr : pt s ts sv = some x) (hv : aK (cx w0 ρ s w) sv v) : oe S w ts v x := by
 match ts, x, hr with
 | [t], x, hr =>
  have hr' : (match tb s true t sv with
   | some x => some ((x, ()) : HL [t])
   | none => none) = some x := by cases sv <;> exact hr
  split at hr'
  ·rename_i y hy
   injection hr' with hr'
   subst hr'
   exact Em h hS (bor := true) hv hy
  ·cases hr'
 | [], x, hr =>
  cases sv with
  | gB es =>
   obtain ⟨vs, e, ht⟩ := hv
   exact ⟨vs, e, Da h hS (ts := []) hr ht⟩
  | one p => cases hr
  | agg ps => cases hr
  | lT _ _ => cases hr
 | t :: u :: ts, x, hr =>
  cases sv with
  | gB es =>
   obtain ⟨vs, e, ht⟩ := hv
   exact ⟨vs, e, Da h hS (ts := t :: u :: ts) hr ht⟩
  | one p => cases hr
  | agg ps => cases hr
  | lT _ _ => cases hr

theorem RU {w0 : cz} {ρ : Nat → Value} {s : St} {a : Act} {w : World} {S : Nat → Prop} {p0 : PV} (h : Ok w0 ρ s a w) (hF : ∀ b, dE w0 ρ s.hp w b → S b)
  (hN : ∀ j he b, (∀ k, p0 = .row k → j ≠ k) → s.hp j = some he → bO (ρ j) = some b → S b) {p : PV} (hr : yl p0 p = true) {l : List Value} (hp : iD (cx w0 ρ s w) p l) : iD ⟨ρ, s.us, S, w⟩ (PV.res s p) l := by
 have hle : (cx w0 ρ s w).le ⟨ρ, s.us, S, w⟩ := ⟨fun _ hk => hk, fun _ _ => rfl, fun b hb => ⟨hF b hb, rfl⟩⟩
 have hmono := hp.mono hle
 cases p with
 | sub k k' sz x y => cases hr
 | tu k off n sz => cases hr
 | row k =>
  have hne : ∀ k', p0 = .row k' → k ≠ k' := fun k' e => by
   subst e
   intro e2
   subst e2
   simp [yl] at hr
  simp only [PV.res]
  split
  ·rename_i t xs hk
   obtain ⟨_, hl, _⟩ := hp
   rcases h.heap k _ hk with ⟨h1, rfl⟩ | ⟨b, o, cp, cur, e, h1, h2, h3, h4, h5, h6⟩
   ·exact ⟨none, 0, by rw [hl, h1]; rfl, Nat.le_refl _, by simp [maxLen], fun h => absurd h (by simp)⟩
   ·refine ⟨_, cp, by rw [hl, h1], h3, h4, fun _ => ⟨b, o, rfl, hN k _ b hne hk (by rw [show ρ k = _ from h1]; rfl), fun i x hx => ⟨_, fun j v hv => ?_, Rd.mono hle.keep (h6 i x hx)⟩⟩⟩
    have := At.of_block h2 (o + i * t.size) t.size j v hv
    rwa [Nat.add_assoc] at this
  ·exact hmono
 | _ => exact hmono
theorem zS {w0 : cz} {ρ : Nat → Value} {s : St} {a : Act} {w : World} {S : Nat → Prop} {p0 : PV} (h : Ok w0 ρ s a w) (hF : ∀ b, dE w0 ρ s.hp w b → S b)
  (hN : ∀ j he b, (∀ k, p0 = .row k → j ≠ k) → s.hp j = some he → bO (ρ j) = some b → S b) : ∀ {ps : List PV} {l : List Value}, ps.all (yl p0) = true → b9 (cx w0 ρ s w) ps l → b9 ⟨ρ, s.us, S, w⟩ (ps.map (PV.res s)) l
 | [], _, _, hp => hp
 | _ :: _, _, hr, ⟨l1, l2, e, h1, h2⟩ => by
  simp only [List.all_cons, Bool.and_eq_true] at hr
  exact ⟨l1, l2, e, RU h hF hN hr.1 h1, zS h hF hN hr.2 h2⟩
theorem DS {w0 : cz} {ρ : Nat → Value} {s : St} {a : Act} {w : World} {S : Nat → Prop} {p0 : PV} (h : Ok w0 ρ s a w) (hF : ∀ b, dE w0 ρ s.hp w b → S b)
  (hN : ∀ j he b, (∀ k, p0 = .row k → j ≠ k) → s.hp j = some he → bO (ρ j) = some b → S b) :
  ∀ {ts : List Ty} {es : List (Bool × List PV)} {vs : List Value} {x : HL ts}, qK p0 es = true → pt.go s ts es = some x → qT (cx w0 ρ s w) es vs → fw S w ts vs x
 | [], [], vs, x, _, hr, ht => by
  have ht : vs = [] := ht
  subst ht; trivial
 | t :: ts, e :: es, vs, x, ho, hr, ht => by
  obtain ⟨v, r, rfl, h1, h2⟩ := ht
  simp only [qK, Bool.and_eq_true] at ho
  unfold pt.go at hr
  cases hx : Bool.xor e.1 t.agg with
  | true => rw [hx] at hr; cases hr
  | false =>
   rw [hx] at hr
   simp only [cond_false] at hr
   have hag : e.1 = t.agg := by cases e1 : e.1 <;> cases e2 : t.agg <;> rw [e1, e2] at hx <;> first | rfl | cases hx
   split at hr
   ·rename_i y hy
    split at hr
    ·rename_i z hz
     injection hr with hr
     subst hr
     refine ⟨?_, DS h hF hN ho.2 hz h2⟩
     have hp := ju (bH h1)
     have hrd : Rd S w t v.cells.toList y := fA (c := ⟨ρ, s.us, S, w⟩) hy (zS h hF hN ho.1 hp)
     unfold mY
     rw [hag] at h1
     cases hg : t.agg with
     | true =>
      rw [hg] at h1
      obtain ⟨cs, e, _⟩ := h1
      rw [e] at hrd
      exact ⟨cs, e, hrd⟩
     | false =>
      rw [hg] at h1
      have h1 : b9 (cx w0 ρ s w) e.2 [v] := h1
      have hone := h1.one v (by simp)
      have : v.cells.toList = [v] := by cases v <;> first | rfl | cases hone
      rw [this] at hrd
      exact hrd
    ·cases hr
   ·cases hr
 | [], _ :: _, _, _, _, hr, _ => by cases hr
 | _ :: _, [], _, _, _, hr, _ => by cases hr
theorem D2 {w0 : cz} {ρ : Nat → Value} {s : St} {a : Act} {w : World} (h : Ok w0 ρ s a w) {t : Ty} {S : Nat → Prop} {p : PV} {v : Value} {xs : List t.D} (hS : ∀ b, b < w.heap.size → w0.S b → S b ∨ (w0.w.heap.size ≤ b ∧ b < w.heap.size)) (hr : rowOf s t p = some xs)
  (hp : iD (cx w0 ρ s w) p [v]) : x9 S w0.w.heap.size w t v xs := by
 unfold rowOf at hr
 split at hr
 ·rename_i k
  split at hr
  ·rename_i u ys hk
   obtain ⟨e2, he2⟩ := du hr
   injection e2 with e2
   subst e2
   have he2 : ys = xs := he2
   subst he2
   obtain ⟨_, h1, _⟩ := hp
   have h1 : [v] = [ρ k] := h1
   have h1 : v = ρ k := by simpa using h1
   subst h1
   rcases h.heap k _ hk with ⟨h2, rfl⟩ | ⟨b, q, cp, cur, e', h2, hh, h3, h4, h5, h6⟩
   ·exact .inl ⟨h2, rfl⟩
   ·exact .inr ⟨b, q, cp, cur, e', h2, h.fresh k _ b hk (by rw [show ρ k = _ from h2]; rfl), hh, h3, h4, h5, fun i x hi => Rd.mono (fun c hc => ⟨⟨fun e => hc.2.1 k _ hk (by rw [show ρ k = _ from h2, e]; rfl), hS c hc.1 hc.2.2⟩, rfl⟩) (h6 i x hi)⟩
  ·cases hr
 ·simp only [Option.some.injEq] at hr
  subst hr
  have h1 : v = .slice none 0 0 := by simpa using hp.1
  exact .inl ⟨h1, rfl⟩
 ·cases hr
theorem D3 {w0 : cz} {ρ : Nat → Value} {s : St} {a : Act} {w : World} (h : Ok w0 ρ s a w) {S : Nat → Prop} (hS : ∀ b, b < w.heap.size → w0.S b → S b ∨ (w0.w.heap.size ≤ b ∧ b < w.heap.size)) {rs : List Ty} {sv : SV} {v : Value} {x : HL rs} (hok : kC rs = true) (hr : xx s rs sv = some x)
  (hv : aK (cx w0 ρ s w) sv v) : CA S w0.w.heap.size w rs v x := by
 unfold xx at hr
 split at hr
 ·rename_i t p
  split at hr
  ·rename_i y hy
   simp only [Option.some.injEq] at hr
   subst hr
   have hpa : p.agg = false ∧ p ≠ .any := by
    unfold rowOf at hy
    cases p <;> simp_all [PV.agg]
   exact D2 h hS hy (aK.bb hpa.1 hpa.2 hv)
  ·cases hr
 ·rename_i t u r p es
  cases hro : qK p es with
  | false => rw [hro] at hr; cases hr
  | true =>
  rw [hro] at hr
  simp only [cond_true] at hr
  split at hr
  ·rename_i y z hy hz
   simp only [Option.some.injEq] at hr
   subst hr
   obtain ⟨vs, rfl, v0, r0, e, h1, h2⟩ := hv
   have e' : vs = (v0 :: r0).toArray := by apply Array.ext'; simpa using e
   subst e'
   have hpv : iD (cx w0 ρ s w) p [v0] := by
    obtain ⟨l, m, e1, e2, e3⟩ := h1
    have e3 : m = [] := e3
    subst e3
    rw [List.append_nil] at e1
    rw [e1]; exact e2
   have hblk : (∃ k t' xs', p = .row k ∧ v0 = ρ k ∧ s.hp k = some (.row t' xs')) ∨ bO v0 = none := by
    unfold rowOf at hy
    split at hy
    ·rename_i k
     split at hy
     ·rename_i t' xs' hk
      have h3 : [v0] = [ρ k] := hpv.2.1
      injection h3 with h3
      exact .inl ⟨k, t', xs', rfl, h3, hk⟩
     ·cases hy
    ·have h3 : [v0] = [.slice none 0 0] := hpv.1
     injection h3 with h3
     exact .inr (by rw [h3]; rfl)
    ·cases hy
   refine ⟨v0, r0, rfl, D2 h hS hy hpv, DS h (fun b hb => ⟨fun e => ?_, hS b hb.1 hb.2.2⟩) (fun j he b hne hj e => ⟨fun e2 => ?_, .inr (h.fresh j he b hj e)⟩) hro hz h2⟩
   ·rcases hblk with ⟨k, t', xs', _, e2, hk⟩ | hn
    ·rw [e2] at e
     exact hb.2.1 k _ hk e
    ·rw [hn] at e; cases e
   ·rcases hblk with ⟨k, t', xs', e3, e4, hk⟩ | hn
    ·rw [e4] at e2
     exact h.apart j k he _ b (hne k e3) hj hk e e2
    ·rw [hn] at e2; cases e2
  ·cases hr
 ·cases hr

theorem av {n g : Nat} {fn : Func} {c : ah} {X : HL c.as → Fx} (hX : ∀ x, xv P (X x)) (hf : P.funcs[g]? = some fn) (hname : (fn.name == "runtime.NumGoroutine") = false) (hbody : fn.body.isNone = false) (_hn : c.as.length ≤ fn.ntmps)
  (hvc : ∀ x, c.pre x → aD c.as x → vc (X x) n g fn c x) : aX P g c := by
 refine ⟨⟨fn, hf, hname, hbody⟩, fun S w args x hS hgl hargs hpre => ?_⟩
 have hv := hvc x hpre hargs.lens
 have h := hX x
 unfold vc at hv
 split at hv
 ·rename_i b hb
  let w0 : cz := { w := w, S := fun b => S b ∨ w.heap.size ≤ b, all := fun b hb => .inr hb, bv := [], gl := hgl }
  have hk : gD S w (dE w0 (fun _ => undef) (start fn.ntmps (kv c.as x)).hp w) w := fun b hb => ⟨⟨hS b hb, fun k he hk => (by cases hk), .inl hb⟩, rfl⟩
  have hargs' : fq (cx w0 (fun _ => undef) (start fn.ntmps (kv c.as x)) w) (kv c.as x) args.toList := zh (hargs.mono hk)
  have hal : (kv c.as x).length = args.size := by simpa using (jm hargs').1
  have hok : Ok w0 (fun _ => undef) (start fn.ntmps (kv c.as x)) { tmps := args ++ Array.replicate (fn.ntmps - args.size) undef, defers := [] } w :=
   {defers := rfl, below := Below.refl _ _, len := by simp [start, mh]; omega, frame := fun i => nI hargs' i,
    back := fun i => by show aK _ (aF [] i) _; unfold aF; cases i <;> trivial
    heap := fun k he hk => (by cases hk), used := fun k he hk => (by cases hk), fresh := fun k he b hk => (by cases hk), apart := fun k k' he he' b _ hk => (by cases hk) }
  have hcode := ca (f := g) (w0 := w0) h.ok (uZ h n) ⟨fun k' g' c' hc' args' s' K' hh => by rw [kS hc']; exact hh, fun k' g' c' args' l' hc' hsp' s' K' hh => by rw [jF hc' hsp']; exact hh⟩ b _ _ hv _ _ w hok
  refine calls_of_wp hf hb (wp_mono hcode fun e a' w' hq => ?_)
  have fin : ∀ ρ' s', Ok w0 ρ' s' a' w' → (match zu (X x).E s' fn.results.toList with
    | some v => (match (bif c.own then (bif kC c.rs then xx s' c.rs v else none) else pt s' c.rs v) with
     | some y => EH c.rs y (c.f x)
     | none => False)
    | none => False) → a'.defers = [] ∧ ∃ v, (results fn a'.tmps).run P w' = .ok v w' ∧ ∃ v2, Ending.returned v = Ending.returned v2 ∧
     (match c.own with
      | true => CA S w.heap.size w' c.rs v2 (c.f x)
      | false => oe (fun b => S b ∨ (w.heap.size ≤ b ∧ b < w'.heap.size)) w' c.rs v2 (c.f x)) ∧ Below w.heap.size w w' := fun ρ' s' ho hr => by
   split at hr
   ·rename_i sv hsv
    split at hr
    ·rename_i y hy
     have hyx := yU hr
     subst hyx
     obtain ⟨v, h1, h2⟩ := CQ (P := P) h.ok.env ho hsv
     refine ⟨ho.defers, v, h1, v, rfl, ?_, ho.below⟩
     cases hown : c.own with
     | true =>
      rw [hown] at hy
      simp only [cond_true] at hy ⊢
      cases hg : kC c.rs with
      | false => rw [hg] at hy; cases hy
      | true => rw [hg] at hy; exact D3 (S := S) ho (fun b hb hb2 => hb2.imp id (fun q => ⟨q, hb⟩)) hg hy h2
     | false =>
      rw [hown] at hy
      simp only [cond_false] at hy ⊢
      refine Ej ho (fun b hb hb2 => ?_) hy h2
      rcases hb2 with hb2 | hb2
      ·exact .inl hb2
      ·exact .inr ⟨hb2, hb⟩
    ·exact hr.elim
   ·exact hr.elim
  cases e with
  | normal => obtain ⟨ρ', s', ho, hr⟩ := hq; exact fin ρ' s' ho hr
  | ret => obtain ⟨ρ', s', ho, hr⟩ := hq; exact fin ρ' s' ho hr
  | exit id => obtain ⟨ρ', s', ho, hr⟩ := hq; exact hr.elim
  | goto l => exact hq.elim
  | panic c => exact hq.elim
  | outgrown => exact hq.elim
 ·exact hv.elim
theorem Dv {n g hh : Nat} {fn : Func} {c : ah} {X : HL c.as → Fx} (hX : ∀ x, xv P (X x)) (hf : P.funcs[g]? = some fn) (hname : (fn.name == "runtime.NumGoroutine") = false) (hbody : fn.body.isNone = false) (_hn : c.as.length + 1 ≤ fn.ntmps)
  (hvc : ∀ x, c.pre x → aD c.as x → Uo (X x) n g hh fn c x) : wH P g hh c := by
 refine ⟨⟨fn, hf, hname, hbody⟩, fun S w args x hS hgl hargs hpre => ?_⟩
 have hv := hvc x hpre hargs.lens
 have h := hX x
 unfold Uo at hv
 split at hv
 ·rename_i b hb
  let w0 : cz := { w := w, S := fun b => S b ∨ w.heap.size ≤ b, all := fun b hb => .inr hb, bv := [], gl := hgl }
  have hk : gD S w (dE w0 (fun _ => undef) (start fn.ntmps (kv c.as x ++ [SV.one (.aC (.func (.func hh) #[] #[]))])).hp w) w := fun b hb => ⟨⟨hS b hb, fun k he hk => (by cases hk), .inl hb⟩, rfl⟩
  have hargs' : fq (cx w0 (fun _ => undef) (start fn.ntmps (kv c.as x ++ [SV.one (.aC (.func (.func hh) #[] #[]))])) w) (kv c.as x ++ [SV.one (.aC (.func (.func hh) #[] #[]))]) (args ++ #[Value.func (.func hh) #[] #[]]).toList := by
   rw [Array.toList_append]
   exact mA (zh (hargs.mono hk)) ⟨aK.ki (p := .aC (.func (.func hh) #[] #[])) rfl ⟨rfl, rfl⟩, trivial⟩
  have hal : (kv c.as x).length = args.size := by have := (jm hargs').1; simpa using this
  have hok : Ok w0 (fun _ => undef) (start fn.ntmps (kv c.as x ++ [SV.one (.aC (.func (.func hh) #[] #[]))])) { tmps := (args ++ #[Value.func (.func hh) #[] #[]]) ++ Array.replicate (fn.ntmps - (args ++ #[Value.func (.func hh) #[] #[]]).size) undef, defers := [] } w :=
   {defers := rfl, below := Below.refl _ _, len := by simp [start, mh]; omega, frame := fun i => nI hargs' i,
    back := fun i => by show aK _ (aF [] i) _; unfold aF; cases i <;> trivial
    heap := fun k he hk => (by cases hk), used := fun k he hk => (by cases hk), fresh := fun k he b hk => (by cases hk), apart := fun k k' he he' b _ hk => (by cases hk) }
  have hcode := ca (f := g) (w0 := w0) h.ok (uZ h n) ⟨fun k' g' c' hc' args' s' K' hh => by rw [kS hc']; exact hh, fun k' g' c' args' l' hc' hsp' s' K' hh => by rw [jF hc' hsp']; exact hh⟩ b _ _ hv _ _ w hok
  refine calls_of_wp hf hb (wp_mono hcode fun e a' w' hq => ?_)
  have fin : ∀ ρ' s', Ok w0 ρ' s' a' w' → (match zu (X x).E s' fn.results.toList with
    | some v => (match (bif c.own then (bif kC c.rs then xx s' c.rs v else none) else pt s' c.rs v) with
     | some y => EH c.rs y (c.f x)
     | none => False)
    | none => False) → a'.defers = [] ∧ ∃ v, (results fn a'.tmps).run P w' = .ok v w' ∧ ∃ v2, Ending.returned v = Ending.returned v2 ∧
     (match c.own with
      | true => CA S w.heap.size w' c.rs v2 (c.f x)
      | false => oe (fun b => S b ∨ (w.heap.size ≤ b ∧ b < w'.heap.size)) w' c.rs v2 (c.f x)) ∧ Below w.heap.size w w' := fun ρ' s' ho hr => by
   split at hr
   ·rename_i sv hsv
    split at hr
    ·rename_i y hy
     have hyx := yU hr
     subst hyx
     obtain ⟨v, h1, h2⟩ := CQ (P := P) h.ok.env ho hsv
     refine ⟨ho.defers, v, h1, v, rfl, ?_, ho.below⟩
     cases hown : c.own with
     | true =>
      rw [hown] at hy
      simp only [cond_true] at hy ⊢
      cases hg : kC c.rs with
      | false => rw [hg] at hy; cases hy
      | true => rw [hg] at hy; exact D3 (S := S) ho (fun b hb hb2 => hb2.imp id (fun q => ⟨q, hb⟩)) hg hy h2
     | false =>
      rw [hown] at hy
      simp only [cond_false] at hy ⊢
      refine Ej ho (fun b hb hb2 => ?_) hy h2
      rcases hb2 with hb2 | hb2
      ·exact .inl hb2
      ·exact .inr ⟨hb2, hb⟩
    ·exact hr.elim
   ·exact hr.elim
  cases e with
  | normal => obtain ⟨ρ', s', ho, hr⟩ := hq; exact fin ρ' s' ho hr
  | ret => obtain ⟨ρ', s', ho, hr⟩ := hq; exact fin ρ' s' ho hr
  | exit id => obtain ⟨ρ', s', ho, hr⟩ := hq; exact hr.elim
  | goto l => exact hq.elim
  | panic c => exact hq.elim
  | outgrown => exact hq.elim
 ·exact hv.elim
end
end Go.Sx
/-
 Sx, part V: what is handed in reads as data.
-/
namespace Go.Sx
open Go.RowKit

def Good : (u : Ty) → u.D → Prop
 | .int k, n => IR k n
 | .bool, _ => True
 | .str, s => s.length ≤ 9223372036854775807
 | .sl u, xs => ∀ x ∈ xs, Good u x
 | .arr _ u, xs => ∀ x ∈ xs, Good u x
 | .pair a b, x => Good a x.1 ∧ Good b x.2
 | .err, _ => True
def Fit : (u : Ty) → u.D → Prop
 | .int _, _ => True
 | .bool, _ => True
 | .str, s => s.length ≤ 140737488351232
 | .sl u, xs => xs.length * u.low ≤ 140737488351232 ∧ ∀ x ∈ xs, Fit u x
 | .arr _ u, xs => ∀ x ∈ xs, Fit u x
 | .pair a b, x => Fit a x.1 ∧ Fit b x.2
 | .err, _ => True

section
variable {H : Type} {enc : TypeId × Value → H} {P : Program} {w : World} {sp : Nat → Bool}

theorem Ag {k : IntKind} {n : Int} (h : (Lit.int k n).wf = true) : IR k n := by
 simp only [Lit.wf, Bool.and_eq_true, decide_eq_true_eq] at h
 cases k <;> simp only [IntKind.min, IntKind.max, IntKind.bits, IntKind.signed] at h <;> simp at h <;> simp only [IR] <;> omega

theorem xD {a : Addr} {n : Nat} {l : List Value} (h : w.cells? 0 a n = some l) : l.length = n ∧ ∀ (j : Nat) v, l[j]? = some v → w.cell? (a.add j) = some v := by
 unfold World.cells? at h
 simp only [Nat.zero_le, if_true] at h
 have key : ∀ (r : List Nat) (l : List Value), r.mapM (fun i => w.cell? (a.add i)) = some l → l.length = r.length ∧ ∀ (j : Nat) v, l[j]? = some v → ∃ i, r[j]? = some i ∧ w.cell? (a.add i) = some v := by
  intro r
  induction r with
  | nil => intro l h; simp at h; subst h; simp
  | cons x r ih =>
   intro l h
   rw [List.mapM_cons] at h
   cases hx : w.cell? (a.add x) with
   | none => rw [hx] at h; simp at h
   | some v =>
    rw [hx] at h
    cases hr : r.mapM (fun i => w.cell? (a.add i)) with
    | none => rw [hr] at h; simp at h
    | some m =>
     rw [hr] at h
     simp at h
     subst h
     obtain ⟨h1, h2⟩ := ih m hr
     refine ⟨by simp [h1], fun j u hj => ?_⟩
     cases j with
     | zero => simp at hj; subst hj; exact ⟨x, rfl, hx⟩
     | succ j => simpa using h2 j u (by simpa using hj)
 obtain ⟨h1, h2⟩ := key _ _ h
 refine ⟨by simpa using h1, fun j v hj => ?_⟩
 obtain ⟨i, hi, hc⟩ := h2 j v hj
 have : i = j := by
  rw [List.getElem?_range] at hi
  ·simpa using hi.symm
  ·have : j < l.length := (List.getElem?_eq_some_iff.1 hj).1
   simpa [h1] using this
 rw [← this]; exact hc

theorem nF {α : Type} {Q : Nat → α → Prop} : ∀ (n : Nat), (∀ i, i < n → ∃ x, Q i x) → ∃ xs : List α, xs.length = n ∧ ∀ (i : Nat) x, xs[i]? = some x → Q i x
 | 0, _ => ⟨[], rfl, by simp⟩
 | n + 1, h => by
  obtain ⟨xs, h1, h2⟩ := nF n (fun i hi => h i (by omega))
  obtain ⟨x, hx⟩ := h n (by omega)
  refine ⟨xs ++ [x], by simp [h1], fun i y hy => ?_⟩
  by_cases hi : i < n
  ·rw [List.getElem?_append_left (by omega)] at hy; exact h2 i y hy
  ·have hlt := (List.getElem?_eq_some_iff.1 hy).1
   simp [h1] at hlt
   have : i = n := by omega
   subst this
   rw [List.getElem?_append_right (by omega)] at hy
   simp [h1] at hy
   subst hy; exact hx

theorem jL {e : TypeId} {c : Nat} : ∀ {l : List (DataW H)}, (DataW.weightsAll P e l).all (fun n => decide (n ≤ c)) = true → ∀ d ∈ l, (DataW.weights P e d).all (fun n => decide (n ≤ c)) = true
 | [], _, _, h => by cases h
 | x :: l, h, d, hd => by
  rw [DataW.weightsAll, List.all_append, Bool.and_eq_true] at h
  rcases List.mem_cons.1 hd with rfl | hd
  ·exact h.1
  ·exact jL h.2 d hd

theorem eS {t : TypeId} {ts : List TypeId} {d : DataW H} {ds : List (DataW H)} {c : Nat} (h : (DataW.weightsEach P (t :: ts) (d :: ds)).all (fun n => decide (n ≤ c)) = true) :
  (DataW.weights P t d).all (fun n => decide (n ≤ c)) = true ∧ (DataW.weightsEach P ts ds).all (fun n => decide (n ≤ c)) = true := by
 rw [DataW.weightsEach, List.all_append, Bool.and_eq_true] at h
 exact h

def Reads (enc : TypeId × Value → H) (P : Program) (w : World) (sp : Nat → Bool) (u : Ty) : Prop :=
 (∀ (t : TypeId), (FL P u).1 t → ∀ (fuel : Nat) (cs : List Value) (d : DataW H) (ps : List MemPlace), DataW.trod enc P w 0 sp true fuel t cs = some (d, ps) →
  ∃ x : u.D, Rd (fun b => b < w.heap.size) w u cs x ∧ Good u x ∧ ((DataW.weights P t d).all (fun n => decide (n ≤ reachBytes)) = true → Fit u x)) ∧
 (∀ (fs : List Field) (o : Nat), (FL P u).2 fs o → ∀ (n : Nat) (cs : List Value) (xs : List (DataW H × List MemPlace)), cs.length = o + u.size → xs.length = fs.length →
  (∀ (i : Nat) (f : Field), fs[i]? = some f → DataW.trod enc P w 0 sp true n f.type ((cs.drop f.offset).take (P.cellsOf f.type)) = xs[i]?) →
  ∃ x : u.D, Rd (fun b => b < w.heap.size) w u (cs.drop o) x ∧ Good u x ∧ ((DataW.weightsEach P (fs.map (·.type)) (xs.map (·.1))).all (fun n => decide (n ≤ reachBytes)) = true → Fit u x))

theorem Fh {k : IntKind} : Reads enc P w sp (.int k) := by
 refine ⟨fun t ht fuel cs d ps h => ?_, fun fs o h => h.elim⟩
 obtain ⟨n, rfl, _, hw⟩ := DataW.trod_int (show P.underlying t = some (.int k) from ht) h
 exact ⟨n, ⟨rfl, Ag hw⟩, Ag hw, fun _ => trivial⟩
theorem CN : Reads enc P w sp .bool := by
 refine ⟨fun t ht fuel cs d ps h => ?_, fun fs o h => h.elim⟩
 obtain ⟨b, rfl, _⟩ := DataW.trod_bool (show P.underlying t = some .bool from ht) h
 exact ⟨b, rfl, trivial, fun _ => trivial⟩
theorem EM : Reads enc P w sp .str := by
 refine ⟨fun t ht fuel cs d ps h => ?_, fun fs o h => h.elim⟩
 obtain ⟨s, rfl, e, hs⟩ := DataW.trod_string (show P.underlying t = some .string from ht) h
 cases e
 have hs' : s.size ≤ 9223372036854775807 := by simp only [maxLen] at hs; omega
 refine ⟨ofStr s, Bp s hs', by show (ofStr s).length ≤ _; rw [mf]; exact hs', fun hw => ?_⟩
 rw [DataW.weights] at hw
 simp only [List.all_cons, List.all_nil, Bool.and_true, decide_eq_true_eq] at hw
 have this := hw
 show (ofStr s).length ≤ 140737488351232
 rw [mf]
 have e : s.data.toList.length = s.size := rfl
 rw [e] at this
 have hr : reachBytes = 140737488351232 := rfl
 omega
theorem IL {u : Ty} (ih : Reads enc P w sp u) : Reads enc P w sp (.sl u) := by
 refine ⟨fun t ht fuel cs d ps h => ?_, fun fs o h => h.elim⟩
 obtain ⟨e, h1, h2, h3, h4, h5⟩ := ht
 rcases Go.Deep.open_slice h1 h with ⟨rfl, he⟩ | ⟨a, len, cap, m, n, D, Pl, rfl, hb, hl, hm, hmm, he, hx⟩
 ·cases he
  exact ⟨([] : List u.D), ⟨none, 0, rfl, Nat.le_refl _, Nat.zero_le _, fun h => absurd h (by simp)⟩, (fun x hx => by cases hx), fun _ => ⟨by simp, (fun x hx => by cases hx)⟩⟩
 ·cases he
  have hlm : len ≤ m := by rw [hmm]; split <;> omega
  obtain ⟨xs, hxl, hxs⟩ := nF (α := u.D) (Q := fun i x => ∃ cs', w.cells? 0 (a.add (i * P.cellsOf e)) (P.cellsOf e) = some cs' ∧ Rd (fun b => b < w.heap.size) w u cs' x ∧ Good u x ∧ ((DataW.weights P e (D i)).all (fun n => decide (n ≤ reachBytes)) = true → Fit u x)) len (fun i hi => by
   obtain ⟨cs', c1, c2⟩ := hx i (by omega)
   obtain ⟨x, r1, r2, r3⟩ := ih.1 e h5 n cs' (D i) (Pl i) c2
   exact ⟨x, cs', c1, r1, r2, r3⟩)
  refine ⟨xs, ⟨some a, cap, by rw [hxl], by omega, hm, fun hp => ?_⟩, fun x hx' => ?_, fun hw => ?_⟩
  ·have hsp : a.spot = none ∧ a.block < w.heap.size := by
    obtain ⟨cs', c1, r1, _⟩ := hxs 0 xs[0] (List.getElem?_eq_getElem hp)
    have hl1 := r1.len
    obtain ⟨g1, g2⟩ := xD c1
    have hlt : 0 < cs'.length := by rw [hl1]; exact h4
    have := g2 0 cs'[0] (List.getElem?_eq_getElem hlt)
    simp only [Nat.zero_mul] at this
    unfold World.cell? at this
    split at this
    ·rename_i c t' fr hh
     split at this
     ·cases this
     ·rename_i hsp
      have hb' : ((a.add 0).add 0).block = a.block := by simp [Addr.add]
      have hs' : ((a.add 0).add 0).spot = a.spot := by simp [Addr.add]
      rw [hb'] at hh
      rw [hs'] at hsp
      exact ⟨by simpa using hsp, (Array.getElem?_eq_some_iff.1 hh).1⟩
    ·cases this
   refine ⟨a.block, a.off, by cases a; simp at hsp ⊢; exact hsp.1, hsp.2, fun i x hi => ?_⟩
   obtain ⟨cs', c1, r1, _⟩ := hxs i x hi
   obtain ⟨g1, g2⟩ := xD c1
   refine ⟨cs', fun j v hj => ?_, r1⟩
   have := g2 j v hj
   rw [Go.Deep.add_add, h2] at this
   have e2 : a.add (i * u.size + j) = ⟨a.block, a.off + (i * u.size + j), none⟩ := by
    unfold Addr.add
    split
    ·rename_i h0
     have h0 : i * u.size + j = 0 := h0
     rw [h0]
     have hs := hsp.1
     clear hx hxs c1 g2 h hmm this hj hb hsp
     cases a; simp at hs ⊢; exact hs
    ·simp
   rw [e2] at this
   exact this
  ·obtain ⟨i, hi⟩ := List.mem_iff_getElem?.1 hx'
   obtain ⟨cs', _, _, r2, _⟩ := hxs i x hi
   exact r2
  ·rw [DataW.weights, h1] at hw
   simp only [List.all_cons, List.all_append, Bool.and_eq_true, decide_eq_true_eq, List.length_map, List.length_range] at hw
   refine ⟨?_, fun x hx' => ?_⟩
   ·have : len * u.low ≤ (len + (m - len)) * P.bytesOf e := Nat.mul_le_mul (by omega) h3
    have hr : reachBytes = 140737488351232 := rfl
    rw [hxl]
    omega
   ·obtain ⟨i, hi⟩ := List.mem_iff_getElem?.1 hx'
    obtain ⟨cs', _, _, _, r3⟩ := hxs i x hi
    refine r3 (jL hw.2.1 (D i) ?_)
    have : i < len := by rw [← hxl]; exact (List.getElem?_eq_some_iff.1 hi).1
    simp only [List.mem_map, List.mem_range]
    exact ⟨i, this, rfl⟩
theorem FA {n : Nat} {u : Ty} (ih : Reads enc P w sp u) : Reads enc P w sp (.arr n u) := by
 refine ⟨fun t ht fuel cs d ps h => ?_, fun fs o h => h.elim⟩
 obtain ⟨e, h1, h2, h3, h5⟩ := ht
 cases fuel with
 | zero => simp [DataW.trod] at h
 | succ m =>
  unfold DataW.trod at h
  rw [h1] at h
  simp only [] at h
  split at h
  ·rename_i hl
   cases hm : (List.range n).mapM (fun i => DataW.trod enc P w 0 sp true m e ((cs.drop (i * P.cellsOf e)).take (P.cellsOf e))) with
   | none => rw [hm] at h; simp at h
   | some xs =>
    rw [hm] at h
    simp only [Option.map_some, Option.some.injEq, Prod.mk.injEq] at h
    obtain ⟨rfl, rfl⟩ := h
    obtain ⟨g1, g2⟩ := mapM_some hm
    simp only [List.length_range] at g1
    obtain ⟨ys, hyl, hys⟩ := nF (α := u.D) (Q := fun i x => Rd (fun b => b < w.heap.size) w u ((cs.drop (i * u.size)).take u.size) x ∧ Good u x ∧ (∀ y, xs[i]? = some y → (DataW.weights P e y.1).all (fun n => decide (n ≤ reachBytes)) = true → Fit u x)) n (fun i hi => by
     obtain ⟨y, hy, ht⟩ := g2 i i (by simp [hi])
     rw [h2] at ht
     obtain ⟨x, r1, r2, r3⟩ := ih.1 e h5 m _ y.1 y.2 ht
     refine ⟨x, r1, r2, fun y' hy' => ?_⟩
     rw [hy] at hy'; cases hy'; exact r3)
    refine ⟨ys, ⟨hyl, by rw [hl, h3], fun i x hi => (hys i x hi).1⟩, fun x hx => ?_, fun hw x hx => ?_⟩
    ·obtain ⟨i, hi⟩ := List.mem_iff_getElem?.1 hx
     exact (hys i x hi).2.1
    ·obtain ⟨i, hi⟩ := List.mem_iff_getElem?.1 hx
     have hlt : i < xs.length := by rw [g1, ← hyl]; exact (List.getElem?_eq_some_iff.1 hi).1
     rw [DataW.weights, h1] at hw
     exact (hys i x hi).2.2 xs[i] (List.getElem?_eq_getElem hlt) (jL hw _ (List.mem_map_of_mem (List.getElem_mem hlt)))
  ·cases h
theorem Cn {a b : Ty} (iha : Reads enc P w sp a) (ihb : Reads enc P w sp b) : Reads enc P w sp (.pair a b) := by
 have F : ∀ (fs : List Field) (o : Nat), (FL P (.pair a b)).2 fs o → ∀ (n : Nat) (cs : List Value) (xs : List (DataW H × List MemPlace)), cs.length = o + (a.size + b.size) → xs.length = fs.length →
  (∀ (i : Nat) (f : Field), fs[i]? = some f → DataW.trod enc P w 0 sp true n f.type ((cs.drop f.offset).take (P.cellsOf f.type)) = xs[i]?) →
  ∃ x : a.D × b.D, Rd (fun b => b < w.heap.size) w (.pair a b) (cs.drop o) x ∧ Good (.pair a b) x ∧ ((DataW.weightsEach P (fs.map (·.type)) (xs.map (·.1))).all (fun n => decide (n ≤ reachBytes)) = true → Fit (.pair a b) x) := by
  intro fs o h n cs xs hl hxl hx
  match fs, h, xs, hxl with
  | [f, g], h, [y, z], _ =>
   obtain ⟨h1, h2, h3, h4, h5, h6⟩ := h
   have ty := hx 0 f rfl
   have tz := hx 1 g rfl
   rw [h1, h2] at ty
   rw [h4, h5] at tz
   obtain ⟨x, r1, r2, r3⟩ := iha.1 _ h3 n _ y.1 y.2 ty
   obtain ⟨x', q1, q2, q3⟩ := ihb.1 _ h6 n _ z.1 z.2 tz
   refine ⟨(x, x'), ⟨_, _, ?_, r1, q1⟩, ⟨r2, q2⟩, fun hw => ?_⟩
   ·rw [List.take_of_length_le (l := cs.drop (o + a.size)) (by rw [List.length_drop]; omega), ← List.drop_drop, List.take_append_drop]
   ·obtain ⟨w1, w2⟩ := eS hw
    exact ⟨r3 w1, q3 (eS w2).1⟩
  | f :: g :: k :: r, h, y :: xs, hxl =>
   obtain ⟨h1, h2, h3, h4⟩ := h
   have ty := hx 0 f rfl
   rw [h1, h2] at ty
   obtain ⟨x, r1, r2, r3⟩ := iha.1 _ h3 n _ y.1 y.2 ty
   obtain ⟨x', q1, q2, q3⟩ := ihb.2 _ _ h4 n cs xs (by omega) (by simpa using hxl) (fun i f' hi => hx (i + 1) f' (by simpa using hi))
   refine ⟨(x, x'), ⟨_, _, ?_, r1, q1⟩, ⟨r2, q2⟩, fun hw => ?_⟩
   ·rw [← List.drop_drop, List.take_append_drop]
   ·obtain ⟨w1, w2⟩ := eS hw
    exact ⟨r3 w1, q3 w2⟩
  | [], h, _, _ => exact h.elim
  | [_], h, _, _ => exact h.elim
 refine ⟨fun t ht fuel cs d ps h => ?_, F⟩
 obtain ⟨fs, h1, h2, h3⟩ := ht
 obtain ⟨xs, n, rfl, e, hl, hxl, hx⟩ := DataW.trod_struct h1 h
 cases e
 obtain ⟨x, r1, r2, r3⟩ := F fs.toList 0 h3 n cs xs (by rw [hl, h2]; omega) (by simpa using hxl) (fun i f hi => hx i f (by simpa using hi))
 refine ⟨x, by simpa using r1, r2, fun hw => r3 ?_⟩
 rw [DataW.weights, h1] at hw
 exact hw
theorem reads : ∀ (u : Ty), Reads enc P w sp u
 | .int _ => Fh
 | .bool => CN
 | .str => EM
 | .sl u => IL (reads u)
 | .arr _ u => FA (reads u)
 | .pair a b => Cn (reads a) (reads b)
 | .err => ⟨fun _ ht => ht.elim, fun _ _ h => h.elim⟩
end
end Go.Sx
/-
 Sx, part W: a loop's invariant told by its variables: which im stay, which hold data, which hold memory of our own.
-/
namespace Go.Sx

@[reducible] def dU : Ty := .int .i64
@[reducible] def Ge : Ty := .int .u64
@[reducible] def U8 : Ty := .int .u8
@[reducible] def Bo : Ty := .bool
theorem aE {p : Prop} : Holds p ↔ p := ⟨fun h => h.out, fun h => ⟨h⟩⟩

inductive PS where
 | d (t : Ty)
 | row (t : Ty)
 | keep
 | lit (n : Int)
 | map (kk : IntKind) (t : Ty)
@[reducible] def PS.G : PS → Type
 | .d t => t.D
 | .row t => List t.D
 | .keep => Unit
 | .lit _ => Unit
 | .map _ t => List (Int × t.D)
@[reducible] def SL : List PS → Type
 | [] => Unit
 | p :: ps => match ps with
  | [] => p.G
  | _ :: _ => p.G × SL ps
inductive LV where
 | keep (d : Nat)
 | one (d : Nat) (p : PS)
 | agg (d : Nat) (ps : List PS)
 | box (d : Nat) (ps : List PS)
 | own (d : Nat) (t : Ty)
 | Hd (d : Nat) (kk : IntKind) (t : Ty)
 | bk
@[reducible] def DU : List LV → Type
 | [] => Unit
 | .keep _ :: r => DU r
 | .bk :: r => DU r
 | .one _ p :: r => p.G × DU r
 | .agg _ ps :: r => SL ps × DU r
 | .box _ ps :: r => SL ps × DU r
 | .own _ t :: r => List t.D × DU r
 | .Hd _ _ t :: r => List (Int × t.D) × DU r

def Ca : Ty → Nat
 | .pair a b => Ca a + Ca b
 | _ => 1
def RY : List PV → PV
 | [] => .any
 | p :: _ => p
def PS.mk (e : List PV) (n : Nat) : (p : PS) → p.G → List PV × List (Nat × HE) × Nat
 | .d t, x => (cn t x, [], n)
 | .row t, xs => ([.row n], [(n, .row t xs)], n + 1)
 | .keep, _ => ([RY e], [], n)
 | .lit i, _ => ([.d (.int .i64) i], [], n)
 | .map kk t, xs => ([.row n], [(n, .map kk t xs)], n + 1)
def PS.len : PS → Nat
 | .d t => Ca t
 | _ => 1
def Sk : (ps : List PS) → List PV → Nat → SL ps → List PV × List (Nat × HE) × Nat
 | [], _, n, _ => ([], [], n)
 | [p], e, n, x => p.mk e n x
 | p :: q :: r, e, n, x => (match p.mk e n x.1 with
  | (a, h, n1) => (match Sk (q :: r) (e.drop p.len) n1 x.2 with
   | (b, h', n2) => (a ++ b, h ++ h', n2)))
def PV.RS : PV → List Nat
 | .row k => [k]
 | .ptr k _ => [k]
 | .jP k => [k]
 | .rel k _ _ _ => [k]
 | .wG k _ _ _ _ _ _ _ => [k]
 | .pV k _ _ _ _ _ => [k]
 | .sub k k' _ _ _ => [k, k']
 | .tu k _ _ _ => [k]
 | _ => []
def xr : List PV → List Nat
 | [] => []
 | p :: ps => p.RS ++ xr ps
def SV.RS : SV → List Nat
 | .one p => p.RS
 | .agg ps => xr ps
 | _ => []
def HE.RS : HE → List Nat
 | .box ps => xr ps
 | .jP _ ps => xr ps
 | _ => []
def LJ (s : St) : Nat → List Nat → List (Nat × HE) → List (Nat × HE)
 | 0, _, acc => acc
 | _ + 1, [], acc => acc
 | f + 1, k :: r, acc => (match assoc acc k with
  | some _ => LJ s f r acc
  | none => (match s.hp k with
   | some he => LJ s f (he.RS ++ r) (acc ++ [(k, he)])
   | none => LJ s f r acc))
def AL (s : St) (d : Nat) : List PV := match aF s.fr d with
 | .one (.ptr k _) => (match s.hp k with
  | some (.box ps) => ps
  | _ => [])
 | _ => []
def S1 (s : St) (d : Nat) : Nat := match aF s.fr d with
 | .one (.ptr k _) => k
 | _ => 0
def rowAt (s : St) (d : Nat) : Nat := match aF s.fr d with
 | .one (.row k) => k
 | _ => 0
def As (s : St) (d : Nat) : List PV := match (aF s.fr d).parts with
 | some ps => ps
 | none => []
def R0 (p : PS) (ps : List PV) : SV := match p with
 | .d t => (bif t.agg then .agg ps else .one (RY ps))
 | _ => .one (RY ps)
structure Mk where
 im : List (Nat × SV)
 heap : List (Nat × HE)
 todo : List Nat
 nx : Nat
def Pk : List SV → List Nat
 | [] => []
 | v :: r => v.RS ++ Pk r
def AG (s : St) : (vs : List LV) → Nat → DU vs → Mk
 | [], n, _ => ⟨[], [], [], n⟩
 | .keep d :: r, n, g => (match AG s r n g with
  | ⟨sl, h, td, n'⟩ => ⟨(d, aF s.fr d) :: sl, h, (aF s.fr d).RS ++ td, n'⟩)
 | .bk :: r, n, g => (match AG s r n g with
  | ⟨sl, h, td, n'⟩ => ⟨sl, h, Pk s.bk ++ td, n'⟩)
 | .one d p :: r, n, g => (match p.mk [] n g.1 with
  | (ps, h1, n1) => (match AG s r n1 g.2 with
   | ⟨sl, h, td, n'⟩ => ⟨(d, R0 p ps) :: sl, h1 ++ h, td, n'⟩))
 | .agg d ps :: r, n, g => (match Sk ps (As s d) n g.1 with
  | (qs, h1, n1) => (match AG s r n1 g.2 with
   | ⟨sl, h, td, n'⟩ => ⟨(d, .agg qs) :: sl, h1 ++ h, xr qs ++ td, n'⟩))
 | .box d ps :: r, n, g => (match Sk ps (AL s d) n g.1 with
  | (qs, h1, n1) => (match AG s r n1 g.2 with
   | ⟨sl, h, td, n'⟩ => ⟨(d, aF s.fr d) :: sl, (S1 s d, .box qs) :: (h1 ++ h), xr qs ++ td, n'⟩))
 | .own d t :: r, n, g => (match AG s r n g.2 with
  | ⟨sl, h, td, n'⟩ => ⟨(d, aF s.fr d) :: sl, (rowAt s d, .row t g.1) :: h, td, n'⟩)
 | .Hd d kk t :: r, n, g => (match AG s r n g.2 with
  | ⟨sl, h, td, n'⟩ => ⟨(d, aF s.fr d) :: sl, (rowAt s d, .map kk t g.1) :: h, td, n'⟩)
def PS.rd (s : St) : (p : PS) → List PV → Option (p.G × List PV)
 | .d t, ps => Lu t ps
 | .row t, ps => (match ps with
  | .row k :: r => (match s.hp k with
   | some (.row u xs) => (match lX (.sl u) (.sl t) xs with
    | some ys => some (ys, r)
    | none => none)
   | _ => none)
  | .aC (.slice none 0 0) :: r => some ([], r)
  | _ => none)
 | .keep, ps => (match ps with
  | _ :: r => some ((), r)
  | [] => none)
 | .lit _, ps => (match ps with
  | _ :: r => some ((), r)
  | [] => none)
 | .map kk t, ps => (match ps with
  | .row k :: r => (match s.hp k with
   | some (.map kk' u xs) => (match Ai kk' u kk t xs with
    | some ys => some (ys, r)
    | none => none)
   | _ => none)
  | _ => none)
def yj (s : St) : (ps : List PS) → List PV → Option (SL ps)
 | [], l => (match l with
  | [] => some ()
  | _ => none)
 | [p], l => (match p.rd s l with
  | some (x, []) => some x
  | _ => none)
 | p :: q :: r, l => (match p.rd s l with
  | some (x, l') => (match yj s (q :: r) l' with
   | some y => some (x, y)
   | none => none)
  | none => none)
def qY (s : St) : (vs : List LV) → Option (DU vs)
 | [] => some ()
 | .keep _ :: r => qY s r
 | .bk :: r => qY s r
 | .one d p :: r => (match yj s [p] (As s d), qY s r with
  | some x, some y => some (x, y)
  | _, _ => none)
 | .agg d ps :: r => (match yj s ps (As s d), qY s r with
  | some x, some y => some (x, y)
  | _, _ => none)
 | .box d ps :: r => (match yj s ps (AL s d), qY s r with
  | some x, some y => some (x, y)
  | _, _ => none)
 | .own d t :: r => (match yj s [.row t] (As s d), qY s r with
  | some x, some y => some (x, y)
  | _, _ => none)
 | .Hd d kk t :: r => (match yj s [.map kk t] (As s d), qY s r with
  | some x, some y => some (x, y)
  | _, _ => none)
def PS.lens : (p : PS) → p.G → Prop
 | .d t, x => um t x
 | .row t, xs => um (.sl t) xs
 | .keep, _ => True
 | .lit _, _ => True
 | .map kk t, xs => ∀ e ∈ xs, IR kk e.1 ∧ um t e.2
def zm : (ps : List PS) → SL ps → Prop
 | [], _ => True
 | [p], x => p.lens x
 | p :: q :: r, x => p.lens x.1 ∧ zm (q :: r) x.2
def mJ : (vs : List LV) → DU vs → Prop
 | [], _ => True
 | .keep _ :: r, g => mJ r g
 | .bk :: r, g => mJ r g
 | .one _ p :: r, g => p.lens g.1 ∧ mJ r g.2
 | .agg _ ps :: r, g => zm ps g.1 ∧ mJ r g.2
 | .box _ ps :: r, g => zm ps g.1 ∧ mJ r g.2
 | .own _ t :: r, g => (PS.row t).lens g.1 ∧ mJ r g.2
 | .Hd _ kk t :: r, g => (PS.map kk t).lens g.1 ∧ mJ r g.2
theorem iP.lens {c : Cx} {kk : IntKind} {t : Ty} : ∀ {es : List MapEntry} {xs : List (Int × t.D)}, iP c kk t es xs → ∀ e ∈ xs, IR kk e.1 ∧ um t e.2
 | [], [], _ => fun e he => by cases he
 | _ :: _, x :: xs, ⟨⟨_, h1, h2⟩, h3⟩ => fun e he => by
  rcases List.mem_cons.1 he with rfl | he
  ·exact ⟨h1, h2.lens⟩
  ·exact iP.lens h3 e he
 | [], _ :: _, h => h.elim
 | _ :: _, [], h => h.elim
section
variable {w0 : cz} {ρ : Nat → Value} {s : St} {a : Act} {w : World}
theorem PS.rd_c (h : Ok w0 ρ s a w) {p : PS} {ps r : List PV} {x : p.G} {l : List Value} (hr : p.rd s ps = some (x, r)) (hl : b9 (cx w0 ρ s w) ps l) : p.lens x ∧ ∃ l', b9 (cx w0 ρ s w) r l' := by
 cases p with
 | d t =>
  obtain ⟨h1, h2⟩ := Ei (t := t) hr hl
  exact ⟨h1.lens, _, h2⟩
 | row t =>
  simp only [PS.rd] at hr
  split at hr
  ·rename_i k r'
   split at hr
   ·rename_i u xs hk
    split at hr
    ·rename_i ys hc
     simp only [Option.some.injEq, Prod.mk.injEq] at hr
     obtain ⟨rfl, rfl⟩ := hr
     obtain ⟨e2, he2⟩ := du hc
     injection e2 with e2
     subst e2
     have he2 : xs = ys := he2
     subst he2
     obtain ⟨l1, l2, _, _, h2⟩ := hl
     refine ⟨?_, l2, h2⟩
     rcases h.heap k _ hk with ⟨_, rfl⟩ | ⟨b, q, cp, cur, e', _, _, h3, h4, _, h6⟩
     ·exact ⟨by simp, fun x hx => by cases hx⟩
     ·refine ⟨by simp only [maxLen] at h4; omega, fun x hx => ?_⟩
      obtain ⟨i, hi⟩ := List.mem_iff_getElem?.1 hx
      exact (h6 i x hi).lens
    ·cases hr
   ·cases hr
  ·simp only [Option.some.injEq, Prod.mk.injEq] at hr
   obtain ⟨rfl, rfl⟩ := hr
   obtain ⟨l1, l2, _, _, h2⟩ := hl
   exact ⟨⟨by simp, fun x hx => by cases hx⟩, l2, h2⟩
  ·cases hr
 | keep =>
  simp only [PS.rd] at hr
  split at hr
  ·simp only [Option.some.injEq, Prod.mk.injEq] at hr
   obtain ⟨_, rfl⟩ := hr
   obtain ⟨l1, l2, _, _, h2⟩ := hl
   exact ⟨trivial, l2, h2⟩
  ·cases hr
 | lit i =>
  simp only [PS.rd] at hr
  split at hr
  ·simp only [Option.some.injEq, Prod.mk.injEq] at hr
   obtain ⟨_, rfl⟩ := hr
   obtain ⟨l1, l2, _, _, h2⟩ := hl
   exact ⟨trivial, l2, h2⟩
  ·cases hr
 | map kk t =>
  simp only [PS.rd] at hr
  split at hr
  ·rename_i k r'
   split at hr
   ·rename_i kk' u xs hk
    split at hr
    ·rename_i ys hc
     simp only [Option.some.injEq, Prod.mk.injEq] at hr
     obtain ⟨rfl, rfl⟩ := hr
     obtain ⟨l1, l2, _, _, h2⟩ := hl
     refine ⟨?_, l2, h2⟩
     unfold Ai at hc
     split at hc
     ·rename_i he
      obtain ⟨rfl, rfl⟩ := he
      cases hc
      obtain ⟨b, es, cl, _, _, h3⟩ := h.heap k _ hk
      exact iP.lens h3
     ·cases hc
    ·cases hr
   ·cases hr
  ·cases hr
theorem sL (h : Ok w0 ρ s a w) : ∀ {ps : List PS} {l : List PV} {g : SL ps} {cs : List Value}, yj s ps l = some g → b9 (cx w0 ρ s w) l cs → zm ps g
 | [], _, _, _, _, _ => trivial
 | [p], l, g, cs, hr, hl => by
  unfold yj at hr
  split at hr
  ·rename_i x hx
   simp only [Option.some.injEq] at hr
   subst hr
   exact (PS.rd_c h hx hl).1
  ·cases hr
 | p :: q :: r, l, g, cs, hr, hl => by
  unfold yj at hr
  split at hr
  ·rename_i x l' hx
   split at hr
   ·rename_i y hy
    simp only [Option.some.injEq] at hr
    subst hr
    obtain ⟨h1, l2, h2⟩ := PS.rd_c h hx hl
    exact ⟨h1, sL h hy h2⟩
   ·cases hr
  ·cases hr
theorem ym (h : Ok w0 ρ s a w) (d : Nat) : ∃ cs, b9 (cx w0 ρ s w) (As s d) cs := by
 unfold As
 split
 ·rename_i ps hps
  exact ⟨_, dZ (h.frame d) hps⟩
 ·exact ⟨[], rfl⟩
theorem Nz (h : Ok w0 ρ s a w) (d : Nat) : ∃ cs, b9 (cx w0 ρ s w) (AL s d) cs := by
 unfold AL
 split
 ·split
  ·rename_i k off _ ps hps
   obtain ⟨_, _, cs, _, _, h3⟩ := h.heap _ _ hps
   exact ⟨_, h3⟩
  ·exact ⟨[], rfl⟩
 ·exact ⟨[], rfl⟩
theorem od (h : Ok w0 ρ s a w) : ∀ {vs : List LV} {g : DU vs}, qY s vs = some g → mJ vs g
 | [], _, _ => trivial
 | .keep _ :: r, g, hr => od (vs := r) h hr
 | .bk :: r, g, hr => od (vs := r) h hr
 | .one d p :: r, g, hr => by
  unfold qY at hr
  split at hr
  ·rename_i x y hx hy
   simp only [Option.some.injEq] at hr
   subst hr
   obtain ⟨cs, hc⟩ := ym h d
   exact ⟨sL (ps := [p]) h hx hc, od h hy⟩
  ·cases hr
 | .agg d ps :: r, g, hr => by
  unfold qY at hr
  split at hr
  ·rename_i x y hx hy
   simp only [Option.some.injEq] at hr
   subst hr
   obtain ⟨cs, hc⟩ := ym h d
   exact ⟨sL h hx hc, od h hy⟩
  ·cases hr
 | .box d ps :: r, g, hr => by
  unfold qY at hr
  split at hr
  ·rename_i x y hx hy
   simp only [Option.some.injEq] at hr
   subst hr
   obtain ⟨cs, hc⟩ := Nz h d
   exact ⟨sL h hx hc, od h hy⟩
  ·cases hr
 | .own d t :: r, g, hr => by
  unfold qY at hr
  split at hr
  ·rename_i x y hx hy
   simp only [Option.some.injEq] at hr
   subst hr
   obtain ⟨cs, hc⟩ := ym h d
   exact ⟨sL (ps := [.row t]) h hx hc, od h hy⟩
  ·cases hr
 | .Hd d kk t :: r, g, hr => by
  unfold qY at hr
  split at hr
  ·rename_i x y hx hy
   simp only [Option.some.injEq] at hr
   subst hr
   obtain ⟨cs, hc⟩ := ym h d
   exact ⟨sL (ps := [.map kk t]) h hx hc, od h hy⟩
  ·cases hr
end
def St.mp (s : St) (t : Ty) (d : Nat) : List (Int × t.D) := match aF s.fr d with
 | .one (.row k) => (match s.hp k with
  | some (.map kk u xs) => (match Ai kk u kk t xs with
   | some ys => ys
   | none => [])
  | _ => [])
 | _ => []
def jz.by (vs : List LV) (ok : St → DU vs → Prop) (m : St → DU vs → Nat) : jz where
 G := DU vs
 ok := ok
 m := m
 inv := fun s g => match AG s vs s.nx g with
  | ⟨sl, h, td, n⟩ => { im := sl, heap := LJ s 1000 td h, nx := n }
 pick := fun _ s => qY s vs
 lens := mJ vs
 told := fun _ _ _ _ _ _ _ h hr => od h hr
def St.s6 (s : St) (t : Ty) (d i : Nat) : t.D := match Lu t (((AL s d).drop i).map (PV.res s)) with
 | some (x, _) => x
 | none => t.zero
def St.uv (s : St) (t : Ty) (d : Nat) : t.D := match Lu t ((As s d).map (PV.res s)) with
 | some (x, []) => x
 | _ => t.zero
end Go.Sx
/-
 Sx, part Y: what the executor is given, out of lists.
-/
namespace Go.Sx

def Al : List (Nat × ah) → Nat → Option ah
 | [], _ => none
 | (k, c) :: r, n => bif Nat.beq n k then some c else Al r n
def Ih : List (Nat × Nat × jz) → Nat → Nat → Option jz
 | [], _, _ => none
 | (k, i, a) :: r, n, j => bif Nat.beq n k && Nat.beq j i then some a else Ih r n j
def yD : List (Nat × Nat × jz) → Nat → Nat → List jz
 | [], _, _ => []
 | (k, i, a) :: r, n, j => bif Nat.beq n k && Nat.beq j i then a :: yD r n j else yD r n j
def SG : List (Nat × Nat) → Nat → Nat → Bool
 | [], _, _ => false
 | (k, i) :: r, n, j => bif Nat.beq n k && (Nat.beq j i || (Nat.beq i 1000000 && Nat.blt j 1000000)) then true else SG r n j
def yB : List (Nat × Nat × ah) → Nat → Nat → Option ah
 | [], _, _ => none
 | (k, i, c) :: r, n, j => bif Nat.beq n k && Nat.beq j i then some c else yB r n j
def nJ (P : Program) (E : Env) (ks : List (Nat × ah)) (kf : List (Nat × Nat × ah)) (ls cs : List (Nat × Nat × jz)) (wr : List (Nat × Nat)) : Fx where
 E := E
 wr := SG wr
 K := Al ks
 KF := yB kf
 fn := fun g => P.funcs[g]?
 loops := Ih ls
 Sq := yD cs
def fX (P : Program) (E : Env) (ks : List (Nat × ah)) (ls cs : List (Nat × Nat × jz)) (wr : List (Nat × Nat)) : Fx where
 E := E
 wr := SG wr
 K := Al ks
 KF := fun _ _ => none
 fn := fun g => P.funcs[g]?
 loops := Ih ls
 Sq := yD cs
def ar (P : Program) : List (Nat × ah) → Prop
 | [] => True
 | p :: r => aX P p.1 p.2 ∧ ar P r
theorem vD {P : Program} : ∀ {ks : List (Nat × ah)} {g : Nat} {c : ah}, ar P ks → Al ks g = some c → aX P g c
 | [], _, _, _, h => by cases h
 | (k, c') :: r, g, c, hk, h => by
  unfold Al at h
  cases e : Nat.beq g k with
  | true =>
   rw [e] at h
   have e1 := Nat.eq_of_beq_eq_true e
   injection h with h
   subst e1; subst h
   exact hk.1
  | false => rw [e] at h; exact vD hk.2 h
theorem eh {P : Program} : ∀ {a b : List (Nat × ah)}, ar P a → ar P b → ar P (a ++ b)
 | [], _, _, h => h
 | _ :: _, _, h, h' => ⟨h.1, eh h.2 h'⟩
def eR (P : Program) : List (Nat × Nat × ah) → Prop
 | [] => True
 | p :: r => wH P p.1 p.2.1 p.2.2 ∧ eR P r
theorem xt {P : Program} : ∀ {ks : List (Nat × Nat × ah)} {g h : Nat} {c : ah}, eR P ks → yB ks g h = some c → wH P g h c
 | [], _, _, _, _, h => by cases h
 | (k, i, c') :: r, g, j, c, hk, h => by
  unfold yB at h
  cases e : (Nat.beq g k && Nat.beq j i) with
  | true =>
   rw [e] at h
   simp only [Bool.and_eq_true] at e
   have e1 := Nat.eq_of_beq_eq_true e.1
   have e2 := Nat.eq_of_beq_eq_true e.2
   injection h with h
   subst e1; subst e2; subst h
   exact hk.1
  | false => rw [e] at h; exact xt hk.2 h
def gg (P : Program) : Bool := P.funcs.toList.all fun f => !(f.name == "runtime.NumGoroutine")
theorem aP {P : Program} {E : Env} {ks : List (Nat × ah)} {ls cs : List (Nat × Nat × jz)} {wr : List (Nat × Nat)} (hE : aY P E) (hm : P.follows .mixedOrders = true) (hn : gg P = true) (hk : ar P ks) :
  xv P (fX P E ks ls cs wr) where
 ok := ⟨hE, hm⟩
 SP := fun _ _ h => vD hk h
 R6 := fun _ _ _ h => by cases h
 fn := fun g fn h => by
  refine ⟨h, ?_⟩
  have hm : fn ∈ P.funcs.toList := by
   have h1 : P.funcs[g]? = some fn := h
   obtain ⟨hlt, e⟩ := Array.getElem?_eq_some_iff.1 h1
   rw [← e]; simp
  have := List.all_eq_true.1 hn fn hm
  simpa using this
theorem er {P : Program} {E : Env} {ks : List (Nat × ah)} {kf : List (Nat × Nat × ah)} {ls cs : List (Nat × Nat × jz)} {wr : List (Nat × Nat)} (hE : aY P E) (hm : P.follows .mixedOrders = true) (hn : gg P = true) (hk : ar P ks) (hkf : eR P kf) :
  xv P (nJ P E ks kf ls cs wr) where
 ok := ⟨hE, hm⟩
 SP := fun _ _ h => vD hk h
 R6 := fun _ _ _ h => xt hkf h
 fn := fun g fn h => (aP (ls := ls) (cs := cs) (wr := wr) hE hm hn hk).fn g fn h
end Go.Sx
/-
 Sx, part X: from a function's contract to a row that says: it returns true, and its arguments read as before.
-/
namespace Go.Sx
open Go.RowKit Go.WideShapes Go.ChangeShapes

def Dd (P : Program) : List Ty → List TypeId → Prop
 | [], [] => True
 | u :: us, t :: ts => Nn P u t ∧ Dd P us ts
 | _, _ => False
def Gr : (us : List Ty) → HL us → Prop
 | [], _ => True
 | u :: us, x => Good u x.1 ∧ Gr us x.2
def RG : (us : List Ty) → HL us → Prop
 | [], _ => True
 | u :: us, x => Fit u x.1 ∧ RG us x.2

section
variable {H : Type} {enc : TypeId × Value → H} {P : Program} {w : World}

theorem Gp {u : Ty} {t : TypeId} {v : Value} {d : DataW H} {ps : List MemPlace} {base : Nat} (hu : Nn P u t) (h : DataW.Trod enc P w 0 (fun _ => true) true t v d ps)
  (hv : Value.okWide P w .any base t v) (hw : (DataW.weights P t d).all (fun n => decide (n ≤ reachBytes)) = true) :
  ∃ x : u.D, mY (fun b => b < w.heap.size) w u v x ∧ Good u x ∧ Fit u x := by
 obtain ⟨fuel, h⟩ := h
 obtain ⟨x, r1, r2, r3⟩ := (reads (enc := enc) (P := P) (w := w) (sp := fun _ => true) u).1 t hu fuel v.cells.toList d ps h
 refine ⟨x, ?_, r2, r3 hw⟩
 have ha : ∀ (A : Prop), (∃ cs, v = .agg cs ∧ cs.size = P.cellsOf t ∧ A) → ∃ cs, v = .agg cs ∧ Rd (fun b => b < w.heap.size) w u cs.toList x := fun A ⟨cs, e, _⟩ => ⟨cs, e, by subst e; exact r1⟩
 unfold mY
 cases u with
 | int k => obtain ⟨n, rfl⟩ := okWide_int (show P.underlying t = some (.int k) from hu) hv; exact r1
 | bool => obtain ⟨n, rfl⟩ := okWide_bool (show P.underlying t = some .bool from hu) hv; exact r1
 | str => obtain ⟨n, rfl⟩ := okWide_string (show P.underlying t = some .string from hu) hv; exact r1
 | sl u =>
  obtain ⟨e, he, _⟩ := hu
  obtain ⟨a, l, c, rfl⟩ := okWide_slice he hv; exact r1
 | arr n u =>
  obtain ⟨e, he, _⟩ := hu
  simp only [Value.okWide, he] at hv
  obtain ⟨cs, e1, e2, _⟩ := hv
  exact ha True ⟨cs, e1, e2, trivial⟩
 | pair a b =>
  obtain ⟨e, he, _⟩ := hu
  simp only [Value.okWide, he] at hv
  obtain ⟨cs, e1, e2, _⟩ := hv
  exact ha True ⟨cs, e1, e2, trivial⟩
 | err => exact hu.elim

theorem AN {base : Nat} : ∀ {us : List Ty} {ts : List TypeId} {vs : List Value} {ds : List (DataW H)} {ps : List MemPlace}, Dd P us ts → DataW.TrodAll enc P w 0 (fun _ => true) true ts vs ds ps →
  (∀ (j : Nat) t v, ts[j]? = some t → vs[j]? = some v → Value.okWide P w .any base t v) → (DataW.weightsEach P ts ds).all (fun n => decide (n ≤ reachBytes)) = true →
  ∃ x : HL us, fw (fun b => b < w.heap.size) w us vs x ∧ Gr us x ∧ RG us x
 | [], [], vs, ds, ps, _, h, _, _ => by
  obtain ⟨rfl, rfl, rfl⟩ := trodAll_nil h
  exact ⟨(), trivial, trivial, trivial⟩
 | u :: us, t :: ts, vs, ds, ps, ht, h, hv, hw => by
  obtain ⟨v, vs, d, ds, p, q, rfl, rfl, rfl, h1, h2⟩ := trodAll_cons h
  obtain ⟨w1, w2⟩ := eS hw
  obtain ⟨x, a1, a2, a3⟩ := Gp ht.1 h1 (hv 0 t v rfl rfl) w1
  obtain ⟨y, b1, b2, b3⟩ := AN ht.2 h2 (fun j t v hj hk => hv (j + 1) t v hj hk) w2
  exact ⟨(x, y), ⟨a1, b1⟩, ⟨a2, b2⟩, ⟨a3, b3⟩⟩
 | [], _ :: _, _, _, _, ht, _, _, _ => ht.elim
 | _ :: _, [], _, _, _, ht, _, _, _ => ht.elim

theorem pz (hl : laidOutB P = true) {W W' : World} (hb : Below W.heap.size W W') {sp : Nat → Bool} : ∀ {ts : List TypeId} {vs : List Value} {ds : List (DataW H)} {ps : List MemPlace},
  (∀ t ∈ ts, P.readableRec t = true ∧ t < P.types.size) → DataW.TrodAll enc P W 0 (fun _ => true) true ts vs ds ps → (∀ p ∈ ps, p.block < W.heap.size ∧ sp p.block = true) →
  DataW.TrodAll enc P W' 0 sp true ts vs ds ps
 | [], vs, ds, ps, _, h, _ => by
  obtain ⟨rfl, rfl, rfl⟩ := trodAll_nil h
  rfl
 | t :: ts, vs, ds, ps, ht, h, hp => by
  obtain ⟨v, vs, d, ds, p, q, rfl, rfl, rfl, h1, h2⟩ := trodAll_cons h
  have ht0 := ht t (by simp)
  exact ⟨p, q, Go.WideElems.Trod_stays hl ht0.1 ht0.2 h1 (fun x hx => hb.same (hp x (by simp [hx])).1) (fun x hx => (hp x (by simp [hx])).2),
   pz hl hb (fun t h => ht t (by simp [h])) h2 (fun x hx => hp x (by simp [hx])), rfl⟩

theorem JS {f : Func} {s : ChangeSpec} {apart fresh handsOn again : Bool} {W W' : World} {args : Array Value} {ds gs : List (DataW H)} {before : List MemPlace} {t : TypeId}
  (hl : laidOutB P = true) (hts : ∀ t ∈ f.params.toList, P.readableRec t = true ∧ t < P.types.size) (hvars : s.vars = [])
  (hspec : s.fn H ds = { results := [.lit (.bool true)], args := ds }) (hrt : f.resultTypes = #[t]) (hbt : P.underlying t = some .bool)
  (hW : DataW.Whole enc P f.params.toList s.vars apart W args.toList ds gs before) (hb : Below W.heap.size W W') : s.post enc P f apart fresh handsOn again W args (.bool true) W' := by
 have hlt := hW.lt
 have hW0 := hW
 obtain ⟨p, q, hA, hV, rfl, hz, hn⟩ := hW
 rw [hvars] at hV
 obtain ⟨rfl, rfl⟩ := trodVars_none hV
 simp only [List.append_nil] at *
 have hargs : ∀ sp : Nat → Bool, (∀ x ∈ p, sp x.block = true) → DataW.TrodAll enc P W' 0 sp true f.params.toList args.toList ds p :=
  fun sp hs => pz hl hb hts hA (fun x hx => ⟨hlt x hx, hs x hx⟩)
 have hres : ∀ (b : Nat) (sp : Nat → Bool) (hd : Bool), DataW.TrodAll enc P W' b sp hd f.resultTypes.toList ((Value.bool true).resultList f.resultTypes.size) [.lit (.bool true)] [] := fun b sp hd => by
  rw [hrt]; exact trodAll_mk1 (shut_bool hbt true)
 refine ⟨ds, [], p, [], p, [], hW0, ?_, ?_, ?_, Below.frame hb _, fun _ => ⟨?_, .lit (.bool true) :: ds, [], p, ?_, fun x hx _ => hx⟩⟩
 ·rw [List.append_nil, hspec]; exact hres _ _ _
 ·rw [List.append_nil, hspec]; exact hargs _ (fun x hx => by simpa using hlt x hx)
 ·rw [List.append_nil, hspec, hvars]; rfl
 ·exact ok_one (v := .bool true) hrt rfl (okWide_bool_mk hbt true)
 ·refine ⟨p, [], ?_, ?_, by simp, fun b off hx => ?_, hn⟩
  ·have h1 := hres 0 (fun _ => true) true
   have h2 := hargs (fun _ => true) (fun _ _ => rfl)
   rw [hrt] at h1 ⊢
   exact ⟨[], p, shut_bool hbt true, h2, rfl⟩
  ·rw [hvars]; rfl
  ·have := hb.frozen (p := ⟨b, off, none⟩) (hlt _ hx)
   rw [this]; exact hz b off hx

end
end Go.Sx
/-
 Sx, part XG: a law's row that lists package-level tables of bytes: what is listed is what the seat's tables are.
-/
namespace Go.Sx
open Go.RowKit Go.WideShapes Go.ChangeShapes

theorem lt_of_cell {W : World} {g j : Nat} {v : Value} (h0 : W.cell? ⟨g, j, none⟩ = some v) : g < W.heap.size := by
 unfold World.cell? at h0
 refine Decidable.byContradiction fun hlt => ?_
 rw [Array.getElem?_eq_none (by show W.heap.size ≤ g; exact Nat.le_of_not_lt hlt)] at h0
 cases h0
theorem Su {P : Program} {W : World} {name : String} {tab : List Int} {rest : List (String × DataW Unit)} {g : Nat} {t e : TypeId} {n : Nat}
  (hg : P.globalNamed name = some g) (hty : (P.globals[g]?).map (·.type) = some t) (ht : P.underlying t = some (.array n e)) (he : P.underlying e = some (.int .u64)) (hce : P.cellsOf e = 1) (hct : P.cellsOf t = n)
  (hpos : 0 < tab.length) (h : laidMet P ((name, Lib.tabData .u64 tab) :: rest) W) : g < W.heap.size ∧ (Gl.u64 tab).ok W g := by
 have hT := Lib.tabIs_of_head hg hty ht he hce hct h
 have hcell : ∀ j, j < tab.length → W.cell? ⟨g, j, none⟩ = some (.int .u64 (tab.getD j 0)) := fun j hj => hT.cell hg j hj
 refine ⟨lt_of_cell (hcell 0 hpos), ?_⟩
 unfold Lib.TabIs World.var? at hT
 simp only [hg, Option.bind_some] at hT
 cases hb : W.heap[g]? with
 | none => rw [hb] at hT; cases hT
 | some o =>
  rw [hb] at hT
  cases o with
  | cells cs e fz => simp only [Option.some.injEq] at hT; exact ⟨e, fz, by rw [← hT]; exact hb⟩
  | _ => cases hT
theorem KN {P : Program} {n nm : String} {text : List UInt8} {r : List (String × DataW Unit)} {W : World} {g : Nat} {ti tp te ts : TypeId} {ms : Array (String × TypeId)} {f : Field}
  (h : laidMet P ((n, .iface nm (.ptr (.agg [.lit (.string text)]))) :: r) W)
  (hg : P.globalNamed n = some g) (ht : (P.globals[g]?).map (·.type) = some ti) (hi : P.underlying ti = some (.interface ms)) (hrow : ∀ u, P.typeName? 3 u = some nm → u = tp)
  (hp : P.underlying tp = some (.pointer te)) (he : P.underlying te = some (.struct #[f])) (hft : f.type = ts) (hfo : f.offset = 0) (hs : P.underlying ts = some .string) (hc : P.cellsOf te = 1) (hcs : P.cellsOf ts = 1) :
  g < W.heap.size ∧ Gl.err.ok W g := by
 obtain ⟨a, s, h1, -, -, -⟩ := laid_sentinel h hg ht hi hrow hp he hft hfo hs hc hcs
 have h2 := World.var?_cell hg h1 0
 exact ⟨lt_of_cell h2, _, _, h2⟩
end Go.Sx
/-
 Sx, part XU: a law's row of the second form (what it reads is of bulk at most a bound), with tables listed.
-/
namespace Go.Sx
open Go.RowKit Go.WideShapes Go.ChangeShapes

theorem J1 {H : Type} {enc : TypeId × Value → H} {a : Assume} {C : Checked} {os : Os} {f : FuncId} {fn : Func} {s : ChangeSpec} {s2 : OpenSpec} {k : Option ((H : Type) → List (DataW H) → Bool)} {F : Stop.Interp} {conds : List PathCond} {apart fresh handsOn again : Bool} {laid : List (String × DataW Unit)} {us : List Ty} {pre : HL us → Prop} {t : TypeId}
  (hs2 : s2 = { OpenSpec.ofChange s with cond := k })
  (own : ownKnob C.prog.godebug = none) (started : os.Started) (noInit : C.prog.inits.idxOf? f = none) (hfn : C.prog.funcs[f]? = some fn)
  (hl : laidOutB C.prog = true) (hts : fn.params.toList.all (fun t => C.prog.readableRec t && decide (t < C.prog.types.size)) = true) (htys : Dd C.prog us fn.params.toList) (hvars : s.vars = [])
  (hspec : ∀ ds : List (DataW H), ds.length = fn.params.toList.length → s.fn H ds = { results := [.lit (.bool true)], args := ds }) (hrt : fn.resultTypes = #[t]) (hbt : C.prog.underlying t = some .bool)
  (hc : aX C.prog f ⟨us, [.bool], pre, fun _ => (true, ()), false⟩)
  (hpre : ∀ (W : World) (vs : List Value) (x : HL us) (ds : List (DataW H)) (ps : List MemPlace), fw (fun b => b < W.heap.size) W us vs x → DataW.TrodAll enc C.prog W 0 (fun _ => true) true fn.params.toList vs ds ps → (∀ q, k = some q → q H ds = true) → Gr us x → RG us x → pre x)
  (hgl : ∀ W, laidMetH C.prog laid W → W.ShapedOpen C.prog → qC W)
  (witness : ∃ (w : World) (tape : Tape) (i : Input), w.os = os ∧ (w.forCall tape i).Shaped C.prog ∧ i.vars = [] ∧ Input.okWide C.prog (w.forCall tape i) .any w.heap.size f i ∧
   s2.preRow enc C.prog fn conds apart laid (w.forCall tape i).memory i.args ∧ a.holds C.prog (lone (Frame.enter C.prog f i.args .normal) [] (w.forCall tape i))) :
  ReturnsInHanded a C os f .any (s2.preRow enc C.prog fn conds apart laid) ((s2.at F).post enc C.prog fn apart fresh handsOn again) := by
 subst hs2
 refine returnsInHanded_of_row own started noInit hfn witness ?_
 intro W base args ds gs before hval hW' _ hk hwt hL hsh _
 have hW : DataW.Whole enc C.prog fn.params.toList s.vars apart W args.toList ds gs before := hW'
 have hts' : ∀ t ∈ fn.params.toList, C.prog.readableRec t = true ∧ t < C.prog.types.size := fun t ht => by
  have := List.all_eq_true.1 hts t ht
  simpa using this
 have hW0 := hW
 obtain ⟨p, q, hA, hV, rfl, hz, hn⟩ := hW
 rw [hvars] at hV
 obtain ⟨rfl, rfl⟩ := trodVars_none hV
 have hvt : s.plain.varTypes C.prog = [] := by
  have : s.plain.vars = [] := hvars
  unfold DataSpec.varTypes
  rw [this]; rfl
 have hwt' : (DataW.weightsEach C.prog (fn.params.toList ++ s.plain.varTypes C.prog) (ds ++ [])).all (· ≤ reachBytes) = true := hwt
 rw [hvt, List.append_nil, List.append_nil] at hwt'
 have hk' : ∀ q, k = some q → q H ds = true := fun q hq => by
  have := hk q hq
  rwa [List.append_nil] at this
 have hval' : ∀ (j : Nat) t v, fn.params.toList[j]? = some t → args.toList[j]? = some v → Value.okWide C.prog W .any base t v := fun j t v h1 h2 => hval j t v (by simpa using h1) (by simpa using h2)
 obtain ⟨x, hx, hg, hf⟩ := AN htys hA hval' hwt'
 have hlen : ds.length = fn.params.toList.length := by
  have : ∀ {ts : List TypeId} {vs : List Value} {ds : List (DataW H)} {ps : List MemPlace}, DataW.TrodAll enc C.prog W 0 (fun _ => true) true ts vs ds ps → ds.length = ts.length := by
   intro ts
   induction ts with
   | nil => intro vs ds ps h; obtain ⟨_, rfl, _⟩ := trodAll_nil h; rfl
   | cons t ts ih =>
    intro vs ds ps h
    obtain ⟨v, vs, d, ds, p, q, rfl, rfl, rfl, h1, h2⟩ := trodAll_cons h
    simp [ih h2]
  exact this hA
 refine (hc.2 (fun b => b < W.heap.size) W args x (fun _ h => h) (hgl W hL hsh) hx (hpre W _ x ds p hx hA hk' hg hf)).mono fun e W' he => ?_
 obtain ⟨v, rfl, hres, hbel⟩ := he
 have hv : v = .bool true := by
  have h1 : Rd (fun b => b < W.heap.size ∨ W.heap.size ≤ b ∧ b < W'.heap.size) W' .bool [v] true := hres
  have h2 : [v] = [Value.bool true] := h1
  simpa using h2
 subst hv
 exact ⟨_, rfl, JS hl hts' hvars (hspec ds hlen) hrt hbt hW0 hbel⟩
end Go.Sx
/-
 Sx, part Z: plain facts on lists that are read by integers.
-/
namespace Go.Sx

theorem za {α : Type} {xs : List α} {k : Nat} {d : α} (h : k < xs.length) : xs.getD k d = xs[k] := by
 simp [h]
theorem vH {α : Type} {xs : List α} {k : Nat} (d : α) (h : k < xs.length) : xs.take (k + 1) = xs.take k ++ [xs.getD k d] := by
 rw [List.take_add_one, za h, List.getElem?_eq_getElem h]; rfl
theorem dT {α : Type} {xs : List α} {k : Int} (d : α) (h0 : 0 ≤ k) (h : k < xs.length) : xs.take (k + 1).toNat = xs.take k.toNat ++ [xs.getD k.toNat d] := by
 rw [show (k + 1).toNat = k.toNat + 1 by omega]
 exact vH d (by omega)
theorem ff {α : Type} {xs : List α} {k : Int} (h : xs.length ≤ k) : xs.take k.toNat = xs := List.take_of_length_le (by omega)
theorem j7 {α : Type} {xs : List α} {k : Nat} {d : α} (h : k < xs.length) : xs.getD k d ∈ xs := by
 rw [za h]; exact List.getElem_mem h
theorem xj {α : Type} {p : α → Bool} {xs : List α} {k : Int} (d : α) (h0 : 0 ≤ k) (h : k < xs.length) : (xs.take (k + 1).toNat).all p = ((xs.take k.toNat).all p && p (xs.getD k.toNat d)) := by
 rw [dT d h0 h]; simp
theorem Bz {α β : Type} {f : β → α → β} {b : β} {xs : List α} {k : Int} (d : α) (h0 : 0 ≤ k) (h : k < xs.length) : (xs.take (k + 1).toNat).foldl f b = f ((xs.take k.toNat).foldl f b) (xs.getD k.toNat d) := by
 rw [dT d h0 h]; simp
theorem qR {α : Type} {p : α → Bool} {xs : List α} {k : Nat} {d : α} (h : k < xs.length) (hp : p (xs.getD k d) = false) : xs.all p = false := by
 rw [List.all_eq_false]
 exact ⟨xs.getD k d, j7 h, by rw [hp]; decide⟩
end Go.Sx
/-
 Small rules for the plain conditions.
-/
namespace Go.Sx
theorem eP (b : Bool) : (false = b) = (b = false) := by cases b <;> simp
theorem eH (b : Bool) : (true = b) = (b = true) := by cases b <;> simp
theorem o7 (n k : Nat) : ((n : Int) < @OfNat.ofNat Int k instOfNat) = (n < k) := by
 apply propext; exact Int.ofNat_lt
theorem oU (n k : Nat) : ((n : Int) ≤ @OfNat.ofNat Int k instOfNat) = (n ≤ k) := by
 apply propext; exact Int.ofNat_le
theorem zD (n k : Nat) : (@OfNat.ofNat Int k instOfNat < (n : Int)) = (k < n) := by
 apply propext; exact Int.ofNat_lt
theorem yb (n k : Nat) : (@OfNat.ofNat Int k instOfNat ≤ (n : Int)) = (k ≤ n) := by
 apply propext; exact Int.ofNat_le
theorem oA (n k : Nat) : ((n : Int) = @OfNat.ofNat Int k instOfNat) = (n = k) := by
 apply propext; exact Int.ofNat_inj
theorem bM {α β : Type} (p : α × β) : (p.1, p.2) = p := rfl
end Go.Sx
