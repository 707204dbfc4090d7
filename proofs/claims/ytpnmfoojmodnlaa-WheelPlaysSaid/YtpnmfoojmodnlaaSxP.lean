/-
  Sx, part P: the code does what the executor says.
-/
import Derived.Test.YtpnmfoojmodnlaaSxNA
import Derived.Laws.Cover3
import Derived.Deep.LoopGhost
set_option linter.unusedSimpArgs false
namespace Go.Sx
open Go.RowKit

def argsC (c : Cx) : List SV → List Value → Prop
  | [], [] => True
  | s :: ss, v :: vs => SVc c s v ∧ argsC c ss vs
  | _, _ => False

/-- The program has a body for function g. -/
def Callable (P : Program) (g : Nat) : Prop := ∃ fn, P.funcs[g]? = some fn ∧ (fn.name == "runtime.NumGoroutine") = false ∧ fn.body.isNone = false

/-- What is asked of a way to answer calls. -/
def CallOk (P : Program) (callK : Nat → Nat → List SV → St → (SV → St → Prop) → Prop) : Prop :=
  ∀ k g args s K w0 ρ a w vs, Ok w0 ρ s a w → argsC (cx w0 ρ s w) args vs.toList → callK k g args s K →
    Callable P g ∧ Calls P g vs w (fun e w' => ∃ v sv s' ρ', e = .returned v ∧ Ok w0 ρ' s' a w' ∧ SVc (cx w0 ρ' s' w') sv v ∧ K sv s')

section
variable {P : Program} {X : Fx} {callK : Nat → Nat → List SV → St → (SV → St → Prop) → Prop} {f : Nat} {w0 : Base} {w : World} {ρ : Nat → Value} {s s' : St} {a : Act}

theorem callFunc_run {g : Nat} {vs : Array Value} (h : Callable P g) : (callFunc g vs).run P w = .ok (.enter g vs) w := by
  obtain ⟨fn, h1, h2, h3⟩ := h
  have h2' : ¬ fn.name = "runtime.NumGoroutine" := by simpa using h2
  have h3' : ¬ fn.body = none := fun e => by rw [e] at h3; cases h3
  simp [callFunc, program, Sem.run, h1, h2', h3']

theorem argsC_map (h : Ok w0 ρ s a w) : ∀ (xs : List Operand), argsC (cx w0 ρ s w) (xs.map (ev s)) (xs.map a.eval)
  | [] => trivial
  | x :: xs => ⟨h.ev x, argsC_map h xs⟩
theorem argsC_append {c : Cx} : ∀ {as bs : List SV} {vs us : List Value}, argsC c as vs → argsC c bs us → argsC c (as ++ bs) (vs ++ us)
  | [], _, [], _, _, h => h
  | _ :: _, _, _ :: _, _, h, k => ⟨h.1, argsC_append h.2 k⟩
  | [], _, _ :: _, _, h, _ => h.elim
  | _ :: _, _, [], _, h, _ => h.elim
theorem argsC_parts {c : Cx} : ∀ {ps : List PV} {vs : List Value}, PsC c ps vs → ps.length = vs.length → (∀ p ∈ ps, p.agg = false) → argsC c (ps.map SV.one) vs
  | [], vs, h, _, _ => by rw [show vs = [] from h]; trivial
  | p :: ps, vs, h, hl, hg => by
    obtain ⟨l, m, e, h1, h2⟩ := h
    have hp := hg p (by simp)
    have hsz : p.size = 1 := by
      cases p with
      | d t x => cases t <;> first | rfl | cases hp
      | orp k n g => cases hp
      | _ => rfl
    have hll := h1.len
    rw [hsz] at hll
    match l, hll with
    | [v], _ =>
      subst e
      exact ⟨SVc.of1 hp h1, argsC_parts h2 (by simpa using hl) (fun q hq => hg q (by simp [hq]))⟩

/-- What an operation that calls comes to. -/
theorem callee_c {o : Oper} {g : Nat} {args : List SV} (h : Ok w0 ρ s a w) (hc : callee? s o.op = some (g, args)) :
    ∃ vs : Array Value, argsC (cx w0 ρ s w) args vs.toList ∧ (Callable P g → (execOp a.eval o).run P w = .ok (.enter g vs) w) := by
  cases ho : o.op with
  | call c =>
    rw [ho] at hc
    simp only [callee?] at hc
    split at hc
    · rename_i x hx
      have hv := h.ev x
      split at hc
      · rename_i g' fs cs hxx
        rw [hxx] at hv
        obtain ⟨h1, _⟩ := SVc.one1 rfl (by simp) hv
        simp only [List.cons.injEq, and_true] at h1
        cases hb : (fs.isEmpty && cs.isEmpty) with
        | false => rw [hb] at hc; cases hc
        | true =>
          rw [hb] at hc
          simp only [cond_true, Option.some.injEq, Prod.mk.injEq] at hc
          obtain ⟨rfl, rfl⟩ := hc
          simp only [Bool.and_eq_true, Array.isEmpty_iff] at hb
          obtain ⟨rfl, rfl⟩ := hb
          refine ⟨c.args.map a.eval, by simpa using argsC_map h c.args.toList, fun hcl => ?_⟩
          have := callFunc_run (w := w) (vs := c.args.map a.eval) hcl
          simp only [execOp, ho, resolve, hx, h1, Deferred.ofValue, Sem.run_bind, Sem.run_pure, Result.andThen_ok, invoke]
          simpa using this
      · rename_i k hxx
        split at hc
        · rename_i g' ps hk
          simp only [Option.some.injEq, Prod.mk.injEq] at hc
          obtain ⟨rfl, rfl⟩ := hc
          rw [hxx] at hv
          obtain ⟨_, h1, _⟩ := SVc.one1 rfl (by simp) hv
          simp only [List.cons.injEq, and_true] at h1
          obtain ⟨us, h2, h3, h4, h5⟩ := h.heap k _ hk
          rw [h2] at h1
          refine ⟨c.args.map a.eval ++ us, by simpa using argsC_append (argsC_map h c.args.toList) (argsC_parts h3 (by simpa using h4) h5), fun hcl => ?_⟩
          have := callFunc_run (w := w) (vs := c.args.map a.eval ++ us) hcl
          simp only [execOp, ho, resolve, hx, h1, Deferred.ofValue, Sem.run_bind, Sem.run_pure, Result.andThen_ok, invoke]
          simpa using this
        · cases hc
      · cases hc
    · cases hc
  | _ => rw [ho] at hc; simp [callee?] at hc

/-- What is given to the executor is true of the program. -/
structure FxOk (P : Program) (X : Fx) : Prop where
  env : EnvOk P X.E
  mixed : P.follows .mixedOrders = true

theorem nilCmp_does {E : Env} {o : Oper} {neg : Bool} {u : Ty} {xs : List u.D} {N : Act → World → Prop} (hE : EnvOk P E) (h : Ok w0 ρ s a w) (hc : nilCmp? E s o.op = some (neg, ⟨u, xs⟩))
    (hN : ∀ b : Bool, (b = true → xs = []) → Up w0 (s.put o.dst (.one (.d .bool (bif neg then !b else b)))) N) : Does P o a w N := by
  cases ho : o.op with
  | binOp op t x y t' =>
    rw [ho] at hc
    simp only [nilCmp?] at hc
    split at hc
    · rename_i hy
      have vy := h.ev y
      rw [hy] at vy
      obtain ⟨hy1, _⟩ := SVc.one1 rfl (by simp) vy
      simp only [List.cons.injEq, and_true] at hy1
      cases hT : isSliceT E t with
      | false => rw [hT] at hc; cases hc
      | true =>
        rw [hT] at hc
        simp only [cond_true] at hc
        obtain ⟨e, hu⟩ := isSliceT_c hE hT
        have key : ∀ d : (t : Ty) × List t.D, slD s (ev s x) = some d → ∃ A n c, a.eval x = .slice A n c ∧ (A.isNone = true → d.2 = []) := fun d hd => by
          obtain ⟨A, c, h1, h2, h3, h4⟩ := slD_c (t := d.1) (xs := d.2) h (h.ev x) hd
          refine ⟨A, _, c, h1, fun hA => ?_⟩
          rcases Nat.eq_zero_or_pos d.2.length with h0 | h0
          · exact List.length_eq_zero_iff.1 h0
          · obtain ⟨b, q, e, _⟩ := h4 h0
            rw [e] at hA; cases hA
        split at hc
        · split at hc
          · rename_i d hd
            simp only [Option.some.injEq, Prod.mk.injEq] at hc
            obtain ⟨rfl, rfl⟩ := hc
            obtain ⟨A, n, c, h1, h2⟩ := key _ hd
            refine does_value h (exec_bin ho) (v := .bool A.isNone) ?_ (sv_bool A.isNone) (hN A.isNone h2)
            rw [h1, hy1]
            have hg : (eqGuard .eql t x y (.slice A n c) (.slice none 0 0)).run P w = .ok () w := by unfold eqGuard; rfl
            simp only [Sem.run_bind, hg, Result.andThen_ok, binOp, run_equal_slice_nil w t e A n c hu, Sem.run_pure]
          · cases hc
        · split at hc
          · rename_i d hd
            simp only [Option.some.injEq, Prod.mk.injEq] at hc
            obtain ⟨rfl, rfl⟩ := hc
            obtain ⟨A, n, c, h1, h2⟩ := key _ hd
            refine does_value h (exec_bin ho) (v := .bool (!A.isNone)) ?_ (sv_bool (!A.isNone)) (hN A.isNone h2)
            rw [h1, hy1]
            have hg : (eqGuard .neq t x y (.slice A n c) (.slice none 0 0)).run P w = .ok () w := by unfold eqGuard; rfl
            simp only [Sem.run_bind, hg, Result.andThen_ok, binOp, run_equal_slice_nil w t e A n c hu, Sem.run_pure]
          · cases hc
        · cases hc
    · cases hc
  | _ => rw [ho] at hc; simp [nilCmp?] at hc

/-! ### A slice of our own becomes data. -/
theorem frz_agg {k : Nat} {t : Ty} {xs : List t.D} (p : PV) : (p.frz k t xs).agg = p.agg := by
  cases p with
  | row k' => simp only [PV.frz]; cases Nat.beq k' k <;> rfl
  | _ => rfl
theorem lget_map (g : SV → SV) (hg : g (.one .any) = .one .any) : ∀ (l : List SV) (i : Nat), lget (l.map g) i = g (lget l i)
  | [], _ => hg.symm
  | _ :: _, 0 => rfl
  | _ :: l, i + 1 => lget_map g hg l i
theorem frz_bk {k : Nat} {t : Ty} {xs : List t.D} {he : HE} {v : Value} {b : Nat} : Bk (he.frz k t xs) v b ↔ Bk he v b := by cases he <;> exact Iff.rfl
theorem rot_bk {k : Nat} {he : HE} {v : Value} {b : Nat} : Bk (he.rot k) v b ↔ Bk he v b := by cases he <;> exact Iff.rfl
theorem Ok.frz (h : Ok w0 ρ s a w) (k : Nat) : Ok w0 ρ (s.frz k) a w := by
  unfold St.frz
  split
  · rename_i t xs hk
    generalize hs' : ({ s with fr := s.fr.map (SV.frz k t xs), bk := s.bk.map (SV.frz k t xs), hp := fun n => bif Nat.beq n k then none else (match s.hp n with
      | some h => some (h.frz k t xs)
      | none => none) } : St) = s'
    have hfr : s'.fr = s.fr.map (SV.frz k t xs) := by rw [← hs']
    have hbk : s'.bk = s.bk.map (SV.frz k t xs) := by rw [← hs']
    have hus : s'.us = s.us := by rw [← hs']
    have hhp : ∀ {n h'}, s'.hp n = some h' → n ≠ k ∧ ∃ h0, s.hp n = some h0 ∧ h' = h0.frz k t xs := fun {n h'} hn => by
      rw [← hs'] at hn
      simp only [] at hn
      cases e : Nat.beq n k with
      | true => rw [e] at hn; cases hn
      | false =>
        rw [e] at hn
        simp only [cond_false] at hn
        refine ⟨fun e2 => (by subst e2; simp at e), ?_⟩
        split at hn
        · rename_i h0 hh
          simp only [Option.some.injEq] at hn
          exact ⟨h0, hh, hn.symm⟩
        · cases hn
    have hle : (cx w0 ρ s w).le (cx w0 ρ s' w) := ⟨fun n hn => by show s'.us n = true; rw [hus]; exact hn, fun _ _ => rfl, fun b hb => ⟨⟨hb.1, fun n h' hn => by
      obtain ⟨_, h0, hh, rfl⟩ := hhp hn
      exact fun hB => hb.2.1 n h0 hh (frz_bk.1 hB), hb.2.2⟩, rfl⟩⟩
    have hself : Rd (Free w0 ρ s'.hp w) w (.sl t) [ρ k] xs := by
      rcases h.heap k _ hk with ⟨h1, h2⟩ | ⟨b, q, cp, cur, e', h1, hh, h3, h4, h5, h6⟩
      · subst h2
        exact ⟨none, 0, by rw [show ρ k = _ from h1]; rfl, Nat.le_refl _, by simp [maxLen], fun hp => absurd hp (by simp)⟩
      · refine ⟨some ⟨b, q, none⟩, cp, by rw [show ρ k = _ from h1], h3, h4, fun _ => ⟨b, q, rfl, ⟨(Array.getElem?_eq_some_iff.1 hh).1, fun n h' hn => ?_, ?_⟩, fun i x hi => ⟨_, ?_, Rd.mono hle.keep (h6 i x hi)⟩⟩⟩
        · obtain ⟨hne, h0, hn0, rfl⟩ := hhp hn
          exact fun hB => h.apart k n _ _ b (fun e => hne e.symm) hk hn0 (by show blkOf (ρ k) = _; rw [show ρ k = _ from h1]; rfl) (frz_bk.1 hB)
        · exact w0.all b (h.fresh k _ b hk (by show blkOf (ρ k) = _; rw [show ρ k = _ from h1]; rfl)).1
        · intro j v hv
          have := At.of_block hh (q + i * t.size) t.size j v hv
          rw [Nat.add_assoc] at this
          exact this
    have hpv : ∀ {p l}, PVc (cx w0 ρ s w) p l → PVc (cx w0 ρ s' w) (p.frz k t xs) l := fun {p l} hp => by
      cases p with
      | row k' =>
        simp only [PV.frz]
        cases e : Nat.beq k' k with
        | false => exact PVc.mono hle hp
        | true =>
          have := Nat.eq_of_beq_eq_true e
          subst this
          obtain ⟨_, h1, _⟩ := hp
          rw [h1]
          exact hself
      | _ => exact PVc.mono hle hp
    have hps : ∀ {ps l}, PsC (cx w0 ρ s w) ps l → PsC (cx w0 ρ s' w) (ps.map (PV.frz k t xs)) l := fun {ps} => by
      induction ps with
      | nil => intro l hp; exact hp
      | cons p ps ih => intro l hp; obtain ⟨x, y, e, h1, h2⟩ := hp; exact ⟨x, y, e, hpv h1, ih h2⟩
    have hag : ∀ {g ps v}, aggC (cx w0 ρ s w) g ps v → aggC (cx w0 ρ s' w) g (ps.map (PV.frz k t xs)) v := fun {g ps v} hp => by
      cases g with
      | true => obtain ⟨cs, e, hp⟩ := hp; exact ⟨cs, e, hps hp⟩
      | false => exact hps hp
    have htu : ∀ {es vs}, tupC (cx w0 ρ s w) es vs → tupC (cx w0 ρ s' w) (es.map fun e => (e.1, e.2.map (PV.frz k t xs))) vs := fun {es} => by
      induction es with
      | nil => intro vs hp; exact hp
      | cons e es ih => intro vs hp; obtain ⟨v, r, e, h1, h2⟩ := hp; exact ⟨v, r, e, hag h1, ih h2⟩
    have hone : ∀ {p : PV} {v : Value}, SV1 (cx w0 ρ s w) p v → SV1 (cx w0 ρ s' w) (p.frz k t xs) v := fun {p v} hx => by
      by_cases hp : p = .any
      · subst hp; trivial
      · have hne : p.frz k t xs ≠ .any := by
          cases p with
          | row k' => simp only [PV.frz]; cases Nat.beq k' k <;> intro e <;> cases e
          | any => exact absurd rfl hp
          | _ => intro e; cases e
        have h1 : aggC (cx w0 ρ s w) p.agg [p] v := by cases p <;> first | exact absurd rfl hp | exact hx
        have h2 : aggC (cx w0 ρ s' w) p.agg [p.frz k t xs] v := hag h1
        rw [← frz_agg (k := k) (t := t) (xs := xs) p] at h2
        generalize p.frz k t xs = q at h2 hne
        cases q <;> first | exact absurd rfl hne | exact h2
    have hsv : ∀ {x v}, SVc (cx w0 ρ s w) x v → SVc (cx w0 ρ s' w) (x.frz k t xs) v := fun {x v} hx => by
      cases x with
      | one p => exact hone hx
      | agg ps => exact hag (g := true) hx
      | tup es => obtain ⟨vs, e, hx⟩ := hx; exact ⟨vs, e, htu hx⟩
      | cnd b p => exact ⟨fun e => hone (hx.1 e), hx.2⟩
    exact {
            defers := h.defers, below := h.below, len := by rw [hfr, List.length_map]; exact h.len,
            frame := fun i => by rw [hfr, lget_map _ rfl]; exact hsv (h.frame i),
            back := fun i => by rw [hbk, lget_map _ rfl]; exact hsv (h.back i),
            heap := fun n h' hn => by
              obtain ⟨_, h0, hh, rfl⟩ := hhp hn
              have := h.heap n h0 hh
              cases h0 with
              | box ps => obtain ⟨b, e, cs, e1, e2, e3⟩ := this; exact ⟨b, e, cs, e1, e2, hps e3⟩
              | row u ys => exact HEc.mono hle (h.used n _ hh) (fun _ _ => rfl) this
              | map kk u ys => exact HEc.mono hle (h.used n _ hh) (fun _ _ => rfl) this
              | pmap kk ys => exact HEc.mono hle (h.used n _ hh) (fun _ _ => rfl) this
              | mapit kk u ys r rem cur => exact HEc.mono hle (h.used n _ hh) (fun _ _ => rfl) this
              | pool u m => exact HEc.mono hle (h.used n _ hh) (fun _ _ => rfl) this
              | orw u yss => exact HEc.mono hle (h.used n _ hh) (fun _ _ => rfl) this
              | clo g ps =>
                obtain ⟨vs, e1, e2, e3, e4⟩ := this
                refine ⟨vs, e1, hps e2, by rw [List.length_map]; exact e3, fun p hp => ?_⟩
                obtain ⟨q, hq, rfl⟩ := List.mem_map.1 hp
                rw [frz_agg]; exact e4 q hq
            used := fun n h' hn => by
              obtain ⟨_, h0, hh, _⟩ := hhp hn
              rw [hus]; exact h.used n h0 hh
            fresh := fun n h' b hn hb => by
              obtain ⟨_, h0, hh, rfl⟩ := hhp hn
              exact h.fresh n h0 b hh (frz_bk.1 hb)
            apart := fun n n' h1 h2 b hne hn hn' hb hb' => by
              obtain ⟨_, a1, b1, rfl⟩ := hhp hn
              obtain ⟨_, a2, b2, rfl⟩ := hhp hn'
              exact h.apart n n' a1 a2 b hne b1 b2 (frz_bk.1 hb) (frz_bk.1 hb') }
  · exact h
theorem rot_agg {k : Nat} (p : PV) : (p.rot k).agg = p.agg := by
  cases p with
  | sub j k' sz a b => simp only [PV.rot]; cases Nat.beq k' k <;> rfl
  | _ => rfl
theorem Ok.rot (h : Ok w0 ρ s a w) (k : Nat) : Ok w0 ρ (s.rot k) a w := by
    generalize hs' : s.rot k = s'
    have hfr : s'.fr = s.fr.map (SV.rot k) := by rw [← hs']; rfl
    have hbk : s'.bk = s.bk.map (SV.rot k) := by rw [← hs']; rfl
    have hus : s'.us = s.us := by rw [← hs']; rfl
    have hhp : ∀ {n h'}, s'.hp n = some h' → ∃ h0, s.hp n = some h0 ∧ h' = h0.rot k := fun {n h'} hn => by
      rw [← hs'] at hn
      simp only [St.rot] at hn
      split at hn
      · rename_i h0 hh
        simp only [Option.some.injEq] at hn
        exact ⟨h0, hh, hn.symm⟩
      · cases hn
    have hle : (cx w0 ρ s w).le (cx w0 ρ s' w) := ⟨fun n hn => by show s'.us n = true; rw [hus]; exact hn, fun _ _ => rfl, fun b hb => ⟨⟨hb.1, fun n h' hn => by
      obtain ⟨h0, hh, rfl⟩ := hhp hn
      exact fun hB => hb.2.1 n h0 hh (rot_bk.1 hB), hb.2.2⟩, rfl⟩⟩
    have hpv : ∀ {p l}, PVc (cx w0 ρ s w) p l → PVc (cx w0 ρ s' w) (p.rot k) l := fun {p l} hp => by
      cases p with
      | sub j k' sz x y =>
        simp only [PV.rot]
        cases e : Nat.beq k' k with
        | false => exact PVc.mono hle hp
        | true =>
          have hp' := PVc.mono hle hp
          exact ⟨hp'.2.1, hp'.2.2.1, by have := PVc.one hp'; rw [hp'.2.2.1] at this; exact this _ (by simp)⟩
      | _ => exact PVc.mono hle hp
    have hps : ∀ {ps l}, PsC (cx w0 ρ s w) ps l → PsC (cx w0 ρ s' w) (ps.map (PV.rot k)) l := fun {ps} => by
      induction ps with
      | nil => intro l hp; exact hp
      | cons p ps ih => intro l hp; obtain ⟨x, y, e, h1, h2⟩ := hp; exact ⟨x, y, e, hpv h1, ih h2⟩
    have hag : ∀ {g ps v}, aggC (cx w0 ρ s w) g ps v → aggC (cx w0 ρ s' w) g (ps.map (PV.rot k)) v := fun {g ps v} hp => by
      cases g with
      | true => obtain ⟨cs, e, hp⟩ := hp; exact ⟨cs, e, hps hp⟩
      | false => exact hps hp
    have htu : ∀ {es vs}, tupC (cx w0 ρ s w) es vs → tupC (cx w0 ρ s' w) (es.map fun e => (e.1, e.2.map (PV.rot k))) vs := fun {es} => by
      induction es with
      | nil => intro vs hp; exact hp
      | cons e es ih => intro vs hp; obtain ⟨v, r, e, h1, h2⟩ := hp; exact ⟨v, r, e, hag h1, ih h2⟩
    have hone : ∀ {p : PV} {v : Value}, SV1 (cx w0 ρ s w) p v → SV1 (cx w0 ρ s' w) (p.rot k) v := fun {p v} hx => by
      by_cases hp : p = .any
      · subst hp; trivial
      · have hne : p.rot k ≠ .any := by
          cases p with
          | sub j k' sz x y => simp only [PV.rot]; cases Nat.beq k' k <;> intro e <;> cases e
          | any => exact absurd rfl hp
          | _ => intro e; cases e
        have h1 : aggC (cx w0 ρ s w) p.agg [p] v := by cases p <;> first | exact absurd rfl hp | exact hx
        have h2 : aggC (cx w0 ρ s' w) p.agg [p.rot k] v := hag h1
        rw [← rot_agg (k := k) p] at h2
        generalize p.rot k = q at h2 hne
        cases q <;> first | exact absurd rfl hne | exact h2
    have hsv : ∀ {x v}, SVc (cx w0 ρ s w) x v → SVc (cx w0 ρ s' w) (x.rot k) v := fun {x v} hx => by
      cases x with
      | one p => exact hone hx
      | agg ps => exact hag (g := true) hx
      | tup es => obtain ⟨vs, e, hx⟩ := hx; exact ⟨vs, e, htu hx⟩
      | cnd b p => exact ⟨fun e => hone (hx.1 e), hx.2⟩
    exact {
            defers := h.defers, below := h.below, len := by rw [hfr, List.length_map]; exact h.len,
            frame := fun i => by rw [hfr, lget_map _ rfl]; exact hsv (h.frame i),
            back := fun i => by rw [hbk, lget_map _ rfl]; exact hsv (h.back i),
            heap := fun n h' hn => by
              obtain ⟨h0, hh, rfl⟩ := hhp hn
              have := h.heap n h0 hh
              cases h0 with
              | box ps => obtain ⟨b, e, cs, e1, e2, e3⟩ := this; exact ⟨b, e, cs, e1, e2, hps e3⟩
              | row u ys => exact HEc.mono hle (h.used n _ hh) (fun _ _ => rfl) this
              | map kk u ys => exact HEc.mono hle (h.used n _ hh) (fun _ _ => rfl) this
              | pmap kk ys => exact HEc.mono hle (h.used n _ hh) (fun _ _ => rfl) this
              | mapit kk u ys r rem cur => exact HEc.mono hle (h.used n _ hh) (fun _ _ => rfl) this
              | pool u m => exact HEc.mono hle (h.used n _ hh) (fun _ _ => rfl) this
              | orw u yss => exact HEc.mono hle (h.used n _ hh) (fun _ _ => rfl) this
              | clo g ps =>
                obtain ⟨vs, e1, e2, e3, e4⟩ := this
                refine ⟨vs, e1, hps e2, by rw [List.length_map]; exact e3, fun p hp => ?_⟩
                obtain ⟨q, hq, rfl⟩ := List.mem_map.1 hp
                rw [rot_agg]; exact e4 q hq
            used := fun n h' hn => by
              obtain ⟨h0, hh, _⟩ := hhp hn
              rw [hus]; exact h.used n h0 hh
            fresh := fun n h' b hn hb => by
              obtain ⟨h0, hh, rfl⟩ := hhp hn
              exact h.fresh n h0 b hh (rot_bk.1 hb)
            apart := fun n n' h1 h2 b hne hn hn' hb hb' => by
              obtain ⟨a1, b1, rfl⟩ := hhp hn
              obtain ⟨a2, b2, rfl⟩ := hhp hn'
              exact h.apart n n' a1 a2 b hne b1 b2 (rot_bk.1 hb) (rot_bk.1 hb') }
theorem Ok.root1 (h : Ok w0 ρ s a w) {k k' sz x y : Nat} {l : List Value} (hp : PVc (cx w0 ρ s w) (.sub k k' sz x y) l) : Ok w0 ρ (root1 s k k' sz x y) a w := by
  unfold Sx.root1
  split
  · rename_i t xs hk
    cases hg : (Nat.beq t.size sz && freeN s k') with
    | false => exact h
    | true =>
      simp only [cond_true]
      simp only [Bool.and_eq_true] at hg
      obtain ⟨hz, hf⟩ := hg
      have hz := Nat.eq_of_beq_eq_true hz
      subst hz
      unfold freeN at hf
      simp only [Bool.and_eq_true] at hf
      have hk' : s.hp k' = none := by
        have := hf.2
        split at this
        · rename_i e; exact e
        · cases this
      obtain ⟨_, _, _, A, n, cp, h1, ⟨hA, hnc⟩, ⟨hxy, hyn⟩, h2⟩ := hp
      have h1 : ρ k = .slice A n cp := h1
      have h2 : ρ k' = .slice (if cp = x then A else A.map (·.add (x * t.size))) (y - x) (cp - x) := h2
      refine Ok.rot (Ok.root h hk rfl rfl hk' hf.1 ?_ ?_) k'
      · rw [h1, h2]
        rcases h.heap k _ hk with ⟨h3, rfl⟩ | ⟨b, q, cp', cur, e, h3, hh, h4, h5, h6, h7⟩
        · rw [show ρ k = _ from h3] at h1
          cases h1
          refine .inl ?_
          simp [blkOf]
        · rw [show ρ k = _ from h3] at h1
          cases h1
          refine .inr ?_
          by_cases hc : cp = x
          · rw [if_pos hc]; rfl
          · rw [if_neg hc]; simp [blkOf, Addr.add_lit]
      · intro c' hc hw hρ
        rcases h.heap k _ hk with ⟨h3, rfl⟩ | ⟨b, q, cp', cur, e, h3, hh, h4, h5, h6, h7⟩
        · rw [show ρ k = _ from h3] at h1
          cases h1
          refine .inl ⟨?_, by simp⟩
          rw [hρ, h2]
          have : y = 0 := by omega
          subst this
          simp
        · rw [show ρ k = _ from h3] at h1
          cases h1
          have hln : ((xs.take y).drop x).length = y - x := by rw [List.length_drop, List.length_take]; omega
          have hmul : (cp - x) * t.size + x * t.size = cp * t.size := by rw [← Nat.add_mul]; congr 1; omega
          obtain ⟨q', hq', hqv⟩ : ∃ q', (if cp = x then some (⟨b, q, none⟩ : Addr) else (some ⟨b, q, none⟩ : Option Addr).map (·.add (x * t.size))) = some ⟨b, q', none⟩ ∧
              q' + (cp - x) * t.size ≤ cur.size ∧ (x < cp → q' = q + x * t.size) := by
            by_cases e4 : cp = x
            · exact ⟨q, by rw [if_pos e4], by rw [e4, Nat.sub_self, Nat.zero_mul]; have : q ≤ q + cp * t.size := Nat.le_add_right _ _; omega, fun hlt => by omega⟩
            · exact ⟨q + x * t.size, by rw [if_neg e4]; simp [Addr.add_lit], by omega, fun _ => rfl⟩
          refine .inr ⟨b, q', cp - x, cur, e, by rw [hρ, h2, hq', hln], by rw [hw]; exact hh, by rw [hln]; omega, by omega, hqv.1, fun i z hi => ?_⟩
          have hx2 := getElem?_window _ _ _ _ _ hi
          have hi3 : x + i < xs.length := (List.getElem?_eq_some_iff.1 hx2).1
          rw [hqv.2 (by omega), Nat.add_assoc, ← Nat.add_mul]
          exact Rd.mono hc.keep (h7 _ _ hx2)
  · exact h
theorem root1_keep {s : St} {k k' sz x y : Nat} : (Sx.root1 s k k' sz x y).us = s.us := by
  unfold Sx.root1
  split
  · cases Nat.beq _ _ && freeN s k' <;> rfl
  · rfl
theorem Ok.rootL {sk : Nat → Bool} : ∀ (i : Nat) (fr : List SV) {s : St}, Ok w0 ρ s a w → (∀ k k' sz x y, .one (.sub k k' sz x y) ∈ fr → ∃ l, PVc (cx w0 ρ s w) (.sub k k' sz x y) l) → Ok w0 ρ (rootL sk i fr s) a w
  | _, [], _, h, _ => h
  | i, v :: r, s, h, hf => by
    have hr : ∀ j j' z u v', SV.one (.sub j j' z u v') ∈ r → ∃ l, PVc (cx w0 ρ s w) (.sub j j' z u v') l := fun j j' z u v' hm => hf j j' z u v' (List.mem_cons_of_mem _ hm)
    cases v with
    | one p =>
      cases p with
      | sub k k' sz x y =>
        unfold Sx.rootL
        cases sk i with
        | true => exact Ok.rootL (i + 1) r h hr
        | false =>
          obtain ⟨l, hl⟩ := hf k k' sz x y (List.mem_cons_self ..)
          refine Ok.rootL (i + 1) r (h.root1 hl) fun j j' z u v hm => ?_
          obtain ⟨l2, hl2⟩ := hr j j' z u v hm
          exact ⟨l2, by show (Sx.root1 s k k' sz x y).us j = true; rw [root1_keep]; exact hl2.1, by show (Sx.root1 s k k' sz x y).us j' = true; rw [root1_keep]; exact hl2.2.1, hl2.2.2⟩
      | _ => exact Ok.rootL (i + 1) r h hr
    | _ => exact Ok.rootL (i + 1) r h hr
theorem lget_mem : ∀ {l : List SV} {v : SV}, v ∈ l → ∃ i, lget l i = v
  | _ :: _, _, .head _ => ⟨0, rfl⟩
  | _ :: _, _, .tail _ h => by obtain ⟨i, hi⟩ := lget_mem h; exact ⟨i + 1, hi⟩
theorem Ok.rootAll {sk : Nat → Bool} (h : Ok w0 ρ s a w) : Ok w0 ρ (rootAll sk s) a w := by
  refine Ok.rootL 0 s.fr h fun k k' sz x y hm => ?_
  obtain ⟨i, hi⟩ := lget_mem hm
  have := h.frame i
  rw [hi] at this
  exact ⟨_, SVc.one1 rfl (by simp) this⟩
theorem Ok.frzAll : ∀ (ks : List Nat) {s : St}, Ok w0 ρ s a w → Ok w0 ρ (frzAll s ks) a w
  | [], _, h => h
  | k :: r, _, h => Ok.frzAll r (h.frz k)
theorem Ok.pre {X : Fx} {f : Nat} {o : Oper} (h : Ok w0 ρ s a w) : Ok w0 ρ (pre X f s o) a w := by
  unfold Sx.pre
  split
  · split
    · rename_i c _
      cases (bif c.own then !(ownFl c.rs) else !(c.rs.all noSl)) with
      | true => exact Ok.frzAll _ h
      | false => exact h
    · exact h
  · split
    · cases X.wr f _ with
      | true => exact Ok.frzAll _ h
      | false => exact h
    · cases X.wr f _ with
      | true => exact Ok.frzAll _ h
      | false => exact h
    · exact h
theorem op1_sound {o : Oper} {k : Nat} {K : St → Prop} {N : Act → World → Prop} {Q : Exit → Act → World → Prop} (hX : FxOk P X) (hcall : CallOk P callK) (h : Ok w0 ρ s a w)
    (ho : op1 X callK f s k o K) (hN : ∀ ρ' s' a' w', Ok w0 ρ' s' a' w' → K s' → N a' w') : o.wp P a w N Q := by
  unfold op1 at ho
  have h := h.pre (X := X) (f := f) (o := o)
  generalize pre X f s o = s at h ho
  unfold op1b at ho
  split at ho
  · rename_i g args hc
    obtain ⟨vs, hargs, hrun⟩ := callee_c (P := P) h hc
    obtain ⟨hcl, hcalls⟩ := hcall _ g args s _ w0 ρ a w vs h hargs ho
    unfold Oper.wp
    rw [hrun hcl, Oper.upon_enter]
    refine hcalls.mono fun e w' he => ?_
    obtain ⟨v, sv, s', ρ', rfl, hok, hsv, hK⟩ := he
    exact hN ρ' _ _ _ (hok.put o.dst hsv) hK
  · cases hpm : poolM X f o with
    | true =>
      rw [hpm] at ho
      simp only [cond_true] at ho
      split at ho
      · rename_i p u y hc
        exact (allocP_does (N := N) hX.env h hc ho hN).wp
      · exact ho.elim
    | false =>
    rw [hpm] at ho
    simp only [cond_false] at ho
    split at ho
    · rename_i p s' hs
      exact (opS_does (R := N) hX.env h hs ho.1 (fun ρ' a' w' hok => hN ρ' s' a' w' hok ho.2)).wp
    · rename_i s' hs
      exact (opS_does (R := N) hX.env h hs trivial (fun ρ' a' w' hok => hN ρ' s' a' w' hok ho)).wp
    · split at ho
      · rename_i neg u xs hc
        exact (nilCmp_does (N := N) hX.env h hc (fun b hb ρ' a' w' hok => hN ρ' _ a' w' hok (ho b hb))).wp
      · split at ho
        · rename_i i es z hc
          refine (plook_does (N := N) hX.env h hc ?_).wp
          clear hc
          induction es with
          | nil => exact fun ρ' a' w' hok => hN ρ' _ a' w' hok ho
          | cons e r ih => exact ⟨fun hk ρ' a' w' hok => hN ρ' _ a' w' hok (ho.1 hk), fun hk => ih (ho.2 hk)⟩
        · unfold op1c at ho
          split at ho
          · rename_i j kk t xs hc
            exact (range_does (N := N) hX.env h hc (fun r ρ' a' w' hok => hN ρ' _ a' w' hok (ho r))).wp
          · split at ho
            · rename_i j r kk t xs r' rem hc
              exact (next_does (N := N) h hc ho hN).wp
            · split at ho
              · rename_i r r' kk t e hc
                exact (entry_does (N := N) h hc ho.1 (fun ρ' a' w' hok => hN ρ' _ a' w' hok ho.2)).wp
              · split at ho
                · rename_i t x hl
                  exact (orwLoad_does (N := N) h hl hX.env ho hN).wp
                · rename_i t x y hl
                  exact (orwStore_does (N := N) h hl hX.env ho hN).wp
                · exact ho.elim

theorem dstAt_eq : ∀ (all : List Oper) (j : Nat), dstAt all j = (all[j]?).bind (·.dst)
  | [], _ => by simp [dstAt]
  | o :: r, 0 => by simp [dstAt]
  | o :: r, j + 1 => by simpa [dstAt] using dstAt_eq r j

theorem yield_bool {all : List Oper} {j d : Nat} {b : Bool} (hd : dstAt all j = some d) (hv : a.tmps.getD d undef = .bool b) : yielded all.toArray a.tmps j = some b := by
  rw [dstAt_eq] at hd
  have hd' : (all.toArray[j]?).bind (·.dst) = some d := by simpa using hd
  unfold yielded
  rw [hd']
  have hlt : d < a.tmps.size := by
    rcases Nat.lt_or_ge d a.tmps.size with h | h
    · exact h
    · rw [Array.getD, dif_neg (by omega)] at hv; cases hv
  have : a.tmps[d]? = some (.bool b) := by
    rw [Array.getElem?_eq_getElem hlt]
    simpa [Array.getD, hlt] using hv
  simp [this]
theorem yield_none {all : List Oper} {j d : Nat} (hd : dstAt all j = some d) (hv : a.tmps.getD d undef = undef) : yielded all.toArray a.tmps j = none := by
  rw [dstAt_eq] at hd
  have hd' : (all.toArray[j]?).bind (·.dst) = some d := by simpa using hd
  unfold yielded
  rw [hd']
  simp only [Option.bind_some]
  rcases Nat.lt_or_ge d a.tmps.size with hlt | h
  · rw [Array.getElem?_eq_getElem hlt]
    have : a.tmps[d] = undef := by simpa [Array.getD, hlt] using hv
    rw [this]; rfl
  · rw [Array.getElem?_eq_none h]

theorem sv_undef {c : Cx} : SVc c (.tup []) undef := ⟨#[], rfl, rfl⟩

/-- A slot may be told anew of the value that it holds. -/
theorem Ok.tell (h : Ok w0 ρ s a w) (d : Nat) {v : SV} (hv : SVc (cx w0 ρ s w) v (a.tmps.getD d undef)) : Ok w0 ρ (s.put (some d) v) a w := by
  refine { h with len := ?_, frame := ?_ }
  · simp [St.put, lset_length, h.len]
  · intro i
    show SVc (cx w0 ρ s w) (lget (lset s.fr d v) i) (a.tmps.getD i undef)
    by_cases e : d = i
    · subst e
      rw [lget_lset_eq]
      by_cases hd : d < s.fr.length
      · rw [if_pos hd]; exact hv
      · rw [if_neg hd]; trivial
    · rw [lget_lset_ne _ _ _ _ e]; exact h.frame i

end
end Go.Sx
