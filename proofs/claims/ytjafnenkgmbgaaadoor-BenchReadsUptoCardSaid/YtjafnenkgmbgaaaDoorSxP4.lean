/-
  Sx: a verified executor over the loaded code, part 4 of 5.
-/
import Derived.Test.YtjafnenkgmbgaaaDoorSxP3
import Derived.Laws.Cover3
import Derived.Deep.LoopGhost
import Derived.Orders
/-
  Sx, part P: the code does what the executor says.
-/
set_option linter.unusedSimpArgs false
namespace Go.Sx
open Go.RowKit

def argsC (c : Cx) : List SV → List Value → Prop
  | [], [] => True
  | s :: ss, v :: vs => SVc c s v ∧ argsC c ss vs
  | _, _ => False

def Callable (P : Program) (g : Nat) : Prop := ∃ fn, P.funcs[g]? = some fn ∧ (fn.name == "runtime.NumGoroutine") = false ∧ fn.body.isNone = false

def CallOk (P : Program) (callK : Nat → Nat → List SV → St → (SV → St → Prop) → Prop) : Prop :=
  ∀ k g args s K w0 ρ a w vs, Ok w0 ρ s a w → argsC (cx w0 ρ s w) args vs.toList → callK k g args s K →
    Callable P g ∧ Calls P g vs w (fun e w' => ∃ v sv s' ρ', e = .returned v ∧ Ok w0 ρ' s' a w' ∧ SVc (cx w0 ρ' s' w') sv v ∧ K sv s')

section
variable {P : Program} {X : Fx} {callK : Nat → Nat → List SV → St → (SV → St → Prop) → Prop} {f : Nat} {w0 : Base} {w : World} {ρ : Nat → Value} {s s' : St} {a : Act}

theorem callFunc_run {g : Nat} {vs : Array Value} (h : Callable P g) : (callFunc g vs).run P w = .ok (.enter g vs) w := by
  obtain ⟨fn, h1, h2, h3⟩ := h
  have h2' : ¬ fn.name = "runtime.NumGoroutine" := by simpa using h2
  have h3' : ¬ fn.body = none := fun e => by rw [e] at h3; cases h3
  simp [callFunc, program, Sem.run, h1, h2', h3']

theorem argsC_map (h : Ok w0 ρ s a w) : ∀ (xs : List Operand), argsC (cx w0 ρ s w) (xs.map (ev s)) (xs.map a.eval)
  | [] => trivial
  | x :: xs => ⟨h.ev x, argsC_map h xs⟩
theorem argsC_append {c : Cx} : ∀ {as bs : List SV} {vs us : List Value}, argsC c as vs → argsC c bs us → argsC c (as ++ bs) (vs ++ us)
  | [], _, [], _, _, h => h
  | _ :: _, _, _ :: _, _, h, k => ⟨h.1, argsC_append h.2 k⟩
  | [], _, _ :: _, _, h, _ => h.elim
  | _ :: _, _, [], _, h, _ => h.elim
theorem argsC_parts {c : Cx} : ∀ {ps : List PV} {vs : List Value}, PsC c ps vs → ps.length = vs.length → (∀ p ∈ ps, p.agg = false) → argsC c (ps.map SV.one) vs
  | [], vs, h, _, _ => by rw [show vs = [] from h]; trivial
  | p :: ps, vs, h, hl, hg => by
    obtain ⟨l, m, e, h1, h2⟩ := h
    have hp := hg p (by simp)
    have hsz : p.size = 1 := by
      cases p with
      | d t x => cases t <;> first | rfl | cases hp
      | orp k n g => cases hp
      | _ => rfl
    have hll := h1.len
    rw [hsz] at hll
    match l, hll with
    | [v], _ =>
      subst e
      exact ⟨SVc.of1 hp h1, argsC_parts h2 (by simpa using hl) (fun q hq => hg q (by simp [hq]))⟩

theorem callee_c {o : Oper} {g : Nat} {args : List SV} (h : Ok w0 ρ s a w) (hc : callee? s o.op = some (g, args)) :
    ∃ vs : Array Value, argsC (cx w0 ρ s w) args vs.toList ∧ (Callable P g → (execOp a.eval o).run P w = .ok (.enter g vs) w) := by
  cases ho : o.op with
  | call c =>
    rw [ho] at hc
    simp only [callee?] at hc
    split at hc
    · rename_i x hx
      have hv := h.ev x
      split at hc
      · rename_i g' fs cs hxx
        rw [hxx] at hv
        obtain ⟨h1, _⟩ := SVc.one1 rfl (by simp) hv
        simp only [List.cons.injEq, and_true] at h1
        cases hb : (fs.isEmpty && cs.isEmpty) with
        | false => rw [hb] at hc; cases hc
        | true =>
          rw [hb] at hc
          simp only [cond_true, Option.some.injEq, Prod.mk.injEq] at hc
          obtain ⟨rfl, rfl⟩ := hc
          simp only [Bool.and_eq_true, Array.isEmpty_iff] at hb
          obtain ⟨rfl, rfl⟩ := hb
          refine ⟨c.args.map a.eval, by simpa using argsC_map h c.args.toList, fun hcl => ?_⟩
          have := callFunc_run (w := w) (vs := c.args.map a.eval) hcl
          simp only [execOp, ho, resolve, hx, h1, Deferred.ofValue, Sem.run_bind, Sem.run_pure, Result.andThen_ok, invoke]
          simpa using this
      · rename_i k hxx
        split at hc
        · rename_i g' ps hk
          simp only [Option.some.injEq, Prod.mk.injEq] at hc
          obtain ⟨rfl, rfl⟩ := hc
          rw [hxx] at hv
          obtain ⟨_, h1, _⟩ := SVc.one1 rfl (by simp) hv
          simp only [List.cons.injEq, and_true] at h1
          obtain ⟨us, h2, h3, h4, h5⟩ := h.heap k _ hk
          rw [h2] at h1
          refine ⟨c.args.map a.eval ++ us, by simpa using argsC_append (argsC_map h c.args.toList) (argsC_parts h3 (by simpa using h4) h5), fun hcl => ?_⟩
          have := callFunc_run (w := w) (vs := c.args.map a.eval ++ us) hcl
          simp only [execOp, ho, resolve, hx, h1, Deferred.ofValue, Sem.run_bind, Sem.run_pure, Result.andThen_ok, invoke]
          simpa using this
        · cases hc
      · cases hc
    · cases hc
  | _ => rw [ho] at hc; simp [callee?] at hc

structure FxOk (P : Program) (X : Fx) : Prop where
  env : EnvOk P X.E
  mixed : P.follows .mixedOrders = true

theorem nilCmp_does {E : Env} {o : Oper} {neg : Bool} {u : Ty} {xs : List u.D} {N : Act → World → Prop} (hE : EnvOk P E) (h : Ok w0 ρ s a w) (hc : nilCmp? E s o.op = some (neg, ⟨u, xs⟩))
    (hN : ∀ b : Bool, (b = true → xs = []) → Up w0 (s.put o.dst (.one (.d .bool (bif neg then !b else b)))) N) : Does P o a w N := by
  cases ho : o.op with
  | binOp op t x y t' =>
    rw [ho] at hc
    simp only [nilCmp?] at hc
    split at hc
    · rename_i hy
      have vy := h.ev y
      rw [hy] at vy
      obtain ⟨hy1, _⟩ := SVc.one1 rfl (by simp) vy
      simp only [List.cons.injEq, and_true] at hy1
      cases hT : isSliceT E t with
      | false => rw [hT] at hc; cases hc
      | true =>
        rw [hT] at hc
        simp only [cond_true] at hc
        obtain ⟨e, hu⟩ := isSliceT_c hE hT
        have key : ∀ d : (t : Ty) × List t.D, slD s (ev s x) = some d → ∃ A n c, a.eval x = .slice A n c ∧ (A.isNone = true → d.2 = []) := fun d hd => by
          obtain ⟨A, c, h1, h2, h3, h4⟩ := slD_c (t := d.1) (xs := d.2) h (h.ev x) hd
          refine ⟨A, _, c, h1, fun hA => ?_⟩
          rcases Nat.eq_zero_or_pos d.2.length with h0 | h0
          · exact List.length_eq_zero_iff.1 h0
          · obtain ⟨b, q, e, _⟩ := h4 h0
            rw [e] at hA; cases hA
        split at hc
        · split at hc
          · rename_i d hd
            simp only [Option.some.injEq, Prod.mk.injEq] at hc
            obtain ⟨rfl, rfl⟩ := hc
            obtain ⟨A, n, c, h1, h2⟩ := key _ hd
            refine does_value h (exec_bin ho) (v := .bool A.isNone) ?_ (sv_bool A.isNone) (hN A.isNone h2)
            rw [h1, hy1]
            have hg : (eqGuard .eql t x y (.slice A n c) (.slice none 0 0)).run P w = .ok () w := by unfold eqGuard; rfl
            simp only [Sem.run_bind, hg, Result.andThen_ok, binOp, run_equal_slice_nil w t e A n c hu, Sem.run_pure]
          · cases hc
        · split at hc
          · rename_i d hd
            simp only [Option.some.injEq, Prod.mk.injEq] at hc
            obtain ⟨rfl, rfl⟩ := hc
            obtain ⟨A, n, c, h1, h2⟩ := key _ hd
            refine does_value h (exec_bin ho) (v := .bool (!A.isNone)) ?_ (sv_bool (!A.isNone)) (hN A.isNone h2)
            rw [h1, hy1]
            have hg : (eqGuard .neq t x y (.slice A n c) (.slice none 0 0)).run P w = .ok () w := by unfold eqGuard; rfl
            simp only [Sem.run_bind, hg, Result.andThen_ok, binOp, run_equal_slice_nil w t e A n c hu, Sem.run_pure]
          · cases hc
        · cases hc
    · cases hc
  | _ => rw [ho] at hc; simp [nilCmp?] at hc

theorem frz_agg {k : Nat} {t : Ty} {xs : List t.D} (p : PV) : (p.frz k t xs).agg = p.agg := by
  cases p with
  | row k' => simp only [PV.frz]; cases Nat.beq k' k <;> rfl
  | _ => rfl
theorem lget_map (g : SV → SV) (hg : g (.one .any) = .one .any) : ∀ (l : List SV) (i : Nat), lget (l.map g) i = g (lget l i)
  | [], _ => hg.symm
  | _ :: _, 0 => rfl
  | _ :: l, i + 1 => lget_map g hg l i
theorem frz_bk {k : Nat} {t : Ty} {xs : List t.D} {he : HE} {v : Value} {b : Nat} : Bk (he.frz k t xs) v b ↔ Bk he v b := by cases he <;> exact Iff.rfl
theorem rot_bk {k : Nat} {he : HE} {v : Value} {b : Nat} : Bk (he.rot k) v b ↔ Bk he v b := by cases he <;> exact Iff.rfl
theorem Ok.frz (h : Ok w0 ρ s a w) (k : Nat) : Ok w0 ρ (s.frz k) a w := by
  unfold St.frz
  split
  · rename_i t xs hk
    generalize hs' : ({ s with fr := s.fr.map (SV.frz k t xs), bk := s.bk.map (SV.frz k t xs), hp := fun n => bif Nat.beq n k then none else (match s.hp n with
      | some h => some (h.frz k t xs)
      | none => none) } : St) = s'
    have hfr : s'.fr = s.fr.map (SV.frz k t xs) := by rw [← hs']
    have hbk : s'.bk = s.bk.map (SV.frz k t xs) := by rw [← hs']
    have hus : s'.us = s.us := by rw [← hs']
    have hhp : ∀ {n h'}, s'.hp n = some h' → n ≠ k ∧ ∃ h0, s.hp n = some h0 ∧ h' = h0.frz k t xs := fun {n h'} hn => by
      rw [← hs'] at hn
      simp only [] at hn
      cases e : Nat.beq n k with
      | true => rw [e] at hn; cases hn
      | false =>
        rw [e] at hn
        simp only [cond_false] at hn
        refine ⟨fun e2 => (by subst e2; simp at e), ?_⟩
        split at hn
        · rename_i h0 hh
          simp only [Option.some.injEq] at hn
          exact ⟨h0, hh, hn.symm⟩
        · cases hn
    have hle : (cx w0 ρ s w).le (cx w0 ρ s' w) := ⟨fun n hn => by show s'.us n = true; rw [hus]; exact hn, fun _ _ => rfl, fun b hb => ⟨⟨hb.1, fun n h' hn => by
      obtain ⟨_, h0, hh, rfl⟩ := hhp hn
      exact fun hB => hb.2.1 n h0 hh (frz_bk.1 hB), hb.2.2⟩, rfl⟩⟩
    have hself : Rd (Free w0 ρ s'.hp w) w (.sl t) [ρ k] xs := by
      rcases h.heap k _ hk with ⟨h1, h2⟩ | ⟨b, q, cp, cur, e', h1, hh, h3, h4, h5, h6⟩
      · subst h2
        exact ⟨none, 0, by rw [show ρ k = _ from h1]; rfl, Nat.le_refl _, by simp [maxLen], fun hp => absurd hp (by simp)⟩
      · refine ⟨some ⟨b, q, none⟩, cp, by rw [show ρ k = _ from h1], h3, h4, fun _ => ⟨b, q, rfl, ⟨(Array.getElem?_eq_some_iff.1 hh).1, fun n h' hn => ?_, ?_⟩, fun i x hi => ⟨_, ?_, Rd.mono hle.keep (h6 i x hi)⟩⟩⟩
        · obtain ⟨hne, h0, hn0, rfl⟩ := hhp hn
          exact fun hB => h.apart k n _ _ b (fun e => hne e.symm) hk hn0 (by show blkOf (ρ k) = _; rw [show ρ k = _ from h1]; rfl) (frz_bk.1 hB)
        · exact w0.all b (h.fresh k _ b hk (by show blkOf (ρ k) = _; rw [show ρ k = _ from h1]; rfl)).1
        · intro j v hv
          have := At.of_block hh (q + i * t.size) t.size j v hv
          rw [Nat.add_assoc] at this
          exact this
    have hpv : ∀ {p l}, PVc (cx w0 ρ s w) p l → PVc (cx w0 ρ s' w) (p.frz k t xs) l := fun {p l} hp => by
      cases p with
      | row k' =>
        simp only [PV.frz]
        cases e : Nat.beq k' k with
        | false => exact PVc.mono hle hp
        | true =>
          have := Nat.eq_of_beq_eq_true e
          subst this
          obtain ⟨_, h1, _⟩ := hp
          rw [h1]
          exact hself
      | _ => exact PVc.mono hle hp
    have hps : ∀ {ps l}, PsC (cx w0 ρ s w) ps l → PsC (cx w0 ρ s' w) (ps.map (PV.frz k t xs)) l := fun {ps} => by
      induction ps with
      | nil => intro l hp; exact hp
      | cons p ps ih => intro l hp; obtain ⟨x, y, e, h1, h2⟩ := hp; exact ⟨x, y, e, hpv h1, ih h2⟩
    have hag : ∀ {g ps v}, aggC (cx w0 ρ s w) g ps v → aggC (cx w0 ρ s' w) g (ps.map (PV.frz k t xs)) v := fun {g ps v} hp => by
      cases g with
      | true => obtain ⟨cs, e, hp⟩ := hp; exact ⟨cs, e, hps hp⟩
      | false => exact hps hp
    have htu : ∀ {es vs}, tupC (cx w0 ρ s w) es vs → tupC (cx w0 ρ s' w) (es.map fun e => (e.1, e.2.map (PV.frz k t xs))) vs := fun {es} => by
      induction es with
      | nil => intro vs hp; exact hp
      | cons e es ih => intro vs hp; obtain ⟨v, r, e, h1, h2⟩ := hp; exact ⟨v, r, e, hag h1, ih h2⟩
    have hone : ∀ {p : PV} {v : Value}, SV1 (cx w0 ρ s w) p v → SV1 (cx w0 ρ s' w) (p.frz k t xs) v := fun {p v} hx => by
      by_cases hp : p = .any
      · subst hp; trivial
      · have hne : p.frz k t xs ≠ .any := by
          cases p with
          | row k' => simp only [PV.frz]; cases Nat.beq k' k <;> intro e <;> cases e
          | any => exact absurd rfl hp
          | _ => intro e; cases e
        have h1 : aggC (cx w0 ρ s w) p.agg [p] v := by cases p <;> first | exact absurd rfl hp | exact hx
        have h2 : aggC (cx w0 ρ s' w) p.agg [p.frz k t xs] v := hag h1
        rw [← frz_agg (k := k) (t := t) (xs := xs) p] at h2
        generalize p.frz k t xs = q at h2 hne
        cases q <;> first | exact absurd rfl hne | exact h2
    have hsv : ∀ {x v}, SVc (cx w0 ρ s w) x v → SVc (cx w0 ρ s' w) (x.frz k t xs) v := fun {x v} hx => by
      cases x with
      | one p => exact hone hx
      | agg ps => exact hag (g := true) hx
      | tup es => obtain ⟨vs, e, hx⟩ := hx; exact ⟨vs, e, htu hx⟩
      | cnd b p => exact ⟨fun e => hone (hx.1 e), hx.2⟩
    exact {
            defers := h.defers, below := h.below, len := by rw [hfr, List.length_map]; exact h.len,
            frame := fun i => by rw [hfr, lget_map _ rfl]; exact hsv (h.frame i),
            back := fun i => by rw [hbk, lget_map _ rfl]; exact hsv (h.back i),
            heap := fun n h' hn => by
              obtain ⟨_, h0, hh, rfl⟩ := hhp hn
              have := h.heap n h0 hh
              cases h0 with
              | box ps => obtain ⟨b, e, cs, e1, e2, e3⟩ := this; exact ⟨b, e, cs, e1, e2, hps e3⟩
              | row u ys => exact HEc.mono hle (h.used n _ hh) (fun _ _ => rfl) this
              | map kk u ys => exact HEc.mono hle (h.used n _ hh) (fun _ _ => rfl) this
              | pmap kk ys => exact HEc.mono hle (h.used n _ hh) (fun _ _ => rfl) this
              | mapit kk u ys r rem cur => exact HEc.mono hle (h.used n _ hh) (fun _ _ => rfl) this
              | pool u m => exact HEc.mono hle (h.used n _ hh) (fun _ _ => rfl) this
              | orw u yss => exact HEc.mono hle (h.used n _ hh) (fun _ _ => rfl) this
              | clo g ps =>
                obtain ⟨vs, e1, e2, e3, e4⟩ := this
                refine ⟨vs, e1, hps e2, by rw [List.length_map]; exact e3, fun p hp => ?_⟩
                obtain ⟨q, hq, rfl⟩ := List.mem_map.1 hp
                rw [frz_agg]; exact e4 q hq
            used := fun n h' hn => by
              obtain ⟨_, h0, hh, _⟩ := hhp hn
              rw [hus]; exact h.used n h0 hh
            fresh := fun n h' b hn hb => by
              obtain ⟨_, h0, hh, rfl⟩ := hhp hn
              exact h.fresh n h0 b hh (frz_bk.1 hb)
            apart := fun n n' h1 h2 b hne hn hn' hb hb' => by
              obtain ⟨_, a1, b1, rfl⟩ := hhp hn
              obtain ⟨_, a2, b2, rfl⟩ := hhp hn'
              exact h.apart n n' a1 a2 b hne b1 b2 (frz_bk.1 hb) (frz_bk.1 hb') }
  · exact h
theorem rot_agg {k : Nat} (p : PV) : (p.rot k).agg = p.agg := by
  cases p with
  | sub j k' sz a b => simp only [PV.rot]; cases Nat.beq k' k <;> rfl
  | _ => rfl
theorem Ok.rot (h : Ok w0 ρ s a w) (k : Nat) : Ok w0 ρ (s.rot k) a w := by
    generalize hs' : s.rot k = s'
    have hfr : s'.fr = s.fr.map (SV.rot k) := by rw [← hs']; rfl
    have hbk : s'.bk = s.bk.map (SV.rot k) := by rw [← hs']; rfl
    have hus : s'.us = s.us := by rw [← hs']; rfl
    have hhp : ∀ {n h'}, s'.hp n = some h' → ∃ h0, s.hp n = some h0 ∧ h' = h0.rot k := fun {n h'} hn => by
      rw [← hs'] at hn
      simp only [St.rot] at hn
      split at hn
      · rename_i h0 hh
        simp only [Option.some.injEq] at hn
        exact ⟨h0, hh, hn.symm⟩
      · cases hn
    have hle : (cx w0 ρ s w).le (cx w0 ρ s' w) := ⟨fun n hn => by show s'.us n = true; rw [hus]; exact hn, fun _ _ => rfl, fun b hb => ⟨⟨hb.1, fun n h' hn => by
      obtain ⟨h0, hh, rfl⟩ := hhp hn
      exact fun hB => hb.2.1 n h0 hh (rot_bk.1 hB), hb.2.2⟩, rfl⟩⟩
    have hpv : ∀ {p l}, PVc (cx w0 ρ s w) p l → PVc (cx w0 ρ s' w) (p.rot k) l := fun {p l} hp => by
      cases p with
      | sub j k' sz x y =>
        simp only [PV.rot]
        cases e : Nat.beq k' k with
        | false => exact PVc.mono hle hp
        | true =>
          have hp' := PVc.mono hle hp
          exact ⟨hp'.2.1, hp'.2.2.1, by have := PVc.one hp'; rw [hp'.2.2.1] at this; exact this _ (by simp)⟩
      | _ => exact PVc.mono hle hp
    have hps : ∀ {ps l}, PsC (cx w0 ρ s w) ps l → PsC (cx w0 ρ s' w) (ps.map (PV.rot k)) l := fun {ps} => by
      induction ps with
      | nil => intro l hp; exact hp
      | cons p ps ih => intro l hp; obtain ⟨x, y, e, h1, h2⟩ := hp; exact ⟨x, y, e, hpv h1, ih h2⟩
    have hag : ∀ {g ps v}, aggC (cx w0 ρ s w) g ps v → aggC (cx w0 ρ s' w) g (ps.map (PV.rot k)) v := fun {g ps v} hp => by
      cases g with
      | true => obtain ⟨cs, e, hp⟩ := hp; exact ⟨cs, e, hps hp⟩
      | false => exact hps hp
    have htu : ∀ {es vs}, tupC (cx w0 ρ s w) es vs → tupC (cx w0 ρ s' w) (es.map fun e => (e.1, e.2.map (PV.rot k))) vs := fun {es} => by
      induction es with
      | nil => intro vs hp; exact hp
      | cons e es ih => intro vs hp; obtain ⟨v, r, e, h1, h2⟩ := hp; exact ⟨v, r, e, hag h1, ih h2⟩
    have hone : ∀ {p : PV} {v : Value}, SV1 (cx w0 ρ s w) p v → SV1 (cx w0 ρ s' w) (p.rot k) v := fun {p v} hx => by
      by_cases hp : p = .any
      · subst hp; trivial
      · have hne : p.rot k ≠ .any := by
          cases p with
          | sub j k' sz x y => simp only [PV.rot]; cases Nat.beq k' k <;> intro e <;> cases e
          | any => exact absurd rfl hp
          | _ => intro e; cases e
        have h1 : aggC (cx w0 ρ s w) p.agg [p] v := by cases p <;> first | exact absurd rfl hp | exact hx
        have h2 : aggC (cx w0 ρ s' w) p.agg [p.rot k] v := hag h1
        rw [← rot_agg (k := k) p] at h2
        generalize p.rot k = q at h2 hne
        cases q <;> first | exact absurd rfl hne | exact h2
    have hsv : ∀ {x v}, SVc (cx w0 ρ s w) x v → SVc (cx w0 ρ s' w) (x.rot k) v := fun {x v} hx => by
      cases x with
      | one p => exact hone hx
      | agg ps => exact hag (g := true) hx
      | tup es => obtain ⟨vs, e, hx⟩ := hx; exact ⟨vs, e, htu hx⟩
      | cnd b p => exact ⟨fun e => hone (hx.1 e), hx.2⟩
    exact {
            defers := h.defers, below := h.below, len := by rw [hfr, List.length_map]; exact h.len,
            frame := fun i => by rw [hfr, lget_map _ rfl]; exact hsv (h.frame i),
            back := fun i => by rw [hbk, lget_map _ rfl]; exact hsv (h.back i),
            heap := fun n h' hn => by
              obtain ⟨h0, hh, rfl⟩ := hhp hn
              have := h.heap n h0 hh
              cases h0 with
              | box ps => obtain ⟨b, e, cs, e1, e2, e3⟩ := this; exact ⟨b, e, cs, e1, e2, hps e3⟩
              | row u ys => exact HEc.mono hle (h.used n _ hh) (fun _ _ => rfl) this
              | map kk u ys => exact HEc.mono hle (h.used n _ hh) (fun _ _ => rfl) this
              | pmap kk ys => exact HEc.mono hle (h.used n _ hh) (fun _ _ => rfl) this
              | mapit kk u ys r rem cur => exact HEc.mono hle (h.used n _ hh) (fun _ _ => rfl) this
              | pool u m => exact HEc.mono hle (h.used n _ hh) (fun _ _ => rfl) this
              | orw u yss => exact HEc.mono hle (h.used n _ hh) (fun _ _ => rfl) this
              | clo g ps =>
                obtain ⟨vs, e1, e2, e3, e4⟩ := this
                refine ⟨vs, e1, hps e2, by rw [List.length_map]; exact e3, fun p hp => ?_⟩
                obtain ⟨q, hq, rfl⟩ := List.mem_map.1 hp
                rw [rot_agg]; exact e4 q hq
            used := fun n h' hn => by
              obtain ⟨h0, hh, _⟩ := hhp hn
              rw [hus]; exact h.used n h0 hh
            fresh := fun n h' b hn hb => by
              obtain ⟨h0, hh, rfl⟩ := hhp hn
              exact h.fresh n h0 b hh (rot_bk.1 hb)
            apart := fun n n' h1 h2 b hne hn hn' hb hb' => by
              obtain ⟨a1, b1, rfl⟩ := hhp hn
              obtain ⟨a2, b2, rfl⟩ := hhp hn'
              exact h.apart n n' a1 a2 b hne b1 b2 (rot_bk.1 hb) (rot_bk.1 hb') }
theorem Ok.root1 (h : Ok w0 ρ s a w) {k k' sz x y : Nat} {l : List Value} (hp : PVc (cx w0 ρ s w) (.sub k k' sz x y) l) : Ok w0 ρ (root1 s k k' sz x y) a w := by
  unfold Sx.root1
  split
  · rename_i t xs hk
    cases hg : (Nat.beq t.size sz && freeN s k') with
    | false => exact h
    | true =>
      simp only [cond_true]
      simp only [Bool.and_eq_true] at hg
      obtain ⟨hz, hf⟩ := hg
      have hz := Nat.eq_of_beq_eq_true hz
      subst hz
      unfold freeN at hf
      simp only [Bool.and_eq_true] at hf
      have hk' : s.hp k' = none := by
        have := hf.2
        split at this
        · rename_i e; exact e
        · cases this
      obtain ⟨_, _, _, A, n, cp, h1, ⟨hA, hnc⟩, ⟨hxy, hyn⟩, h2⟩ := hp
      have h1 : ρ k = .slice A n cp := h1
      have h2 : ρ k' = .slice (if cp = x then A else A.map (·.add (x * t.size))) (y - x) (cp - x) := h2
      refine Ok.rot (Ok.root h hk rfl rfl hk' hf.1 ?_ ?_) k'
      · rw [h1, h2]
        rcases h.heap k _ hk with ⟨h3, rfl⟩ | ⟨b, q, cp', cur, e, h3, hh, h4, h5, h6, h7⟩
        · rw [show ρ k = _ from h3] at h1
          cases h1
          refine .inl ?_
          simp [blkOf]
        · rw [show ρ k = _ from h3] at h1
          cases h1
          refine .inr ?_
          by_cases hc : cp = x
          · rw [if_pos hc]; rfl
          · rw [if_neg hc]; simp [blkOf, Addr.add_lit]
      · intro c' hc hw hρ
        rcases h.heap k _ hk with ⟨h3, rfl⟩ | ⟨b, q, cp', cur, e, h3, hh, h4, h5, h6, h7⟩
        · rw [show ρ k = _ from h3] at h1
          cases h1
          refine .inl ⟨?_, by simp⟩
          rw [hρ, h2]
          have : y = 0 := by omega
          subst this
          simp
        · rw [show ρ k = _ from h3] at h1
          cases h1
          have hln : ((xs.take y).drop x).length = y - x := by rw [List.length_drop, List.length_take]; omega
          have hmul : (cp - x) * t.size + x * t.size = cp * t.size := by rw [← Nat.add_mul]; congr 1; omega
          obtain ⟨q', hq', hqv⟩ : ∃ q', (if cp = x then some (⟨b, q, none⟩ : Addr) else (some ⟨b, q, none⟩ : Option Addr).map (·.add (x * t.size))) = some ⟨b, q', none⟩ ∧
              q' + (cp - x) * t.size ≤ cur.size ∧ (x < cp → q' = q + x * t.size) := by
            by_cases e4 : cp = x
            · exact ⟨q, by rw [if_pos e4], by rw [e4, Nat.sub_self, Nat.zero_mul]; have : q ≤ q + cp * t.size := Nat.le_add_right _ _; omega, fun hlt => by omega⟩
            · exact ⟨q + x * t.size, by rw [if_neg e4]; simp [Addr.add_lit], by omega, fun _ => rfl⟩
          refine .inr ⟨b, q', cp - x, cur, e, by rw [hρ, h2, hq', hln], by rw [hw]; exact hh, by rw [hln]; omega, by omega, hqv.1, fun i z hi => ?_⟩
          have hx2 := getElem?_window _ _ _ _ _ hi
          have hi3 : x + i < xs.length := (List.getElem?_eq_some_iff.1 hx2).1
          rw [hqv.2 (by omega), Nat.add_assoc, ← Nat.add_mul]
          exact Rd.mono hc.keep (h7 _ _ hx2)
  · exact h
theorem root1_keep {s : St} {k k' sz x y : Nat} : (Sx.root1 s k k' sz x y).us = s.us := by
  unfold Sx.root1
  split
  · cases Nat.beq _ _ && freeN s k' <;> rfl
  · rfl
theorem Ok.rootL {sk : Nat → Bool} : ∀ (i : Nat) (fr : List SV) {s : St}, Ok w0 ρ s a w → (∀ k k' sz x y, .one (.sub k k' sz x y) ∈ fr → ∃ l, PVc (cx w0 ρ s w) (.sub k k' sz x y) l) → Ok w0 ρ (rootL sk i fr s) a w
  | _, [], _, h, _ => h
  | i, v :: r, s, h, hf => by
    have hr : ∀ j j' z u v', SV.one (.sub j j' z u v') ∈ r → ∃ l, PVc (cx w0 ρ s w) (.sub j j' z u v') l := fun j j' z u v' hm => hf j j' z u v' (List.mem_cons_of_mem _ hm)
    cases v with
    | one p =>
      cases p with
      | sub k k' sz x y =>
        unfold Sx.rootL
        cases sk i with
        | true => exact Ok.rootL (i + 1) r h hr
        | false =>
          obtain ⟨l, hl⟩ := hf k k' sz x y (List.mem_cons_self ..)
          refine Ok.rootL (i + 1) r (h.root1 hl) fun j j' z u v hm => ?_
          obtain ⟨l2, hl2⟩ := hr j j' z u v hm
          exact ⟨l2, by show (Sx.root1 s k k' sz x y).us j = true; rw [root1_keep]; exact hl2.1, by show (Sx.root1 s k k' sz x y).us j' = true; rw [root1_keep]; exact hl2.2.1, hl2.2.2⟩
      | _ => exact Ok.rootL (i + 1) r h hr
    | _ => exact Ok.rootL (i + 1) r h hr
theorem lget_mem : ∀ {l : List SV} {v : SV}, v ∈ l → ∃ i, lget l i = v
  | _ :: _, _, .head _ => ⟨0, rfl⟩
  | _ :: _, _, .tail _ h => by obtain ⟨i, hi⟩ := lget_mem h; exact ⟨i + 1, hi⟩
theorem Ok.rootAll {sk : Nat → Bool} (h : Ok w0 ρ s a w) : Ok w0 ρ (rootAll sk s) a w := by
  refine Ok.rootL 0 s.fr h fun k k' sz x y hm => ?_
  obtain ⟨i, hi⟩ := lget_mem hm
  have := h.frame i
  rw [hi] at this
  exact ⟨_, SVc.one1 rfl (by simp) this⟩
theorem Ok.frzAll : ∀ (ks : List Nat) {s : St}, Ok w0 ρ s a w → Ok w0 ρ (frzAll s ks) a w
  | [], _, h => h
  | k :: r, _, h => Ok.frzAll r (h.frz k)
theorem Ok.pre {X : Fx} {f : Nat} {o : Oper} (h : Ok w0 ρ s a w) : Ok w0 ρ (pre X f s o) a w := by
  unfold Sx.pre
  split
  · split
    · rename_i c _
      cases (bif c.own then !(ownFl c.rs) else !(c.rs.all noSl)) with
      | true => exact Ok.frzAll _ h
      | false => exact h
    · exact h
  · split
    · cases X.wr f _ with
      | true => exact Ok.frzAll _ h
      | false => exact h
    · cases X.wr f _ with
      | true => exact Ok.frzAll _ h
      | false => exact h
    · exact h
theorem op1_sound {o : Oper} {k : Nat} {K : St → Prop} {N : Act → World → Prop} {Q : Exit → Act → World → Prop} (hX : FxOk P X) (hcall : CallOk P callK) (h : Ok w0 ρ s a w)
    (ho : op1 X callK f s k o K) (hN : ∀ ρ' s' a' w', Ok w0 ρ' s' a' w' → K s' → N a' w') : o.wp P a w N Q := by
  unfold op1 at ho
  have h := h.pre (X := X) (f := f) (o := o)
  generalize pre X f s o = s at h ho
  unfold op1b at ho
  split at ho
  · rename_i g args hc
    obtain ⟨vs, hargs, hrun⟩ := callee_c (P := P) h hc
    obtain ⟨hcl, hcalls⟩ := hcall _ g args s _ w0 ρ a w vs h hargs ho
    unfold Oper.wp
    rw [hrun hcl, Oper.upon_enter]
    refine hcalls.mono fun e w' he => ?_
    obtain ⟨v, sv, s', ρ', rfl, hok, hsv, hK⟩ := he
    exact hN ρ' _ _ _ (hok.put o.dst hsv) hK
  · cases hpm : poolM X f o with
    | true =>
      rw [hpm] at ho
      simp only [cond_true] at ho
      split at ho
      · rename_i p u y hc
        exact (allocP_does (N := N) hX.env h hc ho hN).wp
      · exact ho.elim
    | false =>
    rw [hpm] at ho
    simp only [cond_false] at ho
    split at ho
    · rename_i p s' hs
      exact (opS_does (R := N) hX.env h hs ho.1 (fun ρ' a' w' hok => hN ρ' s' a' w' hok ho.2)).wp
    · rename_i s' hs
      exact (opS_does (R := N) hX.env h hs trivial (fun ρ' a' w' hok => hN ρ' s' a' w' hok ho)).wp
    · split at ho
      · rename_i neg u xs hc
        exact (nilCmp_does (N := N) hX.env h hc (fun b hb ρ' a' w' hok => hN ρ' _ a' w' hok (ho b hb))).wp
      · split at ho
        · rename_i i es z hc
          refine (plook_does (N := N) hX.env h hc ?_).wp
          clear hc
          induction es with
          | nil => exact fun ρ' a' w' hok => hN ρ' _ a' w' hok ho
          | cons e r ih => exact ⟨fun hk ρ' a' w' hok => hN ρ' _ a' w' hok (ho.1 hk), fun hk => ih (ho.2 hk)⟩
        · unfold op1c at ho
          split at ho
          · rename_i j kk t xs hc
            exact (range_does (N := N) hX.env h hc (fun r ρ' a' w' hok => hN ρ' _ a' w' hok (ho r))).wp
          · split at ho
            · rename_i j r kk t xs r' rem hc
              exact (next_does (N := N) h hc ho hN).wp
            · split at ho
              · rename_i r r' kk t e hc
                exact (entry_does (N := N) h hc ho.1 (fun ρ' a' w' hok => hN ρ' _ a' w' hok ho.2)).wp
              · split at ho
                · rename_i t x hl
                  exact (orwLoad_does (N := N) h hl hX.env ho hN).wp
                · rename_i t x y hl
                  exact (orwStore_does (N := N) h hl hX.env ho hN).wp
                · exact ho.elim

theorem dstAt_eq : ∀ (all : List Oper) (j : Nat), dstAt all j = (all[j]?).bind (·.dst)
  | [], _ => by simp [dstAt]
  | o :: r, 0 => by simp [dstAt]
  | o :: r, j + 1 => by simpa [dstAt] using dstAt_eq r j

theorem yield_bool {all : List Oper} {j d : Nat} {b : Bool} (hd : dstAt all j = some d) (hv : a.tmps.getD d undef = .bool b) : yielded all.toArray a.tmps j = some b := by
  rw [dstAt_eq] at hd
  have hd' : (all.toArray[j]?).bind (·.dst) = some d := by simpa using hd
  unfold yielded
  rw [hd']
  have hlt : d < a.tmps.size := by
    rcases Nat.lt_or_ge d a.tmps.size with h | h
    · exact h
    · rw [Array.getD, dif_neg (by omega)] at hv; cases hv
  have : a.tmps[d]? = some (.bool b) := by
    rw [Array.getElem?_eq_getElem hlt]
    simpa [Array.getD, hlt] using hv
  simp [this]
theorem yield_none {all : List Oper} {j d : Nat} (hd : dstAt all j = some d) (hv : a.tmps.getD d undef = undef) : yielded all.toArray a.tmps j = none := by
  rw [dstAt_eq] at hd
  have hd' : (all.toArray[j]?).bind (·.dst) = some d := by simpa using hd
  unfold yielded
  rw [hd']
  simp only [Option.bind_some]
  rcases Nat.lt_or_ge d a.tmps.size with hlt | h
  · rw [Array.getElem?_eq_getElem hlt]
    have : a.tmps[d] = undef := by simpa [Array.getD, hlt] using hv
    rw [this]; rfl
  · rw [Array.getElem?_eq_none h]

theorem sv_undef {c : Cx} : SVc c (.tup []) undef := ⟨#[], rfl, rfl⟩

theorem Ok.tell (h : Ok w0 ρ s a w) (d : Nat) {v : SV} (hv : SVc (cx w0 ρ s w) v (a.tmps.getD d undef)) : Ok w0 ρ (s.put (some d) v) a w := by
  refine { h with len := ?_, frame := ?_ }
  · simp [St.put, lset_length, h.len]
  · intro i
    show SVc (cx w0 ρ s w) (lget (lset s.fr d v) i) (a.tmps.getD i undef)
    by_cases e : d = i
    · subst e
      rw [lget_lset_eq]
      by_cases hd : d < s.fr.length
      · rw [if_pos hd]; exact hv
      · rw [if_neg hd]; trivial
    · rw [lget_lset_ne _ _ _ _ e]; exact h.frame i

end
end Go.Sx
/-
  Sx, part T: a region that draws its order: all its orders come to the same.
-/
namespace Go.Sx

theorem lset_same : ∀ (l : List SV) (n : Nat) (v : SV), lget l n = v → v ≠ .one .any → lset l n v = l
  | [], _, _, _, _ => rfl
  | _ :: _, 0, _, h, _ => by subst h; rfl
  | x :: xs, n + 1, v, h, hv => by simp [lset, lset_same xs n v h hv]
theorem lget_ext : ∀ {l m : List SV}, l.length = m.length → (∀ i, lget l i = lget m i) → l = m
  | [], [], _, _ => rfl
  | x :: l, y :: m, h, he => by
    have h0 := he 0
    have hr := lget_ext (l := l) (m := m) (by simpa using h) (fun i => he (i + 1))
    rw [show x = y from h0, hr]
  | [], _ :: _, h, _ => by cases h
  | _ :: _, [], h, _ => by cases h
theorem lget_lset (l : List SV) (n : Nat) (v : SV) (i : Nat) : lget (lset l n v) i = if n = i ∧ i < l.length then v else lget l i := by
  by_cases e : n = i
  · subst e
    rw [lget_lset_eq]
    by_cases h : n < l.length
    · simp [h]
    · have : lget l n = .one .any := by
        clear v
        induction l generalizing n with
        | nil => rfl
        | cons x l ih =>
          cases n with
          | zero => simp at h
          | succ n => exact ih n (by simpa using h)
      simp [h, this]
  · rw [lget_lset_ne _ _ _ _ e]; simp [e]

def gd (all : List Oper) (o : Oper) (s : St) : Option (Bool × St) :=
  match o.guard with
  | none => some (true, s)
  | some (j, want) => (match dstAt all j with
    | some d => (match lget s.fr d with
      | .one (.lit b) => some (b == want, s.put (some d) (.one (.lit b)))
      | .one (.d .bool b) => some (b == want, s.put (some d) (.one (.lit b)))
      | .tup [] => some (false, s)
      | _ => none)
    | none => none)
def dstep (X : Fx) (f nb : Nat) (all : List Oper) (i : Nat) (o : Oper) (s : St) : Option (Option Prop × St × List Nat × List Nat) :=
  match gd all o s with
  | some (true, s1) => (match stepD X f s1 (nb + i) o with
    | some (p, t) => some (p, t, opF s1 (nb + i) o.op, opW (lzO X f o) s1 (nb + i) o.op)
    | none => none)
  | some (false, s1) => some (none, s1.put o.dst (.tup []), [], [])
  | none => none
def drunR (X : Fx) (f nb : Nat) (all : List Oper) (ms : List Nat) : List (Nat × Oper) → List Rec → St → (St → Prop) → Prop
  | [], _, s, K => K s
  | (i, o) :: r, acc, s, K => ∃ p t F W, dstep X f nb all i o s = some (p, t, F, W) ∧ chk ms i F W acc = true ∧ vcP p ∧ drunR X f nb all ms r ((i, F, W) :: acc) t K

section
variable {X : Fx} {f nb : Nat} {all : List Oper} {ms : List Nat}

theorem dgo_step {i : Nat} {o : Oper} {acc : List Rec} {s s1 : St} {rest : List Rec → St → Prop} (hg : gd all o s = some (true, s1)) (h : dgo X f nb ms i o acc s1 rest) :
    ∃ p t F W, dstep X f nb all i o s = some (p, t, F, W) ∧ chk ms i F W acc = true ∧ vcP p ∧ rest ((i, F, W) :: acc) t := by
  unfold dgo at h
  split at h
  · rename_i pp t hs
    cases hc : chk ms i (opF s1 (nb + i) o.op) (opW (lzO X f o) s1 (nb + i) o.op) acc with
    | false => rw [hc] at h; exact h.elim
    | true =>
      rw [hc] at h
      simp only [cond_true] at h
      refine ⟨pp, t, _, _, by simp only [dstep, hg, hs], hc, ?_⟩
      cases pp with
      | none => exact ⟨trivial, h⟩
      | some p => exact h
  · exact h.elim
theorem dskip_step {i : Nat} {o : Oper} {acc : List Rec} {s s1 : St} {rest : List Rec → St → Prop} (hg : gd all o s = some (false, s1)) (h : dskip ms i o acc s1 rest) :
    ∃ p t F W, dstep X f nb all i o s = some (p, t, F, W) ∧ chk ms i F W acc = true ∧ vcP p ∧ rest ((i, F, W) :: acc) t := by
  unfold dskip at h
  cases hc : chk ms i [] [] acc with
  | false => rw [hc] at h; exact h.elim
  | true =>
    rw [hc] at h
    exact ⟨none, _, _, _, by simp only [dstep, hg], hc, trivial, h⟩

theorem put_same {s : St} {d : Nat} {b : Bool} (h : lget s.fr d = .one (.lit b)) : s.put (some d) (.one (.lit b)) = s := by
  show ({ s with fr := lset s.fr d (.one (.lit b)) } : St) = s
  rw [lset_same _ _ _ h (by simp)]

theorem drun_R : ∀ (r : List (Nat × Oper)) (acc : List Rec) (s : St) {K : St → Prop}, drun X f nb all ms r acc s K → drunR X f nb all ms r acc s K
  | [], _, _, _, h => h
  | (i, o) :: r, acc, s, K, h => by
    unfold drun at h
    unfold drunR
    have fin : (∃ p t F W, dstep X f nb all i o s = some (p, t, F, W) ∧ chk ms i F W acc = true ∧ vcP p ∧ drun X f nb all ms r ((i, F, W) :: acc) t K) →
        ∃ p t F W, dstep X f nb all i o s = some (p, t, F, W) ∧ chk ms i F W acc = true ∧ vcP p ∧ drunR X f nb all ms r ((i, F, W) :: acc) t K :=
      fun ⟨p, t, F, W, h1, h2, h3, h4⟩ => ⟨p, t, F, W, h1, h2, h3, drun_R r _ _ h4⟩
    refine fin ?_
    split at h
    · rename_i hg
      exact dgo_step (by simp only [gd, hg]) h
    · rename_i j want hg
      split at h
      · rename_i d hd
        split at h
        · rename_i b hb
          have hgd : gd all o s = some (b == want, s) := by simp only [gd, hg, hd, hb, put_same hb]
          cases hx : Bool.xor b want with
          | true =>
            rw [hx] at h
            simp only [cond_true] at h
            exact dskip_step (by rw [hgd]; cases b <;> cases want <;> first | rfl | cases hx) h
          | false =>
            rw [hx] at h
            simp only [cond_false] at h
            exact dgo_step (by rw [hgd]; cases b <;> cases want <;> first | rfl | cases hx) h
        · rename_i b hb
          have hgd : gd all o s = some (b == want, s.put (some d) (.one (.lit b))) := by simp only [gd, hg, hd, hb]
          by_cases e : b = want
          · exact dgo_step (s1 := s.put (some d) (.one (.lit want))) (by rw [hgd, e]; simp) (h.1 e)
          · have e' : b = !want := by cases b <;> cases want <;> first | rfl | exact absurd rfl e
            exact dskip_step (s1 := s.put (some d) (.one (.lit !want))) (by rw [hgd, e']; cases want <;> rfl) (h.2 e')
        · rename_i hb
          exact dskip_step (by simp only [gd, hg, hd, hb]) h
        · exact h.elim
      · exact h.elim

theorem drunR_mono {L L' : List (Nat × Oper)} {i : Nat} {o : Oper} {acc : List Rec} {s : St} {K : St → Prop} (hL : ∀ acc s, drunR X f nb all ms L acc s K → drunR X f nb all ms L' acc s K)
    (h : drunR X f nb all ms ((i, o) :: L) acc s K) : drunR X f nb all ms ((i, o) :: L') acc s K := by
  obtain ⟨p, t, F, W, h1, h2, h3, h4⟩ := h
  exact ⟨p, t, F, W, h1, h2, h3, hL _ _ h4⟩

theorem chk_iff {i : Nat} {F W : List Nat} : ∀ {acc : List Rec}, chk ms i F W acc = true ↔ ∀ e ∈ acc, (ord ms i e.1 || (disj e.2.2 F && (disj W e.2.1 && disj W e.2.2))) = true
  | [] => by simp [chk]
  | (j, F', W') :: r => by
    unfold chk
    cases hb : (ord ms i j || (disj W' F && (disj W F' && disj W W'))) with
    | false =>
      refine ⟨fun h => (by cases h), fun h => ?_⟩
      have := h _ (List.mem_cons_self ..)
      rw [hb] at this; cases this
    | true => simp only [cond_true, List.forall_mem_cons, hb, true_and]; exact chk_iff
theorem drunR_acc : ∀ {r : List (Nat × Oper)} {acc acc' : List Rec} {s : St} {K : St → Prop}, (∀ e, e ∈ acc ↔ e ∈ acc') → drunR X f nb all ms r acc s K → drunR X f nb all ms r acc' s K
  | [], _, _, _, _, _, h => h
  | (i, o) :: r, acc, acc', s, K, ha, h => by
    obtain ⟨p, t, F, W, h1, h2, h3, h4⟩ := h
    refine ⟨p, t, F, W, h1, chk_iff.2 fun e he => chk_iff.1 h2 e ((ha e).2 he), h3, drunR_acc (fun e => ?_) h4⟩
    simp [ha e]
theorem memN'_iff {n : Nat} : ∀ {l : List Nat}, disj.memN' n l = true ↔ n ∈ l
  | [] => by simp [disj.memN']
  | k :: r => by
    unfold disj.memN'
    cases hb : Nat.beq n k with
    | true => simp [Nat.eq_of_beq_eq_true hb]
    | false => simp only [cond_false, List.mem_cons, memN'_iff, Nat.ne_of_beq_eq_false hb, false_or]
theorem disj_iff {b : List Nat} : ∀ {a : List Nat}, disj a b = true ↔ ∀ n ∈ a, n ∉ b
  | [] => by simp [disj]
  | n :: r => by
    unfold disj
    cases hb : disj.memN' n b with
    | true => simp [memN'_iff.1 hb]
    | false =>
      have : n ∉ b := fun h => by rw [memN'_iff.2 h] at hb; cases hb
      simp only [cond_false, List.forall_mem_cons, this, not_false_eq_true, true_and]; exact disj_iff
theorem disj_symm {a b : List Nat} (h : disj a b = true) : disj b a = true := disj_iff.2 fun n hn hm => disj_iff.1 h n hm hn

section
variable {s s' : St}
theorem res_frame {q : PV} (h : ∀ n ∈ q.names, s'.hp n = s.hp n) : PV.res s' q = PV.res s q := by
  cases q with
  | row k => simp [PV.names] at h; simp [PV.res, h]
  | sub k k' sz a b => simp only [PV.res]; rw [slD_frame (x := .one (.sub k k' sz a b)) h]
  | bsl k off n sz => simp only [PV.res]; rw [slD_frame (x := .one (.bsl k off n sz)) h]
  | _ => rfl
theorem resPs_frame : ∀ {ps : List PV}, (∀ n ∈ psNames ps, s'.hp n = s.hp n) → ps.map (PV.res s') = ps.map (PV.res s)
  | [], _ => rfl
  | q :: ps, h => by
    simp only [List.map_cons]
    rw [res_frame fun n hn => h n (List.mem_append_left _ hn), resPs_frame fun n hn => h n (List.mem_append_right _ hn)]
theorem explode_names : ∀ {t : Ty} {x : t.D}, psNames (explode t x) = []
  | .int _, _ => rfl
  | .bool, _ => rfl
  | .str, _ => rfl
  | .sl _, _ => rfl
  | .arr _ _, _ => rfl
  | .ref _, _ => rfl
  | .err, _ => rfl
  | .mp _ _, _ => rfl
  | .pair a b, x => by
    have happ : ∀ (u v : List PV), psNames (u ++ v) = psNames u ++ psNames v := fun u v => by
      induction u with
      | nil => rfl
      | cons q u ih => simp [psNames, ih]
    show psNames (explode a x.1 ++ explode b x.2) = []
    rw [happ, explode_names, explode_names]; rfl
theorem psNames_append : ∀ (u v : List PV), psNames (u ++ v) = psNames u ++ psNames v
  | [], _ => rfl
  | q :: u, v => by simp [psNames, psNames_append u v]
theorem parts_names (q : PV) : psNames q.parts = q.names := by
  cases q with
  | d t x => exact explode_names
  | _ => simp [PV.parts, psNames, PV.names]
theorem psParts_names : ∀ ps : List PV, psNames (psParts ps) = psNames ps
  | [] => rfl
  | q :: ps => by simp [psParts, psNames, psNames_append, parts_names, psParts_names ps]
theorem svParts_names {v : SV} {ps : List PV} (h : v.parts = some ps) : psNames ps = v.names := by
  cases v with
  | one q =>
    have : q.parts = ps := by cases q <;> first | (injection h) | cases h
    rw [← this, parts_names]; rfl
  | agg qs => injection h with h; rw [← h, psParts_names]; rfl
  | tup es => cases h
  | cnd b p => cases h
theorem rdArg_frame {bor : Bool} {t : Ty} {v : SV} (h : ∀ n ∈ v.names, s'.hp n = s.hp n) : rdArg s' bor t v = rdArg s bor t v := by
  unfold rdArg
  cases hp : v.parts with
  | none => rfl
  | some ps =>
    have := resPs_frame (s := s) (s' := s') (ps := ps) (by rw [svParts_names hp]; exact h)
    cases bor with
    | true => simp only [cond_true, this]
    | false => rfl
theorem rdArgs_frame {bor : Bool} : ∀ {ts : List Ty} {vs : List SV}, (∀ v ∈ vs, ∀ n ∈ v.names, s'.hp n = s.hp n) → rdArgs s' bor ts vs = rdArgs s bor ts vs
  | [], [], _ => rfl
  | t :: ts, v :: vs, h => by
    unfold rdArgs
    rw [rdArg_frame (h v (by simp)), rdArgs_frame fun u hu => h u (by simp [hu])]
  | [], _ :: _, _ => rfl
  | _ :: _, [], _ => rfl
theorem ctrD_frame {c : Ctr} {k : Nat} {args : List SV} {d : Option Nat} {W : List Nat} {p : Option Prop} {u : St} (h : ∀ v ∈ args, ∀ n ∈ v.names, s'.hp n = s.hp n) (hu : s'.us k = s.us k) (hkW : k ∈ W)
    (hc : ctrD c k s args d = some (p, u)) : Fr s s' d W (ctrD c k s' args d) p u := by
  unfold ctrD at hc ⊢
  rw [rdArgs_frame h, rdArgs_frame h, hu]
  cases ho : c.own with
  | true =>
    rw [ho] at hc
    simp only [cond_true] at hc ⊢
    cases hg : ownOk c.rs && !(s.us k) with
    | false => rw [hg] at hc; cases hc
    | true =>
      rw [hg] at hc
      simp only [cond_true] at hc ⊢
      cases hfl : ownFl c.rs with
      | true =>
        rw [hfl] at hc
        simp only [cond_true] at hc ⊢
        split at hc
        · split at hc
          · cases hc; (try simp only [*]); exact Fr.new hkW
          · cases hc
        · cases hc
      | false =>
        rw [hfl] at hc
        simp only [cond_false] at hc ⊢
        split at hc
        · split at hc
          · split at hc
            · cases hc; (try simp only [*]); exact Fr.new hkW
            · cases hc
          · cases hc
        · cases hc
  | false =>
  rw [ho] at hc
  simp only [cond_false] at hc ⊢
  cases hn : c.rs.all noSl with
  | true =>
    rw [hn] at hc
    simp only [cond_true] at hc ⊢
    split at hc
    · cases hc; exact Fr.light
    · cases hc
  | false =>
    rw [hn] at hc
    simp only [cond_false] at hc ⊢
    split at hc
    · split at hc
      · cases hc; exact Fr.light
      · cases hc
    · cases hc
end

theorem lastF_mem : ∀ {args l : List SV} {h : Nat}, lastF args = some (h, l) → ∀ v ∈ l, v ∈ args
  | [], _, _, e => by cases e
  | [x], l, h, e => by
    unfold lastF at e
    simp only [] at e
    split at e
    · rename_i h' fs cs
      cases hb : (fs.isEmpty && cs.isEmpty) with
      | false => rw [hb] at e; cases e
      | true => rw [hb] at e; cases e; exact fun v hv => by cases hv
    · cases e
  | x :: y :: r, l, h, e => by
    unfold lastF at e
    simp only [] at e
    split at e
    · rename_i h' l' e'
      cases e
      intro v hv
      rcases List.mem_cons.1 hv with rfl | hv
      · exact List.mem_cons_self ..
      · exact List.mem_cons_of_mem _ (lastF_mem e' v hv)
    · cases e
theorem splitF_mem {X : Fx} {g : Nat} {args l : List SV} {c : Ctr} (h : splitF X g args = some (c, l)) : ∀ v ∈ l, v ∈ args := by
  unfold splitF at h
  split at h
  · rename_i h' l' e
    split at h
    · cases h; exact lastF_mem e
    · cases h
  · cases h
theorem stepD_frame {s s' u : St} {k : Nat} {o : Oper} {p : Option Prop} (hev : ∀ x ∈ opsOf o.op, ev s' x = ev s x) (hn : ∀ n ∈ opF s k o.op, s'.hp n = s.hp n ∧ s'.us n = s.us n)
    (h : stepD X f s k o = some (p, u)) : Fr s s' o.dst (opW (lzO X f o) s k o.op) (stepD X f s' k o) p u := by
  have hcal : callee1 s' o.op = callee1 s o.op := by
    cases ho : o.op with
    | call c =>
      rw [ho] at hev
      simp only [callee1]
      cases hcc : c.callee with
      | value x =>
        simp only [opsOf, hcc] at hev
        have e : c.args.toList.map (ev s') = c.args.toList.map (ev s) := List.map_congr_left fun q hq => hev q (List.mem_cons_of_mem _ hq)
        simp only [hev x (by simp), e]
      | _ => rfl
    | _ => rfl
  unfold stepD at h ⊢
  rw [hcal]
  cases hc : callee1 s o.op with
  | none =>
    rw [hc] at h
    simp only [] at h ⊢
    cases hf : (frzF X f o || poolM X f o) with
    | true => rw [hf] at h; cases h
    | false => rw [hf] at h; exact opS_frame hev hn h
  | some ga =>
    obtain ⟨g, args⟩ := ga
    rw [hc] at h
    obtain ⟨c, x, ho, hcc, hargs, _⟩ := callee1_some hc
    rw [ho] at hn ⊢
    simp only [] at h ⊢
    split at h
    · rename_i ct hct
      refine ctrD_frame (fun v hv n hnn => ?_) (hn k (by simp [opF])).2 (by simp [opW, hcc]) h
      rw [hargs] at hv
      obtain ⟨y, hy, rfl⟩ := List.mem_map.1 hv
      exact (hn n (List.mem_cons_of_mem _ (mem_namesOf (x := y) (by simp only [opsOf, hcc]; exact List.mem_cons_of_mem _ hy) hnn))).1
    · split at h
      · rename_i ct l hsp
        refine ctrD_frame (fun v hv n hnn => ?_) (hn k (by simp [opF])).2 (by simp [opW, hcc]) h
        have hv := splitF_mem hsp v hv
        rw [hargs] at hv
        obtain ⟨y, hy, rfl⟩ := List.mem_map.1 hv
        exact (hn n (List.mem_cons_of_mem _ (mem_namesOf (x := y) (by simp only [opsOf, hcc]; exact List.mem_cons_of_mem _ hy) hnn))).1
      · cases h

theorem namesOf_congr {s s' : St} : ∀ {l : List Operand}, (∀ x ∈ l, ev s' x = ev s x) → namesOf s' l = namesOf s l
  | [], _ => rfl
  | x :: l, h => by unfold namesOf; rw [h x (by simp), namesOf_congr fun y hy => h y (by simp [hy])]
theorem opF_congr {s s' : St} {k : Nat} {o : Op} (h : ∀ x ∈ opsOf o, ev s' x = ev s x) : opF s' k o = opF s k o := by
  unfold opF
  congr 1
  cases o with
  | indexAddr t x i => simp only [opN]; rw [h x (by simp [opsOf])]
  | fieldAddr t x i => rfl
  | move x => rfl
  | assign x => rfl
  | nilCheck x => rfl
  | load t x => simp only [opN]; rw [h x (by simp [opsOf])]
  | store t x y => simp only [opN]; rw [h x (by simp [opsOf]), h y (by simp [opsOf])]
  | _ => exact namesOf_congr h
theorem opW_congr {lz : Bool} {s s' : St} {k : Nat} {o : Op} (h : ∀ x ∈ opsOf o, ev s' x = ev s x) : opW lz s' k o = opW lz s k o := by
  cases o with
  | store t x y => simp only [opW]; rw [h x (by simp [opsOf])]
  | slice t x lo hi mx => simp only [opW]; rw [h x (by simp [opsOf])]
  | buildSlice t n ps => simp only [opW]; rw [namesOf_congr (fun x hx => h x (by simpa [opsOf] using hx))]
  | insert t x y z => simp only [opW]; rw [h x (by simp [opsOf])]
  | mapUpdate t x y z => simp only [opW]; rw [h x (by simp [opsOf])]
  | call c =>
    cases hc : c.callee with
    | builtin b =>
      cases b with
      | append =>
        simp only [opW, hc]
        simp only [opsOf, hc] at h
        revert h
        generalize c.args.toList = l
        intro h
        cases l with
        | nil => rfl
        | cons x l => simp only []; rw [h x (by simp)]
      | clear =>
        simp only [opW, hc]
        simp only [opsOf, hc] at h
        revert h
        generalize c.args.toList = l
        intro h
        cases l with
        | nil => rfl
        | cons x l => simp only []; rw [h x (by simp)]
      | copy =>
        simp only [opW, hc]
        simp only [opsOf, hc] at h
        revert h
        generalize c.args.toList = l
        intro h
        cases l with
        | nil => rfl
        | cons x l => simp only []; rw [h x (by simp)]
      | delete =>
        simp only [opW, hc]
        simp only [opsOf, hc] at h
        revert h
        generalize c.args.toList = l
        intro h
        cases l with
        | nil => rfl
        | cons x l => simp only []; rw [h x (by simp)]
      | _ => simp only [opW, hc]
    | _ => simp only [opW, hc]
  | _ => rfl

def gval : SV → Option (Option Bool)
  | .one (.lit b) => some (some b)
  | .one (.d .bool b) => some (some b)
  | .tup [] => some none
  | _ => none
def gput (g : Option (Nat × Bool)) (s : St) : St := match g with
  | none => s
  | some (d, b) => s.put (some d) (.one (.lit b))

theorem gd_spec {o : Oper} {s s1 : St} {b : Bool} (h : gd all o s = some (b, s1)) :
    ∃ g, s1 = gput g s ∧ (∀ dg c, g = some (dg, c) → gslot all o = some dg ∧ gval (lget s.fr dg) = some (some c)) ∧
      ∀ s', (∀ d, gslot all o = some d → gval (lget s'.fr d) = gval (lget s.fr d)) → gd all o s' = some (b, gput g s') := by
  unfold gd at h
  split at h
  · rename_i hg
    cases h
    exact ⟨none, rfl, fun _ _ h => (by cases h), fun s' _ => by simp only [gd, hg]; rfl⟩
  · rename_i j want hg
    split at h
    · rename_i d hd
      have hs : gslot all o = some d := by simp only [gslot, hg, hd]
      split at h
      · rename_i c hc
        cases h
        refine ⟨some (d, c), rfl, fun dg c' e => by cases e; exact ⟨hs, by rw [hc]; rfl⟩, fun s' ha => ?_⟩
        have := ha d hs
        rw [hc] at this
        simp only [gd, hg, hd]
        split
        · rename_i b' hb'
          rw [hb'] at this
          cases this; rfl
        · rename_i b' hb'
          rw [hb'] at this
          cases this; rfl
        · rename_i hb'
          rw [hb'] at this
          cases this
        · rename_i n1 n2 n3
          exfalso
          revert this
          cases hx : lget s'.fr d with
          | one q =>
            cases q with
            | lit z => exact absurd hx (n1 z)
            | d t z =>
              cases t with
              | bool => exact absurd hx (n2 z)
              | _ => intro h; cases h
            | _ => intro h; cases h
          | agg ps => intro h; cases h
          | tup es => cases es with
            | nil => exact absurd hx n3
            | cons _ _ => intro h; cases h
          | cnd _ _ => intro h; cases h
      · rename_i c hc
        cases h
        refine ⟨some (d, c), rfl, fun dg c' e => by cases e; exact ⟨hs, by rw [hc]; rfl⟩, fun s' ha => ?_⟩
        have := ha d hs
        rw [hc] at this
        simp only [gd, hg, hd]
        split
        · rename_i b' hb'
          rw [hb'] at this
          cases this; rfl
        · rename_i b' hb'
          rw [hb'] at this
          cases this; rfl
        · rename_i hb'
          rw [hb'] at this
          cases this
        · rename_i n1 n2 n3
          exfalso
          revert this
          cases hx : lget s'.fr d with
          | one q =>
            cases q with
            | lit z => exact absurd hx (n1 z)
            | d t z =>
              cases t with
              | bool => exact absurd hx (n2 z)
              | _ => intro h; cases h
            | _ => intro h; cases h
          | agg ps => intro h; cases h
          | tup es => cases es with
            | nil => exact absurd hx n3
            | cons _ _ => intro h; cases h
          | cnd _ _ => intro h; cases h
      · rename_i hc
        cases h
        refine ⟨none, rfl, fun _ _ h => (by cases h), fun s' ha => ?_⟩
        have := ha d hs
        rw [hc] at this
        simp only [gd, hg, hd]
        split
        · rename_i b' hb'
          rw [hb'] at this
          cases this
        · rename_i b' hb'
          rw [hb'] at this
          cases this
        · rfl
        · rename_i n1 n2 n3
          exfalso
          revert this
          cases hx : lget s'.fr d with
          | one q =>
            cases q with
            | lit z => exact absurd hx (n1 z)
            | d t z =>
              cases t with
              | bool => exact absurd hx (n2 z)
              | _ => intro h; cases h
            | _ => intro h; cases h
          | agg ps => intro h; cases h
          | tup es => cases es with
            | nil => exact absurd hx n3
            | cons _ _ => intro h; cases h
          | cnd _ _ => intro h; cases h
      · cases h
    · cases h

theorem gput_hp (g : Option (Nat × Bool)) (s : St) : (gput g s).hp = s.hp := by cases g <;> rfl
theorem gput_us (g : Option (Nat × Bool)) (s : St) : (gput g s).us = s.us := by cases g <;> rfl
theorem gput_len (g : Option (Nat × Bool)) (s : St) : (gput g s).fr.length = s.fr.length := by
  cases g with
  | none => rfl
  | some dc => exact lset_length _ _ _
theorem gput_ev {g : Option (Nat × Bool)} {s s' : St} (hl : s'.fr.length = s.fr.length) {x : Operand} (h : ev s' x = ev s x) : ev (gput g s') x = ev (gput g s) x := by
  cases g with
  | none => exact h
  | some dc =>
    cases x with
    | tmp t =>
      show lget (lset s'.fr dc.1 _) t = lget (lset s.fr dc.1 _) t
      rw [lget_lset, lget_lset, hl, show lget s'.fr t = lget s.fr t from h]
    | _ => rfl

theorem dstep_frame {i : Nat} {o : Oper} {s s' t : St} {p : Option Prop} {F W : List Nat} (hlen : s'.fr.length = s.fr.length) (hev : ∀ x ∈ opsOf o.op, ev s' x = ev s x)
    (hg : ∀ d, gslot all o = some d → gval (lget s'.fr d) = gval (lget s.fr d)) (hn : ∀ n ∈ F, s'.hp n = s.hp n ∧ s'.us n = s.us n) (h : dstep X f nb all i o s = some (p, t, F, W)) :
    ∃ g v hs un, t = ap o.dst v hs un (gput g s) ∧ dstep X f nb all i o s' = some (p, ap o.dst v hs un (gput g s'), F, W) ∧ (∀ e ∈ hs, e.1 ∈ W) ∧ (∀ n ∈ un, n ∈ W) ∧
      ∀ dg c, g = some (dg, c) → gslot all o = some dg ∧ gval (lget s.fr dg) = some (some c) := by
  unfold dstep at h ⊢
  split at h
  · rename_i s1 hgd
    obtain ⟨g, rfl, h2, h3⟩ := gd_spec hgd
    rw [h3 s' hg]
    split at h
    · rename_i pp tt hst
      cases h
      have hev' : ∀ x ∈ opsOf o.op, ev (gput g s') x = ev (gput g s) x := fun x hx => gput_ev hlen (hev x hx)
      obtain ⟨v, hs, un, e1, e2, e3, e4⟩ := stepD_frame hev' (fun n hnn => by rw [gput_hp, gput_hp, gput_us, gput_us]; exact hn n hnn) hst
      refine ⟨g, v, hs, un, e1, ?_, e3, e4, h2⟩
      simp only [e2, opF_congr hev', opW_congr hev']
    · cases h
  · rename_i s1 hgd
    obtain ⟨g, rfl, h2, h3⟩ := gd_spec hgd
    rw [h3 s' hg]
    cases h
    exact ⟨g, .tup [], [], [], rfl, rfl, by simp, by simp, h2⟩
  · cases h

theorem apH_not {hs : List (Nat × Option HE)} {n : Nat} : ∀ {hp : Nat → Option HE}, (∀ e ∈ hs, e.1 ≠ n) → apH hs hp n = hp n := by
  induction hs with
  | nil => intro _ _; rfl
  | cons e r ih =>
    intro hp h
    obtain ⟨k, v⟩ := e
    show apH r (hset hp k v) n = hp n
    rw [ih fun e he => h e (by simp [he])]
    have : k ≠ n := h (k, v) (by simp)
    simp only [hset, beq_ne (Ne.symm this), cond_false]
theorem apH_in {hs : List (Nat × Option HE)} {n : Nat} : ∀ {hp hp' : Nat → Option HE}, hp n = hp' n → apH hs hp n = apH hs hp' n := by
  induction hs with
  | nil => intro _ _ h; exact h
  | cons e r ih =>
    intro hp hp' h
    obtain ⟨k, v⟩ := e
    refine ih ?_
    simp only [hset, h]
theorem apH_key {hs : List (Nat × Option HE)} {n : Nat} : ∀ {hp hp' : Nat → Option HE}, (∃ e ∈ hs, e.1 = n) → apH hs hp n = apH hs hp' n := by
  induction hs with
  | nil => rintro _ _ ⟨_, h, _⟩; cases h
  | cons e r ih =>
    rintro hp hp' ⟨e', he', hn⟩
    obtain ⟨k, v⟩ := e
    show apH r (hset hp k v) n = apH r (hset hp' k v) n
    by_cases hk : k = n
    · refine apH_in ?_
      simp [hset, hk]
    · refine ih ⟨e', ?_, hn⟩
      rcases List.mem_cons.1 he' with rfl | h
      · exact absurd hn hk
      · exact h
theorem apU_eq {un : List Nat} {n : Nat} : ∀ {us : Nat → Bool}, apU un us n = (un.contains n || us n) := by
  induction un with
  | nil => intro _; simp [apU]
  | cons k r ih =>
    intro us
    show apU r (uset us k) n = _
    rw [ih]
    by_cases h : n = k
    · subst h; simp [uset]
    · simp [uset, h, beq_ne h]

theorem step_len (d : Option Nat) (v : SV) (hs : List (Nat × Option HE)) (un : List Nat) (g : Option (Nat × Bool)) (s : St) : (ap d v hs un (gput g s)).fr.length = s.fr.length := by
  cases d with
  | none => exact gput_len g s
  | some d => exact (lset_length _ _ _).trans (gput_len g s)
theorem step_hp (d : Option Nat) (v : SV) (hs : List (Nat × Option HE)) (un : List Nat) (g : Option (Nat × Bool)) (s : St) : (ap d v hs un (gput g s)).hp = apH hs s.hp := by
  cases d <;> cases g <;> rfl
theorem step_us (d : Option Nat) (v : SV) (hs : List (Nat × Option HE)) (un : List Nat) (g : Option (Nat × Bool)) (s : St) : (ap d v hs un (gput g s)).us = apU un s.us := by
  cases d <;> cases g <;> rfl
theorem step_nx (d : Option Nat) (v : SV) (hs : List (Nat × Option HE)) (un : List Nat) (g : Option (Nat × Bool)) (s : St) : (ap d v hs un (gput g s)).nx = s.nx := by
  cases d <;> cases g <;> rfl
theorem step_bk (d : Option Nat) (v : SV) (hs : List (Nat × Option HE)) (un : List Nat) (g : Option (Nat × Bool)) (s : St) : (ap d v hs un (gput g s)).bk = s.bk := by
  cases d <;> cases g <;> rfl
theorem gput_get (g : Option (Nat × Bool)) (s : St) (i : Nat) : lget (gput g s).fr i = (match g with
    | some (dg, c) => if dg = i ∧ i < s.fr.length then .one (.lit c) else lget s.fr i
    | none => lget s.fr i) := by
  cases g with
  | none => rfl
  | some dc => exact lget_lset _ _ _ _
theorem step_get (d : Option Nat) (v : SV) (hs : List (Nat × Option HE)) (un : List Nat) (g : Option (Nat × Bool)) (s : St) (i : Nat) : lget (ap d v hs un (gput g s)).fr i =
    if d = some i ∧ i < s.fr.length then v else lget (gput g s).fr i := by
  cases d with
  | none => simp; rfl
  | some d =>
    show lget (lset (gput g s).fr d v) i = _
    rw [lget_lset, gput_len]
    simp

theorem St.ext' {s t : St} (h1 : s.fr = t.fr) (h2 : s.hp = t.hp) (h3 : s.us = t.us) (h4 : s.nx = t.nx) (h5 : s.bk = t.bk) : s = t := by
  cases s; cases t
  simp only at h1 h2 h3 h4 h5
  subst h1; subst h2; subst h3; subst h4; subst h5; rfl

theorem step_comm {d1 d2 : Option Nat} {v1 v2 : SV} {h1 h2 : List (Nat × Option HE)} {u1 u2 : List Nat} {g1 g2 : Option (Nat × Bool)} {s : St}
    (hd : ∀ i, d1 = some i → d2 ≠ some i) (hdg : ∀ i c, d1 = some i → g2 ≠ some (i, c)) (hgd : ∀ i c, d2 = some i → g1 ≠ some (i, c))
    (hgg : ∀ i c c', g1 = some (i, c) → g2 = some (i, c') → c = c') (hk : ∀ e ∈ h1, ∀ e' ∈ h2, e.1 ≠ e'.1) :
    ap d1 v1 h1 u1 (gput g1 (ap d2 v2 h2 u2 (gput g2 s))) = ap d2 v2 h2 u2 (gput g2 (ap d1 v1 h1 u1 (gput g1 s))) := by
  refine St.ext' (lget_ext ?_ fun i => ?_) ?_ ?_ ?_ ?_
  · simp only [step_len]
  · rw [step_get, step_get, step_len, step_len, gput_get, gput_get, step_len, step_len, step_get, step_get, gput_get, gput_get]
    by_cases hi : i < s.fr.length
    · simp only [hi, and_true]
      by_cases e1 : d1 = some i
      · have e2 := hd i e1
        simp only [e1, if_true, e2, if_false]
        cases hg2 : g2 with
        | none => simp
        | some dc =>
          have : dc.1 ≠ i := fun e => hdg i dc.2 e1 (by rw [hg2, ← e])
          simp [this]
      · simp only [e1, if_false]
        by_cases e2 : d2 = some i
        · simp only [e2, if_true]
          cases hg1 : g1 with
          | none => simp
          | some dc =>
            have : dc.1 ≠ i := fun e => hgd i dc.2 e2 (by rw [hg1, ← e])
            simp [this]
        · simp only [e2, if_false]
          cases hg1 : g1 with
          | none => cases hg2 : g2 <;> rfl
          | some dc =>
            cases hg2 : g2 with
            | none => rfl
            | some dc' =>
              by_cases x1 : dc.1 = i
              · by_cases x2 : dc'.1 = i
                · have := hgg i dc.2 dc'.2 (by rw [hg1, ← x1]) (by rw [hg2, ← x2])
                  simp [x1, x2, this]
                · simp [x1, x2]
              · simp [x1]
    · simp only [hi, and_false, if_false]
      cases g1 <;> cases g2 <;> rfl
  · simp only [step_hp]
    funext n
    by_cases e1 : ∃ e ∈ h1, e.1 = n
    · have e2 : ∀ e ∈ h2, e.1 ≠ n := fun e' he' hn => by
        obtain ⟨e, he, hen⟩ := e1
        exact hk e he e' he' (hen.trans hn.symm)
      rw [apH_not (hs := h2) e2]
      exact apH_key e1
    · have e1' : ∀ e ∈ h1, e.1 ≠ n := fun e he hn => e1 ⟨e, he, hn⟩
      rw [apH_not (hs := h1) e1']
      exact apH_in (by rw [apH_not e1'])
  · simp only [step_us]
    funext n
    simp only [apU_eq]
    cases u1.contains n <;> cases u2.contains n <;> rfl
  · simp only [step_nx]
  · simp only [step_bk]

theorem noread_ev {d : Nat} {l : List Operand} (h : readsT d l = false) : ∀ x ∈ l, x ≠ .tmp d := by
  induction l with
  | nil => simp
  | cons y r ih =>
    intro x hx
    cases y with
    | tmp t =>
      unfold readsT at h
      cases hb : Nat.beq d t with
      | true => rw [hb] at h; cases h
      | false =>
        rw [hb] at h
        rcases List.mem_cons.1 hx with rfl | hx
        · intro e; cases e; exact Nat.ne_of_beq_eq_false hb rfl
        · exact ih h x hx
    | _ =>
      unfold readsT at h
      rcases List.mem_cons.1 hx with rfl | hx
      · simp
      · exact ih h x hx
theorem noread_spec {d : Option Nat} {l : List Operand} (h : noread d l = true) : ∀ i, d = some i → ∀ x ∈ l, x ≠ .tmp i := by
  rintro i rfl
  exact noread_ev (by simpa [noread] using h)
theorem neO_spec {x y : Option Nat} (h : neO x y = true) : ∀ i, x = some i → y ≠ some i := by
  rintro i rfl hy
  subst hy
  simp [neO] at h

theorem step_ev {d : Option Nat} {v : SV} {hs : List (Nat × Option HE)} {un : List Nat} {g : Option (Nat × Bool)} {s : St} {x : Operand} (h1 : ∀ i, d = some i → x ≠ .tmp i)
    (h2 : ∀ i c, g = some (i, c) → x ≠ .tmp i) : ev (ap d v hs un (gput g s)) x = ev s x := by
  cases x with
  | tmp t =>
    show lget (ap d v hs un (gput g s)).fr t = lget s.fr t
    rw [step_get, gput_get]
    have e1 : d ≠ some t := fun e => h1 t e rfl
    simp only [e1, false_and, if_false]
    cases hg : g with
    | none => rfl
    | some dc =>
      have e2 : dc.1 ≠ t := fun e => h2 t dc.2 (by rw [hg, ← e]) rfl
      simp [e2]
  | _ => rfl
theorem step_gval {d : Option Nat} {v : SV} {hs : List (Nat × Option HE)} {un : List Nat} {g : Option (Nat × Bool)} {s : St} {j : Nat} (h1 : d ≠ some j)
    (h2 : ∀ c, g = some (j, c) → gval (lget s.fr j) = some (some c)) : gval (lget (ap d v hs un (gput g s)).fr j) = gval (lget s.fr j) := by
  rw [step_get, gput_get]
  simp only [h1, false_and, if_false]
  cases hg : g with
  | none => rfl
  | some dc =>
    by_cases e : dc.1 = j
    · have := h2 dc.2 (by rw [hg, ← e])
      by_cases hj : j < s.fr.length
      · simp only [e, hj, and_self, if_true, this]; rfl
      · simp [hj]
    · simp [e]

theorem swap {i j : Nat} {y x : Oper} {r : List (Nat × Oper)} {acc : List Rec} {s : St} {K : St → Prop} (hap : sapart all y x = true) (hord : ord ms j i = false) (hord' : ord ms i j = false)
    (h : drunR X f nb all ms ((i, y) :: (j, x) :: r) acc s K) : drunR X f nb all ms ((j, x) :: (i, y) :: r) acc s K := by
  simp only [sapart, Bool.and_eq_true] at hap
  obtain ⟨a1, a2, a3, a4, a5, a6, a7⟩ := hap
  have a1 := noread_spec a1
  have a2 := noread_spec a2
  have a3 := noread_spec a3
  have a4 := noread_spec a4
  have a5 := neO_spec a5
  have a6 := neO_spec a6
  have a7 := neO_spec a7
  obtain ⟨p1, t1, F1, W1, hy, hc1, hp1, p2, t2, F2, W2, hx, hc2, hp2, hr⟩ := h
  have hcc := chk_iff.1 hc2
  have hdj := hcc (i, F1, W1) (by simp)
  simp only [hord, Bool.false_or, Bool.and_eq_true] at hdj
  obtain ⟨b1, b2, b3⟩ := hdj
  obtain ⟨g0, v0, h0, u0, et0, _, k0, l0, m0⟩ := dstep_frame (s' := s) rfl (fun _ _ => rfl) (fun _ _ => rfl) (fun _ _ => ⟨rfl, rfl⟩) hy
  -- x at s
  have hx0 := dstep_frame (s := t1) (s' := s) (by rw [et0, step_len])
    (fun z hz => by rw [et0]; exact (step_ev (fun d hd => a1 d hd z hz) (fun d c hd => a3 d (m0 d c hd).1 z hz)).symm)
    (fun d hd => by rw [et0]; exact (step_gval (fun e => a6 d e hd) (fun c hc => (m0 d c hc).2)).symm)
    (fun n hn => by
      rw [et0, step_hp, step_us, apU_eq]
      have hnW : n ∉ W1 := disj_iff.1 (disj_symm b1) n hn
      refine ⟨(apH_not (hs := h0) (fun e he hen => hnW (by rw [← hen]; exact k0 e he))).symm, ?_⟩
      have : u0.contains n = false := by
        cases hb : u0.contains n with
        | false => rfl
        | true => exact absurd (l0 n (by simpa using hb)) hnW
      rw [this, Bool.false_or]) hx
  obtain ⟨g2, v2, h2, u2, et2, hxs, k2, l2, m2⟩ := hx0
  -- y at what x made of s
  have hy0 := dstep_frame (s := s) (s' := ap x.dst v2 h2 u2 (gput g2 s)) (by rw [step_len])
    (fun z hz => step_ev (fun d hd => a2 d hd z hz) (fun d c hd => a4 d (m2 d c hd).1 z hz))
    (fun d hd => step_gval (fun e => a7 d e hd) (fun c hc => by
      have := (m2 d c hc).2
      rw [et0] at this
      rwa [step_gval (fun e => by
        have hsl := (m2 d c hc).1
        exact a6 d e hsl) (fun c' hc' => (m0 d c' hc').2)] at this))
    (fun n hn => by
      rw [step_hp, step_us, apU_eq]
      have hnW : n ∉ W2 := disj_iff.1 (disj_symm b2) n hn
      refine ⟨apH_not (hs := h2) (fun e he hen => hnW (by rw [← hen]; exact k2 e he)), ?_⟩
      have : u2.contains n = false := by
        cases hb : u2.contains n with
        | false => rfl
        | true => exact absurd (l2 n (by simpa using hb)) hnW
      rw [this, Bool.false_or]) hy
  obtain ⟨g1, v1, h1, u1, et1, hyu, k1, l1, m1⟩ := hy0
  have hcom : ap y.dst v1 h1 u1 (gput g1 (ap x.dst v2 h2 u2 (gput g2 s))) = t2 := by
    rw [et2, et1]
    refine step_comm (fun n e1 e2 => a5 n e1 e2) (fun n c e1 e2 => a6 n e1 (m2 n c e2).1) (fun n c e1 e2 => a7 n e1 (m1 n c e2).1) (fun n c c' e1 e2 => ?_) (fun e he e' he' hee => ?_)
    · have q1 := (m1 n c e1).2
      have q2 := (m2 n c' e2).2
      rw [et0, step_gval (fun e => a6 n e (m2 n c' e2).1) (fun c' hc' => (m0 n c' hc').2), q1] at q2
      cases q2; rfl
    · exact disj_iff.1 b3 _ (k2 e' he') (by rw [← hee]; exact k1 e he)
  refine ⟨p2, _, F2, W2, hxs, chk_iff.2 fun e he => hcc e (by simp [he]), hp2, p1, _, F1, W1, hyu, chk_iff.2 fun e he => ?_, hp1, ?_⟩
  · rcases List.mem_cons.1 he with rfl | he
    · simp only [hord', Bool.false_or, b2, disj_symm b3, Bool.and_true, Bool.true_and]
      exact b1
    · exact chk_iff.1 hc1 e he
  · rw [hcom]
    refine drunR_acc (fun e => ?_) hr
    simp only [List.mem_cons]
    constructor
    · rintro (h | h | h)
      · exact .inr (.inl h)
      · exact .inl h
      · exact .inr (.inr h)
    · rintro (h | h | h)
      · exact .inr (.inl h)
      · exact .inl h
      · exact .inr (.inr h)

theorem bubble {j : Nat} {x : Oper} {l2 : List (Nat × Oper)} {K : St → Prop} : ∀ {l1 : List (Nat × Oper)} {acc : List Rec} {s : St},
    (∀ e ∈ l1, sapart all e.2 x = true ∧ ord ms j e.1 = false ∧ ord ms e.1 j = false) → drunR X f nb all ms (l1 ++ (j, x) :: l2) acc s K → drunR X f nb all ms ((j, x) :: (l1 ++ l2)) acc s K
  | [], _, _, _, h => h
  | (i, y) :: l1, acc, s, ha, h => by
    have h' := ha (i, y) (by simp)
    exact swap h'.1 h'.2.1 h'.2.2 (drunR_mono (fun acc s hh => bubble (fun e he => ha e (by simp [he])) hh) h)
end
end Go.Sx
/-
  Sx, part U: a region that draws its order does what the executor says.
-/
namespace Go.Sx

section
variable {P : Program} {X : Fx} {f nb : Nat} {all : List Oper} {ms : List Nat} {callK : Nat → Nat → List SV → St → (SV → St → Prop) → Prop}
  {w0 : Base} {w : World} {ρ : Nat → Value} {s s1 t : St} {a : Act}

def CtrBy (X : Fx) (callK : Nat → Nat → List SV → St → (SV → St → Prop) → Prop) : Prop :=
  (∀ k g c, X.K g = some c → ∀ args s K, ctrS c k s args K → callK k g args s K) ∧
  ∀ k g c args l, X.K g = none → splitF X g args = some (c, l) → ∀ s K, ctrS c k s l K → callK k g args s K

theorem ctrD_S {c : Ctr} {k : Nat} {args : List SV} {d : Option Nat} {p : Option Prop} (h : ctrD c k s args d = some (p, t)) (hp : vcP p) : ctrS c k s args (fun v s' => s'.put d v = t) := by
  unfold ctrD at h
  unfold ctrS
  cases ho : c.own with
  | true =>
    rw [ho] at h
    simp only [cond_true] at h ⊢
    cases hg : ownOk c.rs && !(s.us k) with
    | false => rw [hg] at h; cases h
    | true =>
      rw [hg] at h
      simp only [cond_true] at h ⊢
      cases hfl : ownFl c.rs with
      | true =>
        rw [hfl] at h
        simp only [cond_true] at h ⊢
        split at h
        · split at h
          · rename_i x hx v he hv
            cases h
            exact ⟨hp, rfl⟩
          · cases h
        · cases h
      | false =>
        rw [hfl] at h
        simp only [cond_false] at h ⊢
        split at h
        · split at h
          · split at h
            · cases h
              exact ⟨hp, rfl⟩
            · cases h
          · cases h
        · cases h
  | false =>
  rw [ho] at h
  simp only [cond_false] at h ⊢
  cases hn : c.rs.all noSl with
  | true =>
    rw [hn] at h
    simp only [cond_true] at h ⊢
    split at h
    · cases h
      exact ⟨hp, rfl⟩
    · cases h
  | false =>
    rw [hn] at h
    simp only [cond_false] at h ⊢
    split at h
    · split at h
      · cases h
        exact ⟨hp, rfl⟩
      · cases h
    · cases h
theorem stepD_op1 (hK : CtrBy X callK) {k : Nat} {o : Oper} {p : Option Prop} (h : stepD X f s k o = some (p, t)) (hp : vcP p) : op1 X callK f s k o (fun s' => s' = t) := by
  unfold op1
  have hpre : pre X f s o = s := by
    unfold pre
    unfold stepD at h
    cases hc : callee? s o.op with
    | none =>
      simp only []
      have hc1 : callee1 s o.op = none := by
        cases h1 : callee1 s o.op with
        | none => rfl
        | some ga =>
          obtain ⟨_, _, _, _, _, h2⟩ := callee1_some (g := ga.1) (args := ga.2) h1
          rw [hc] at h2; cases h2
      rw [hc1] at h
      simp only [] at h
      cases hf : (frzF X f o || poolM X f o) with
      | true => rw [hf] at h; cases h
      | false =>
        have hf := (Bool.or_eq_false_iff.1 hf).1
        unfold frzF at hf
        split
        · rename_i hop hd
          rw [hop, hd] at hf
          rw [show X.wr f _ = false from hf]; rfl
        · rename_i hop hd
          rw [hop, hd] at hf
          rw [show X.wr f _ = false from hf]; rfl
        · rfl
    | some ga =>
      obtain ⟨g, args⟩ := ga
      simp only []
      split
      · rename_i c hct
        cases hg : (bif c.own then !(ownFl c.rs) else !(c.rs.all noSl)) with
        | false => rfl
        | true =>
          cases hc1 : callee1 s o.op with
          | none =>
            rw [hc1] at h
            simp only [] at h
            exfalso
            revert h hc
            cases (frzF X f o || poolM X f o) with
            | true => intro h; cases h
            | false =>
            cases ho : o.op with
            | call c =>
              simp only [callee?, opS, ho, cond_false]
              cases hcc : c.callee with
              | value x => intro h; simp [builtS] at h
              | _ => intro _ h; cases h
            | _ => intro _ h; simp [callee?] at h
          | some ga' =>
            obtain ⟨g', args'⟩ := ga'
            have hc' : callee? s o.op = some (g', args') := by
              obtain ⟨_, _, _, _, _, h2⟩ := callee1_some hc1
              exact h2
            rw [hc] at hc'
            simp only [Option.some.injEq, Prod.mk.injEq] at hc'
            obtain ⟨rfl, rfl⟩ := hc'
            rw [hc1] at h
            simp only [] at h
            rw [hct] at h
            simp only [] at h
            unfold ctrD at h
            cases hown : c.own with
            | false =>
              rw [hown] at h hg
              simp only [cond_false, Bool.not_eq_true'] at h hg
              rw [hg] at h
              simp only [cond_false] at h
              split at h
              · rename_i hr; simp only [cond_true, hr]; rfl
              · cases h
            | true =>
              rw [hown] at h hg
              simp only [cond_true, Bool.not_eq_true'] at h hg
              rw [hg] at h
              cases hok : ownOk c.rs && !(s.us k) with
              | false => rw [hok] at h; cases h
              | true =>
                rw [hok] at h
                simp only [cond_true, cond_false] at h
                split at h
                · rename_i hr; simp only [cond_true, hr]; rfl
                · cases h
      · rfl
  rw [hpre]
  unfold stepD at h
  unfold op1b
  cases hc : callee1 s o.op with
  | some ga =>
    obtain ⟨g, args⟩ := ga
    rw [hc] at h
    simp only [] at h
    split at h
    · rename_i c hct
      have hc' : callee? s o.op = some (g, args) := by
        obtain ⟨_, _, _, _, _, h2⟩ := callee1_some hc
        exact h2
      rw [hc']
      exact hK.1 k g c hct args s _ (ctrD_S h hp)
    · rename_i hct
      split at h
      · rename_i c l hsp
        have hc' : callee? s o.op = some (g, args) := by
          obtain ⟨_, _, _, _, _, h2⟩ := callee1_some hc
          exact h2
        rw [hc']
        exact hK.2 k g c args l hct hsp s _ (ctrD_S h hp)
      · cases h
  | none =>
    rw [hc] at h
    simp only [] at h
    cases hf : (frzF X f o || poolM X f o) with
    | true => rw [hf] at h; cases h
    | false =>
    rw [hf] at h
    simp only [cond_false] at h
    cases hc' : callee? s o.op with
    | none =>
      simp only []
      rw [h, (Bool.or_eq_false_iff.1 hf).2]
      simp only [cond_false]
      cases p with
      | none => rfl
      | some p => exact ⟨hp, rfl⟩
    | some ga =>
      exfalso
      revert h hc'
      cases ho : o.op with
      | call c =>
        simp only [callee?, opS, ho]
        cases hcc : c.callee with
        | value x => intro h; simp [builtS] at h
        | _ => intro _ h; cases h
      | _ => intro _ h; cases h

theorem openS_ok {X : Fx} : ∀ (os : List Operand) {s : St}, Ok w0 ρ s a w → vcP (openS s os).2 → Ok w0 ρ (openS s os).1 a w ∧
    ((openS s os).1.hp = s.hp ∧ (openS s os).1.us = s.us ∧ (openS s os).1.nx = s.nx ∧ (openS s os).1.bk = s.bk ∧ (openS s os).1.fr.length = s.fr.length) ∧
    ∀ i, lget (openS s os).1.fr i = lget s.fr i ∨ ∃ b p, lget s.fr i = .cnd b p ∧ b = true ∧ lget (openS s os).1.fr i = .one p
  | [], s, h, _ => ⟨h, ⟨rfl, rfl, rfl, rfl, rfl⟩, fun _ => .inl rfl⟩
  | x :: r, s, h, hc => by
    cases x with
    | tmp t =>
      unfold openS at hc ⊢
      split
      · rename_i b p hbp
        rw [hbp] at hc
        simp only [] at hc ⊢
        have hb : b = true ∧ vcP (openS (s.put (some t) (.one p)) r).2 := by
          cases hq : (openS (s.put (some t) (.one p)) r).2 with
          | none => rw [hq] at hc; exact ⟨hc, trivial⟩
          | some q => rw [hq] at hc; exact hc
        have hf := h.frame t
        rw [hbp] at hf
        obtain ⟨h1, h2, h3⟩ := openS_ok (X := X) r (h.tell t (v := .one p) (hf.1 hb.1)) hb.2
        refine ⟨h1, ⟨h2.1, h2.2.1, h2.2.2.1, h2.2.2.2.1, by rw [h2.2.2.2.2]; exact lset_length _ _ _⟩, fun i => ?_⟩
        have hput : lget (s.put (some t) (.one p)).fr i = if t = i ∧ i < s.fr.length then .one p else lget s.fr i := lget_lset _ _ _ _
        by_cases e : t = i ∧ i < s.fr.length
        · rw [if_pos e] at hput
          obtain ⟨rfl, _⟩ := e
          refine .inr ⟨b, p, hbp, hb.1, ?_⟩
          rcases h3 t with h4 | ⟨b', p', h4, _⟩
          · rw [h4, hput]
          · rw [hput] at h4; cases h4
        · rw [if_neg e] at hput
          rcases h3 i with h4 | ⟨b', p', h4, h5, h6⟩
          · exact .inl (h4.trans hput)
          · exact .inr ⟨b', p', hput.symm.trans h4, h5, h6⟩
      · rename_i hno
        refine openS_ok (X := X) r h ?_
        revert hc
        split
        · rename_i b p hbp; exact absurd hbp (hno b p)
        · exact fun h => h
    | _ => exact openS_ok (X := X) r h hc
theorem light_put {k : Nat} {o : Oper} {p : Option Prop} {s2 : St} (hl : lightO X s k o = true) (h : stepD X f s k o = some (p, s2)) : ∃ v, s2 = s.put o.dst v := by
  unfold lightO at hl
  unfold stepD at h
  cases hc : callee1 s o.op with
  | some ga =>
    obtain ⟨g, args⟩ := ga
    rw [hc] at hl h
    simp only [] at hl h
    split at h
    · rename_i c hct
      rw [hct] at hl
      simp only [Bool.not_eq_true'] at hl
      unfold ctrD at h
      rw [hl] at h
      simp only [cond_false] at h
      cases hn : c.rs.all noSl with
      | true =>
        rw [hn] at h
        simp only [cond_true] at h
        split at h
        · cases h; exact ⟨_, rfl⟩
        · cases h
      | false =>
        rw [hn] at h
        simp only [cond_false] at h
        split at h
        · split at h
          · cases h; exact ⟨_, rfl⟩
          · cases h
        · cases h
    · rename_i hct
      rw [hct] at hl
      cases hl
  | none =>
    rw [hc] at hl h
    simp only [] at hl h
    cases hf : (frzF X f o || poolM X f o) with
    | true => rw [hf] at h; cases h
    | false =>
      rw [hf] at h
      simp only [cond_false] at h
      obtain ⟨v, hs, un, e1, _, e2, e3⟩ := opS_frame (s' := s) (fun _ _ => rfl) (fun _ _ => ⟨rfl, rfl⟩) h
      have hw0 : opW false s k o.op = [] := by simpa using hl
      have hw : opW (wrO (X.wr f) 3000000 o.dst) s k o.op = [] := by
        revert hw0
        cases o.op with
        | slice t x lo hi mx =>
          simp only [opW]
          split
          · intro h; cases h
          · intro h; cases h
          · intro _; rfl
        | buildSlice t n ps => intro h; cases h
        | _ => exact fun h => h
      rw [hw] at e2 e3
      have hs0 : hs = [] := by
        cases hs with
        | nil => rfl
        | cons x xs => have := e2 x (by simp); cases this
      have un0 : un = [] := by
        cases un with
        | nil => rfl
        | cons x xs => have := e3 x (by simp); cases this
      subst hs0; subst un0
      exact ⟨v, e1⟩
theorem gop_sound (hK : CtrBy X callK) {k : Nat} {o : Oper} {gb : Bool} {pp : Option Prop} {s' : St} (h : gop X f s k o gb = some (pp, s')) (hp : vcP pp) (hok : Ok w0 ρ s a w) :
    ∃ d q, o.dst = some d ∧ s' = s.put (some d) (.cnd gb q) ∧ (gb = true → ∃ s1 s2 ρ1, Ok w0 ρ1 s1 a w ∧ op1 X callK f s1 k o (fun t => t = s2) ∧ ∀ ρ' a' w', Ok w0 ρ' s2 a' w' → Ok w0 ρ' s' a' w') := by
  unfold gop at h
  split at h
  · rename_i d hd
    have key : ∀ s1 C, openS s (needOf o.op) = (s1, C) → (bif lightO X s1 k o then (match stepD X f s1 k o with
      | some (p, s2) => (match lget s2.fr d with
        | .one q => (match andO C p with
          | some p => some (some (gb = true → p), s.put (some d) (.cnd gb q))
          | none => some (none, s.put (some d) (.cnd gb q)))
        | _ => none)
      | none => none) else none) = some (pp, s') → ∃ d q, o.dst = some d ∧ s' = s.put (some d) (.cnd gb q) ∧ (gb = true → ∃ s1 s2 ρ1, Ok w0 ρ1 s1 a w ∧ op1 X callK f s1 k o (fun t => t = s2) ∧ ∀ ρ' a' w', Ok w0 ρ' s2 a' w' → Ok w0 ρ' s' a' w') := by
      intro s1 C hop h
      cases hl : lightO X s1 k o with
      | false => rw [hl] at h; cases h
      | true =>
        rw [hl] at h
        simp only [cond_true] at h
        split at h
        · rename_i p s2 hst
          split at h
          · rename_i q hq
            have hfin : s' = s.put (some d) (.cnd gb q) ∧ (gb = true → vcP C ∧ vcP p) := by
              cases C with
              | none => cases p with
                | none => simp only [andO, Option.some.injEq, Prod.mk.injEq] at h; exact ⟨h.2.symm, fun _ => ⟨trivial, trivial⟩⟩
                | some p => simp only [andO, Option.some.injEq, Prod.mk.injEq] at h; obtain ⟨e1, e2⟩ := h; subst e1; exact ⟨e2.symm, fun e => ⟨trivial, hp e⟩⟩
              | some C => cases p with
                | none => simp only [andO, Option.some.injEq, Prod.mk.injEq] at h; obtain ⟨e1, e2⟩ := h; subst e1; exact ⟨e2.symm, fun e => ⟨hp e, trivial⟩⟩
                | some p => simp only [andO, Option.some.injEq, Prod.mk.injEq] at h; obtain ⟨e1, e2⟩ := h; subst e1; exact ⟨e2.symm, hp⟩
            obtain ⟨rfl, hcp⟩ := hfin
            refine ⟨d, q, hd, rfl, fun hgb => ?_⟩
            obtain ⟨hC, hpp⟩ := hcp hgb
            have hC' : vcP (openS s (needOf o.op)).2 := by rw [hop]; exact hC
            obtain ⟨hok1, hsame, hslots⟩ := openS_ok (X := X) (needOf o.op) hok hC'
            rw [hop] at hok1 hsame hslots
            simp only [] at hok1 hsame hslots
            refine ⟨s1, s2, ρ, hok1, stepD_op1 hK hst hpp, fun ρ' a' w' ho => ?_⟩
            obtain ⟨v, rfl⟩ := light_put hl hst
            rw [hd] at ho hq
            have hcx : cx w0 ρ' (s1.put (some d) v) w' = cx w0 ρ' (s.put (some d) (.cnd gb q)) w' := by
              show (⟨ρ', s1.us, Free w0 ρ' s1.hp w', w'⟩ : Cx) = ⟨ρ', s.us, Free w0 ρ' s.hp w', w'⟩
              rw [hsame.1, hsame.2.1]
            have hlen : (lset s1.fr d v).length = (lset s.fr d (.cnd gb q)).length := by rw [lset_length, lset_length, hsame.2.2.2.2]
            have hl1 : (lset s1.fr d v).length = a'.tmps.size := ho.len
            have hfr := ho.frame
            have hbk := ho.back
            have hhp := ho.heap
            have hus := ho.used
            have hfs := ho.fresh
            have hap := ho.apart
            rw [hcx] at hfr hbk hhp
            refine { defers := ho.defers, below := ho.below, len := hlen.symm.trans hl1, frame := fun i => ?_, back := fun i => ?_, heap := ?_, used := ?_, fresh := ?_, apart := ?_ }
            · have h2 := hfr i
              have e1 : lget (s1.put (some d) v).fr i = if d = i ∧ i < s1.fr.length then v else lget s1.fr i := lget_lset _ _ _ _
              have e2 : lget (s.put (some d) (.cnd gb q)).fr i = if d = i ∧ i < s.fr.length then .cnd gb q else lget s.fr i := lget_lset _ _ _ _
              rw [hsame.2.2.2.2] at e1
              by_cases e : d = i ∧ i < s.fr.length
              · rw [if_pos e] at e1 e2
                obtain ⟨rfl, _⟩ := e
                rw [hq] at h2
                rw [e2]
                exact ⟨fun _ => h2, fun e => by rw [hgb] at e; cases e⟩
              · rw [if_neg e] at e1 e2
                rw [e2]
                rw [e1] at h2
                rcases hslots i with h3 | ⟨b, p', h3, h4, h5⟩
                · rw [h3] at h2; exact h2
                · rw [h5] at h2
                  rw [h3]
                  exact ⟨fun _ => h2, fun e => by rw [h4] at e; cases e⟩
            · have := hbk i
              have e : (s1.put (some d) v).bk = s.bk := hsame.2.2.2.1
              rw [e] at this
              exact this
            · intro n he hn
              exact hhp n he (by show s1.hp n = some he; rw [hsame.1]; exact hn)
            · intro n he hn
              have := hus n he (by show s1.hp n = some he; rw [hsame.1]; exact hn)
              have e : (s1.put (some d) v).us = s.us := hsame.2.1
              rw [e] at this
              exact this
            · intro n he b hn
              exact hfs n he b (by show s1.hp n = some he; rw [hsame.1]; exact hn)
            · intro n n' h1 h2 b hne hn hn'
              exact hap n n' h1 h2 b hne (by show s1.hp n = some h1; rw [hsame.1]; exact hn) (by show s1.hp n' = some h2; rw [hsame.1]; exact hn')
          · cases h
        · cases h
    exact key _ _ rfl h
  · cases h
theorem gate_c {o : Oper} {j d : Nat} {want gb : Bool} {v : SV} (hd : dstAt all j = some d) (hg : o.guard = some (j, want)) (h : gateV want v = some gb) (hv : SVc (cx w0 ρ s w) v (a.tmps.getD d undef)) :
    Region.wanted o (yielded all.toArray a.tmps) = gb := by
  have one : ∀ b, a.tmps.getD d undef = .bool b → Region.wanted o (yielded all.toArray a.tmps) = bif want then b else !b := fun b hb => by
    have hy := yield_bool hd hb
    simp only [Region.wanted, hg, hy]
    cases b <;> cases want <;> rfl
  unfold gateV at h
  split at h
  · rename_i b
    simp only [Option.some.injEq] at h
    subst h
    have hb : [a.tmps.getD d undef] = [.bool b] := SVc.one1 rfl (by simp) hv
    exact one b (by simpa using hb)
  · rename_i b1 u
    simp only [Option.some.injEq] at h
    subst h
    cases b1 with
    | true =>
      have hb : [a.tmps.getD d undef] = [.bool u] := SVc.one1 (p := .d .bool u) rfl (by simp) (hv.1 rfl)
      rw [one u (by simpa using hb)]
      rfl
    | false =>
      simp [Region.wanted, hg, yield_none hd (hv.2 rfl)]
  · cases h

theorem op1o_open {k : Nat} {o : Oper} {K : St → Prop} (h : op1o X callK f s k o K) (hok : Ok w0 ρ s a w) : ∃ s1, Ok w0 ρ s1 a w ∧ op1 X callK f s1 k o K := by
  unfold op1o at h
  cases hop : openS s (needOf o.op) with
  | mk s1 C =>
    rw [hop] at h
    have hC' : vcP (openS s (needOf o.op)).2 := by
      rw [hop]
      cases C with
      | none => trivial
      | some c => exact h.1
    obtain ⟨hok1, _, _⟩ := openS_ok (X := X) (needOf o.op) hok hC'
    rw [hop] at hok1
    cases C with
    | none => exact ⟨s1, hok1, h⟩
    | some c => exact ⟨s1, hok1, h.2⟩
theorem gop1_some {k : Nat} {o : Oper} {gb : Bool} {r : Option Prop × St} (h : gop1 X f s k o gb = some r) : gop X f s k o gb = some r := by
  unfold gop1 at h
  cases hm : wrO (X.wr f) 10000000 o.dst with
  | true => rw [hm] at h; cases h
  | false => rw [hm] at h; exact h
theorem ops_sound {all : List Oper} {nb : Nat} {K : St → Prop} {Q : Exit → Act → World → Prop} (hX : FxOk P X) (hcall : CallOk P callK) (hCB : CtrBy X callK)
    (hQ : ∀ ρ' s' a' w', Ok w0 ρ' s' a' w' → K s' → Q .normal a' w') :
    ∀ (r : List Oper) (i : Nat) (s : St) (ρ : Nat → Value) (a : Act) (w : World), ops X callK f all nb i r s K → Ok w0 ρ s a w → wpList P all.toArray Q r a w
  | [], i, s, ρ, a, w, h, hok => hQ ρ s a w hok h
  | o :: r, i, s, ρ, a, w, h, hok => by
    unfold ops at h
    have skip : Region.wanted o (yielded all.toArray a.tmps) = false → ops X callK f all nb (i + 1) r (s.put o.dst (.tup [])) K → wpList P all.toArray Q (o :: r) a w := fun hw hr => by
      unfold wpList
      rw [hw]
      simp only [Bool.false_eq_true, if_false]
      exact ops_sound hX hcall hCB hQ r (i + 1) _ ρ _ w hr (hok.put o.dst sv_undef)
    have run : ∀ s1 ρ1, Ok w0 ρ1 s1 a w → Region.wanted o (yielded all.toArray a.tmps) = true → op1 X callK f s1 (nb + i) o (fun s => ops X callK f all nb (i + 1) r s K) → wpList P all.toArray Q (o :: r) a w := fun s1 ρ1 hok1 hw hr => by
      unfold wpList
      rw [hw]
      simp only [if_true]
      exact .inl (op1_sound hX hcall hok1 hr (fun ρ' s' a' w' hok' hK => ops_sound hX hcall hCB hQ r (i + 1) s' ρ' a' w' hK hok'))
    split at h
    · rename_i hg
      exact run s ρ hok (by simp [Region.wanted, hg]) h
    · rename_i j want hg
      split at h
      · rename_i d hd
        have hv := hok.frame d
        split at h
        · rename_i b hsl
          rw [hsl] at hv
          have hb : [a.tmps.getD d undef] = [.bool b] := SVc.one1 rfl (by simp) hv
          simp only [List.cons.injEq, and_true] at hb
          have hy := yield_bool hd hb
          cases hx : Bool.xor b want with
          | true =>
            rw [hx] at h
            refine skip ?_ h
            simp only [Region.wanted, hg, hy]
            cases b <;> cases want <;> first | rfl | cases hx
          | false =>
            rw [hx] at h
            obtain ⟨s1, hok1, h⟩ := op1o_open h hok
            refine run s1 ρ hok1 ?_ h
            simp only [Region.wanted, hg, hy]
            cases b <;> cases want <;> first | rfl | cases hx
        · rename_i hsl
          rw [hsl] at hv
          obtain ⟨vs, hvs, he⟩ := hv
          have hu : a.tmps.getD d undef = undef := by
            rw [hvs]
            have he : vs.toList = [] := he
            have : vs = #[] := by simpa using he
            rw [this]; rfl
          refine skip ?_ h
          simp [Region.wanted, hg, yield_none hd hu]
        · split at h
          · rename_i gb hgate
            have hwant := gate_c (o := o) (all := all) hd hg hgate hv
            have go : ∀ pp s', gop1 X f s (nb + i) o gb = some (pp, s') → vcP pp → ops X callK f all nb (i + 1) r s' K → wpList P all.toArray Q (o :: r) a w := fun pp s' hgo hpp hr => by
              obtain ⟨dd, q, hdd, hs', hrun⟩ := gop_sound hCB (gop1_some hgo) hpp hok
              cases gb with
              | true =>
                obtain ⟨s1, s2, ρ1, hok1, h1, hback⟩ := hrun rfl
                unfold wpList
                rw [hwant]
                simp only [if_true]
                exact .inl (op1_sound hX hcall hok1 h1 (fun ρ' t a' w' hok' hK' => by
                  subst hK'
                  exact ops_sound hX hcall hCB hQ r (i + 1) s' ρ' a' w' hr (hback ρ' a' w' hok')))
              | false =>
                unfold wpList
                rw [hwant]
                simp only [Bool.false_eq_true, if_false]
                subst hs'
                rw [hdd]
                exact ops_sound hX hcall hCB hQ r (i + 1) _ ρ _ w hr (hok.put (some dd) ⟨fun e => (by cases e), fun _ => rfl⟩)
            split at h
            · rename_i pp s' hgo
              exact go _ s' hgo h.1 h.2
            · rename_i s' hgo
              exact go _ s' hgo trivial h
            · split at h
              · rename_i b hsl
                rw [hsl] at hv
                have hb : [a.tmps.getD d undef] = [.bool b] := SVc.one1 rfl (by simp) hv
                simp only [List.cons.injEq, and_true] at hb
                have hy := yield_bool hd hb
                by_cases e : b = want
                · have hok1 := hok.tell d (v := .one (.lit want)) (by rw [hb, e]; exact sv_lit want)
                  obtain ⟨s1, hok2, h2⟩ := op1o_open (h.1 e) hok1
                  exact run s1 ρ hok2 (by simp [Region.wanted, hg, hy, e]) h2
                · have e' : b = !want := by cases b <;> cases want <;> first | rfl | exact absurd rfl e
                  have hok1 := hok.tell d (v := .one (.lit !want)) (by rw [hb, e']; exact sv_lit _)
                  have hw : Region.wanted o (yielded all.toArray a.tmps) = false := by
                    simp only [Region.wanted, hg, hy, e']
                    cases want <;> rfl
                  unfold wpList
                  rw [hw]
                  simp only [Bool.false_eq_true, if_false]
                  exact ops_sound hX hcall hCB hQ r (i + 1) _ ρ _ w (h.2 e') (hok1.put o.dst sv_undef)
              · exact h.elim
          · exact h.elim
      · exact h.elim

theorem gd_ok {o : Oper} {b : Bool} (hok : Ok w0 ρ s a w) (h : gd all o s = some (b, s1)) : Region.wanted o (yielded all.toArray a.tmps) = b ∧ Ok w0 ρ s1 a w := by
  unfold gd at h
  split at h
  · rename_i hg
    cases h
    exact ⟨by simp [Region.wanted, hg], hok⟩
  · rename_i j want hg
    split at h
    · rename_i d hd
      have hv := hok.frame d
      split at h
      · rename_i c hc
        cases h
        rw [hc] at hv
        have hb : [a.tmps.getD d undef] = [.bool c] := SVc.one1 rfl (by simp) hv
        simp only [List.cons.injEq, and_true] at hb
        have hy := yield_bool hd hb
        exact ⟨by simp only [Region.wanted, hg, hy]; cases c <;> cases want <;> rfl, hok.tell d (v := .one (.lit c)) (by rw [hb]; exact sv_lit c)⟩
      · rename_i c hc
        cases h
        rw [hc] at hv
        have hb : [a.tmps.getD d undef] = [.bool c] := SVc.one1 rfl (by simp) hv
        simp only [List.cons.injEq, and_true] at hb
        have hy := yield_bool hd hb
        exact ⟨by simp only [Region.wanted, hg, hy]; cases c <;> cases want <;> rfl, hok.tell d (v := .one (.lit c)) (by rw [hb]; exact sv_lit c)⟩
      · rename_i hc
        cases h
        rw [hc] at hv
        obtain ⟨vs, hvs, he⟩ := hv
        have hu : a.tmps.getD d undef = undef := by
          rw [hvs]
          have he : vs.toList = [] := he
          have : vs = #[] := by simpa using he
          rw [this]; rfl
        exact ⟨by simp [Region.wanted, hg, yield_none hd hu], hok⟩
      · cases h
    · cases h

theorem dstep_sound {i : Nat} {o : Oper} {p : Option Prop} {F W : List Nat} {N : Act → World → Prop} {Q : Exit → Act → World → Prop} (hX : FxOk P X) (hcall : CallOk P callK) (hK : CtrBy X callK)
    (ho : all[i]? = some o) (hok : Ok w0 ρ s a w) (h : dstep X f nb all i o s = some (p, t, F, W)) (hp : vcP p) (hN : ∀ ρ' a' w', Ok w0 ρ' t a' w' → N a' w') : wpOp P all.toArray Q i N a w := by
  unfold wpOp
  have ho' : all.toArray[i]? = some o := by simpa using ho
  rw [ho']
  simp only []
  unfold dstep at h
  split at h
  · rename_i s1 hgd
    obtain ⟨hw, hok1⟩ := gd_ok hok hgd
    rw [hw]
    simp only [if_true]
    split at h
    · rename_i pp tt hst
      cases h
      exact .inl (op1_sound hX hcall hok1 (stepD_op1 hK hst hp) (fun ρ' s' a' w' hok' hs => hN ρ' a' w' (hs ▸ hok')))
    · cases h
  · rename_i s1 hgd
    obtain ⟨hw, hok1⟩ := gd_ok hok hgd
    rw [hw]
    simp only [Bool.false_eq_true, if_false]
    cases h
    exact hN ρ _ _ (hok1.put o.dst sv_undef)
  · cases h

theorem numbered_get : ∀ {l : List Oper} {n i : Nat} {o : Oper}, (i, o) ∈ numbered n l ↔ n ≤ i ∧ l[i - n]? = some o
  | [], _, _, _ => by simp [numbered]
  | x :: l, n, i, o => by
    simp only [numbered, List.mem_cons, Prod.mk.injEq, numbered_get (l := l)]
    constructor
    · rintro (⟨rfl, rfl⟩ | ⟨h1, h2⟩)
      · simp
      · refine ⟨by omega, ?_⟩
        rw [show i - n = (i - (n + 1)) + 1 by omega]; simpa using h2
    · rintro ⟨h1, h2⟩
      by_cases e : i = n
      · subst e; simp at h2; exact .inl ⟨rfl, h2.symm⟩
      · right
        refine ⟨by omega, ?_⟩
        rw [show i - n = (i - (n + 1)) + 1 by omega] at h2; simpa using h2
theorem numbered_sorted : ∀ {l : List Oper} {n : Nat}, (numbered n l).Pairwise (fun x y => x.1 < y.1)
  | [], _ => List.Pairwise.nil
  | x :: l, n => List.Pairwise.cons (fun e he => by
      obtain ⟨i, o⟩ := e
      have := (numbered_get.1 he).1
      show n < i
      omega) numbered_sorted

structure Stat (all : List Oper) (ms : List Nat) : Prop where
  after : ∀ j x, all[j]? = some x → ∀ e ∈ x.after, Region.binds .any e = true → e.on < j
  anc : ∀ i j x y, all[j]? = some x → all[i]? = some y → i < j → Nat.testBit (mget ms j) i = true → ∃ e ∈ x.after, Region.binds .any e = true ∧ (e.on = i ∨ (i < e.on ∧ Nat.testBit (mget ms e.on) i = true))
  apart : ∀ i j x y, all[j]? = some x → all[i]? = some y → i < j → Nat.testBit (mget ms j) i = false → sapart all y x = true

theorem statJ_spec {j : Nat} {x : Oper} : ∀ {l : List (Nat × Oper)}, l.Pairwise (fun x y => x.1 < y.1) → statJ all ms j x l = true → ∀ i y, (i, y) ∈ l → i < j →
    (bif Nat.testBit (mget ms j) i then x.after.toList.any (fun e => Region.binds .any e && (Nat.beq e.on i || (Nat.blt i e.on && Nat.testBit (mget ms e.on) i))) else sapart all y x) = true
  | [], _, _, _, _, h, _ => by cases h
  | (i', y') :: r, hs, h, i, y, hm, hij => by
    unfold statJ at h
    cases hb : Nat.blt i' j with
    | false =>
      have hlt : ¬ i' < j := fun hh => by
        have : Nat.blt i' j = true := by simpa using hh
        rw [this] at hb; cases hb
      rcases List.mem_cons.1 hm with e | hm
      · cases e; exact absurd hij hlt
      · have := (List.pairwise_cons.1 hs).1 _ hm
        omega
    | true =>
      rw [hb] at h
      simp only [cond_true] at h
      generalize hc : (bif Nat.testBit (mget ms j) i' then x.after.toList.any (fun e => Region.binds .any e && (Nat.beq e.on i' || (Nat.blt i' e.on && Nat.testBit (mget ms e.on) i'))) else sapart all y' x) = c at h
      cases c with
      | false => cases h
      | true =>
        rcases List.mem_cons.1 hm with e | hm
        · cases e; exact hc
        · exact statJ_spec (List.pairwise_cons.1 hs).2 h i y hm hij
theorem statOk_spec' {ns : List (Nat × Oper)} : ∀ {l : List (Nat × Oper)}, statOk all ms ns l = true → ∀ j x, (j, x) ∈ l →
    x.after.toList.all (fun e => bif Region.binds .any e then Nat.blt e.on j else true) = true ∧ statJ all ms j x ns = true
  | [], _, _, _, h => by cases h
  | (j', x') :: r, h, j, x, hm => by
    unfold statOk at h
    cases hb : (x'.after.toList.all (fun e => bif Region.binds .any e then Nat.blt e.on j' else true) && statJ all ms j' x' ns) with
    | false => rw [hb] at h; cases h
    | true =>
      rw [hb] at h
      rcases List.mem_cons.1 hm with e | hm
      · cases e; simpa using hb
      · exact statOk_spec' h j x hm
theorem statOk_spec (h : statOk all ms (numbered 0 all) (numbered 0 all) = true) : Stat all ms := by
  have key := fun j x (hj : all[j]? = some x) => statOk_spec' h j x (numbered_get.2 ⟨Nat.zero_le _, by simpa using hj⟩)
  have keyJ := fun i j x y (hj : all[j]? = some x) (hi : all[i]? = some y) (hij : i < j) => statJ_spec numbered_sorted (key j x hj).2 i y (numbered_get.2 ⟨Nat.zero_le _, by simpa using hi⟩) hij
  refine ⟨fun j x hj e he hb => ?_, fun i j x y hj hi hij ht => ?_, fun i j x y hj hi hij ht => ?_⟩
  · have := List.all_eq_true.1 (key j x hj).1 e (by simpa using he)
    rw [hb] at this
    simpa using this
  · have := keyJ i j x y hj hi hij
    rw [ht] at this
    simp only [cond_true] at this
    obtain ⟨e, he, hh⟩ := List.any_eq_true.1 this
    simp only [Bool.and_eq_true, Bool.or_eq_true] at hh
    exact ⟨e, by simpa using he, hh.1, hh.2.imp (fun h => Nat.eq_of_beq_eq_true h) (fun h => ⟨by simpa using h.1, h.2⟩)⟩
  · have := keyJ i j x y hj hi hij
    rw [ht] at this
    exact this

structure Listed (all : List Oper) (listed : Array Bool) (rest : List (Nat × Oper)) : Prop where
  size : listed.size = all.length
  mem : ∀ i o, (i, o) ∈ rest ↔ all[i]? = some o ∧ listed.getD i true = false
  sorted : rest.Pairwise (fun x y => x.1 < y.1)
  closed : ∀ i o, all[i]? = some o → listed.getD i false = true → ∀ e ∈ o.after, Region.binds .any e = true → listed.getD e.on false = true

theorem getD_flip {listed : Array Bool} {i : Nat} (hi : i < listed.size) : listed.getD i true = listed.getD i false := by
  simp [Array.getD, hi]
theorem lt_of_get {i : Nat} {o : Oper} (h : all[i]? = some o) : i < all.length := (List.getElem?_eq_some_iff.1 h).1

theorem anc_listed {listed : Array Bool} {rest : List (Nat × Oper)} (hs : Stat all ms) (hl : Listed all listed rest) : ∀ (j i : Nat) (x y : Oper), all[j]? = some x → all[i]? = some y → i < j →
    (∀ e ∈ x.after, Region.binds .any e = true → listed.getD e.on false = true) → Nat.testBit (mget ms j) i = true → listed.getD i false = true := by
  intro j
  induction j using Nat.strongRecOn with
  | _ j ih =>
    intro i x y hj hi hij hd ht
    obtain ⟨e, he, hb, h⟩ := hs.anc i j x y hj hi hij ht
    have hlist := hd e he hb
    rcases h with h | h
    · rw [← h]; exact hlist
    · have hej := hs.after j x hj e he hb
      have hlt : e.on < all.length := Nat.lt_trans hej (lt_of_get hj)
      obtain ⟨z, hz⟩ : ∃ z, all[e.on]? = some z := ⟨_, List.getElem?_eq_getElem hlt⟩
      exact ih e.on hej i z y hz hi h.1 (hl.closed e.on z hz hlist) h.2

theorem listed_next {listed : Array Bool} {l1 l2 : List (Nat × Oper)} {j : Nat} {x : Oper} (hl : Listed all listed (l1 ++ (j, x) :: l2))
    (hd : ∀ e ∈ x.after, Region.binds .any e = true → listed.getD e.on false = true) : Listed all (listed.setIfInBounds j true) (l1 ++ l2) := by
  have hj := (hl.mem j x).1 (by simp)
  have hjs : j < listed.size := by rw [hl.size]; exact lt_of_get hj.1
  have hpw := hl.sorted
  rw [List.pairwise_append] at hpw
  refine ⟨by simpa using hl.size, fun i o => ?_, ?_, fun i o hi hli e he hb => ?_⟩
  · by_cases e : i = j
    · subst e
      have e1 : (listed.setIfInBounds i true).getD i true = true := by simp
      rw [e1]
      refine ⟨fun h => ?_, fun h => by simp at h⟩
      exfalso
      rcases List.mem_append.1 h with h | h
      · have := hpw.2.2 _ h (i, x) (by simp)
        exact Nat.lt_irrefl _ this
      · have := (List.pairwise_cons.1 hpw.2.1).1 _ h
        exact Nat.lt_irrefl _ this
    · have e1 : (listed.setIfInBounds j true).getD i true = listed.getD i true := getD_set_ne true (Ne.symm e)
      rw [e1, ← hl.mem i o]
      simp [e]
  · exact List.pairwise_append.2 ⟨hpw.1, (List.pairwise_cons.1 hpw.2.1).2, fun a ha b hb => hpw.2.2 a ha b (by simp [hb])⟩
  · refine getD_set_true ?_
    by_cases e' : i = j
    · subst e'
      have : o = x := by rw [hj.1] at hi; cases hi; rfl
      subst this
      exact hd e he hb
    · rw [getD_set_ne false (Ne.symm e')] at hli
      exact hl.closed i o hi hli e he hb

theorem wpAny_drun {K : St → Prop} {Q : Exit → Act → World → Prop} (hX : FxOk P X) (hcall : CallOk P callK) (hK : CtrBy X callK) (hs : Stat all ms)
    (hQ : ∀ ρ' s' a' w', Ok w0 ρ' s' a' w' → K s' → Q .normal a' w') :
    ∀ (fuel : Nat) (listed : Array Bool) (rest : List (Nat × Oper)) (acc : List Rec) (s : St) (ρ : Nat → Value) (a : Act) (w : World), Listed all listed rest → rest.length ≤ fuel →
      drunR X f nb all ms rest acc s K → Ok w0 ρ s a w → wpAny P .any all.toArray Q fuel listed a w := by
  have ready_mem : ∀ {listed : Array Bool} {rest : List (Nat × Oper)}, Listed all listed rest → ∀ i, i ∈ Region.ready .any all.toArray listed →
      ∃ x, (i, x) ∈ rest ∧ ∀ e ∈ x.after, Region.binds .any e = true → listed.getD e.on false = true := fun hl i hi => by
    obtain ⟨h0, x, hx, he⟩ := mem_ready.1 hi
    exact ⟨x, (hl.mem i x).2 ⟨by simpa using hx, h0⟩, he⟩
  have empty : ∀ {listed : Array Bool} {rest : List (Nat × Oper)}, Listed all listed rest → Region.ready .any all.toArray listed = [] → rest = [] := fun {listed} {rest} hl hr => by
    cases rest with
    | nil => rfl
    | cons ix r =>
      exfalso
      obtain ⟨i, x⟩ := ix
      have hi := (hl.mem i x).1 (by simp)
      have : i ∈ Region.ready .any all.toArray listed := mem_ready.2 ⟨hi.2, x, by simpa using hi.1, fun e he hb => by
        have hlt := hs.after i x hi.1 e he hb
        have hlt' : e.on < all.length := Nat.lt_trans hlt (lt_of_get hi.1)
        have hsz : e.on < listed.size := by rw [hl.size]; exact hlt'
        cases hb' : listed.getD e.on false with
        | true => rfl
        | false =>
          have hm := (hl.mem e.on all[e.on]).2 ⟨List.getElem?_eq_getElem hlt', by rw [getD_flip hsz]; exact hb'⟩
          rcases List.mem_cons.1 hm with h | h
          · have : e.on = i := congrArg (·.1) h
            omega
          · have := (List.pairwise_cons.1 hl.sorted).1 _ h
            have : i < e.on := this
            omega⟩
      rw [hr] at this; cases this
  intro fuel
  induction fuel with
  | zero =>
    intro listed rest acc s ρ a w hl hf h hok
    have : rest = [] := List.eq_nil_of_length_eq_zero (by omega)
    subst this
    refine ⟨?_, hQ ρ s a w hok h⟩
    cases hr : Region.ready .any all.toArray listed with
    | nil => rfl
    | cons i r =>
      obtain ⟨x, hx, _⟩ := ready_mem hl i (by rw [hr]; simp)
      cases hx
  | succ fuel ih =>
    intro listed rest acc s ρ a w hl hf h hok
    refine ⟨fun hr => ?_, fun j hj => ?_⟩
    · have := empty hl hr
      subst this
      exact hQ ρ s a w hok h
    · obtain ⟨x, hx, hd⟩ := ready_mem hl j hj
      obtain ⟨l1, l2, rfl⟩ := List.append_of_mem hx
      have hjx := (hl.mem j x).1 hx
      have hpw := hl.sorted
      rw [List.pairwise_append] at hpw
      have hap : ∀ e ∈ l1, sapart all e.2 x = true ∧ ord ms j e.1 = false ∧ ord ms e.1 j = false := by
        rintro ⟨i, y⟩ he
        have hij : i < j := hpw.2.2 _ he (j, x) (by simp)
        have hiy := (hl.mem i y).1 (by simp [he])
        have hsz : i < listed.size := by rw [hl.size]; exact lt_of_get hiy.1
        have hbit : Nat.testBit (mget ms j) i = false := by
          cases hb : Nat.testBit (mget ms j) i with
          | false => rfl
          | true =>
            have := anc_listed hs hl j i x y hjx.1 hiy.1 hij hd hb
            rw [← getD_flip hsz, hiy.2] at this
            cases this
        have h1 : Nat.blt i j = true := by simpa using hij
        have h2 : Nat.blt j i = false := by
          cases hb : Nat.blt j i with
          | false => rfl
          | true =>
            have : j < i := by simpa using hb
            omega
        exact ⟨hs.apart i j x y hjx.1 hiy.1 hij hbit, by simp only [ord, h2, cond_false]; exact hbit, by simp only [ord, h1, cond_true]; exact hbit⟩
      obtain ⟨p, t, F, W, e1, _, e3, e4⟩ := bubble hap h
      refine dstep_sound hX hcall hK hjx.1 hok e1 e3 fun ρ' a' w' hok' => ?_
      refine ih _ _ _ _ ρ' a' w' (listed_next hl hd) ?_ e4 hok'
      simp only [List.length_append, List.length_cons] at hf ⊢
      omega

theorem drawn_sound {id : Nat} {os : Array Oper} {s : St} {K : St → Prop} {Q : Exit → Act → World → Prop} (hX : FxOk P X) (hcall : CallOk P callK) (hK : CtrBy X callK)
    (hQ : ∀ ρ' s' a' w', Ok w0 ρ' s' a' w' → K s' → Q .normal a' w') (h : drawn X f os.toList s K) (hok : Ok w0 ρ s a w) : (Code.region id os true).wp P Q a w := by
  refine wp_region_any hX.mixed ?_
  unfold drawn at h
  simp only [] at h
  generalize masks os.toList [] = ms at h
  cases hst : statOk os.toList ms (numbered 0 os.toList) (numbered 0 os.toList) with
  | false => rw [hst] at h; exact h.elim
  | true =>
    rw [hst] at h
    simp only [cond_true] at h
    have hok1 : Ok w0 ρ { s with nx := s.nx + os.toList.length } a { w with drawn := w.drawn + 1 } := by
      have : Ok w0 ρ { s with nx := s.nx + os.toList.length } a w := { hok with }
      exact this.more (More.drew w)
    have hl : Listed os.toList (Array.replicate os.size false) (numbered 0 os.toList) := by
      refine ⟨by simp, fun i o => ?_, numbered_sorted, fun i o hi hli => ?_⟩
      · rw [numbered_get]
        simp only [Nat.zero_le, Nat.sub_zero, true_and]
        constructor
        · intro h
          have := lt_of_get h
          refine ⟨h, ?_⟩
          have hlt : i < os.size := by simpa using this
          simp [hlt]
        · exact fun h => h.1
      · exfalso
        have := lt_of_get hi
        have hlt : i < os.size := by simpa using this
        simp [hlt] at hli
    have hlen : (numbered 0 os.toList).length ≤ os.size := by
      have : ∀ (l : List Oper) (n : Nat), (numbered n l).length = l.length := fun l => by
        induction l with
        | nil => intro n; rfl
        | cons x l ih => intro n; simp [numbered, ih]
      rw [this]; simp
    have := wpAny_drun (f := f) (nb := s.nx) (Q := Q) hX hcall hK (statOk_spec hst) hQ os.size _ _ [] _ ρ a _ hl hlen (drun_R _ _ _ h) hok1
    simpa using this
theorem ready_rest {listed : Array Bool} {rest : List (Nat × Oper)} (hl : Listed all listed rest) (i : Nat) (hi : i ∈ Region.ready .any all.toArray listed) :
    ∃ x, (i, x) ∈ rest ∧ ∀ e ∈ x.after, Region.binds .any e = true → listed.getD e.on false = true := by
  obtain ⟨h0, x, hx, he⟩ := mem_ready.1 hi
  exact ⟨x, (hl.mem i x).2 ⟨by simpa using hx, h0⟩, he⟩
theorem rest_empty {listed : Array Bool} {rest : List (Nat × Oper)} (hs : Stat all ms) (hl : Listed all listed rest) (hr : Region.ready .any all.toArray listed = []) : rest = [] := by
  cases rest with
  | nil => rfl
  | cons ix r =>
    exfalso
    obtain ⟨i, x⟩ := ix
    have hi := (hl.mem i x).1 (by simp)
    have : i ∈ Region.ready .any all.toArray listed := mem_ready.2 ⟨hi.2, x, by simpa using hi.1, fun e he hb => by
      have hlt := hs.after i x hi.1 e he hb
      have hlt' : e.on < all.length := Nat.lt_trans hlt (lt_of_get hi.1)
      have hsz : e.on < listed.size := by rw [hl.size]; exact hlt'
      cases hb' : listed.getD e.on false with
      | true => rfl
      | false =>
        have hm := (hl.mem e.on all[e.on]).2 ⟨List.getElem?_eq_getElem hlt', by rw [getD_flip hsz]; exact hb'⟩
        rcases List.mem_cons.1 hm with h | h
        · have : e.on = i := congrArg (·.1) h
          omega
        · have := (List.pairwise_cons.1 hl.sorted).1 _ h
          have : i < e.on := this
          omega⟩
    rw [hr] at this; cases this
theorem not_ahead {listed : Array Bool} {rest : List (Nat × Oper)} (hs : Stat all ms) (hl : Listed all listed rest) {i j : Nat} {x y : Oper} (hj : (j, x) ∈ rest) (hi : (i, y) ∈ rest) (hij : i < j)
    (hd : ∀ e ∈ x.after, Region.binds .any e = true → listed.getD e.on false = true) : Nat.testBit (mget ms j) i = false := by
  have hiy := (hl.mem i y).1 hi
  have hjx := (hl.mem j x).1 hj
  have hsz : i < listed.size := by rw [hl.size]; exact lt_of_get hiy.1
  cases hb : Nat.testBit (mget ms j) i with
  | false => rfl
  | true =>
    have := anc_listed hs hl j i x y hjx.1 hiy.1 hij hd hb
    rw [← getD_flip hsz, hiy.2] at this
    cases this
theorem wpAny_bar {K1 : St → Prop} {Q : Exit → Act → World → Prop} (hX : FxOk P X) (hcall : CallOk P callK) (hK : CtrBy X callK) (hs : Stat all ms) {p : Nat} {x : Oper} {post : List (Nat × Oper)}
    (hpost : ∀ e ∈ post, Nat.testBit (mget ms e.1) p = true)
    (next : ∀ (fuel : Nat) (listed : Array Bool) (s : St) (ρ : Nat → Value) (a : Act) (w : World), Ok w0 ρ s a w → K1 s → Listed all listed ((p, x) :: post) → post.length + 1 ≤ fuel → wpAny P .any all.toArray Q fuel listed a w) :
    ∀ (fuel : Nat) (listed : Array Bool) (pre : List (Nat × Oper)) (acc : List Rec) (s : St) (ρ : Nat → Value) (a : Act) (w : World), (∀ e ∈ pre, Nat.testBit (mget ms p) e.1 = true) →
      Listed all listed (pre ++ (p, x) :: post) → pre.length + post.length + 1 ≤ fuel → drunR X f nb all ms pre acc s K1 → Ok w0 ρ s a w → wpAny P .any all.toArray Q fuel listed a w := by
  intro fuel
  induction fuel with
  | zero => intro listed pre acc s ρ a w _ _ hf; omega
  | succ fuel ih =>
    intro listed pre acc s ρ a w hpre hl hf h hok
    cases pre with
    | nil => exact next (fuel + 1) listed s ρ a w hok h (by simpa using hl) (by simpa using hf)
    | cons e0 pre0 =>
      refine ⟨fun hr => absurd (rest_empty hs hl hr) (by simp), fun j hj => ?_⟩
      obtain ⟨y, hy, hd⟩ := ready_rest hl j hj
      have hsorted := hl.sorted
      rcases List.mem_append.1 hy with hy1 | hy1
      · obtain ⟨l1, l2, hl12⟩ := List.append_of_mem hy1
        rw [hl12] at hl h hpre hf
        have hjx := (hl.mem j y).1 (by simp)
        have hpw := hl.sorted
        rw [List.append_assoc, List.pairwise_append] at hpw
        have hap : ∀ e ∈ l1, sapart all e.2 y = true ∧ ord ms j e.1 = false ∧ ord ms e.1 j = false := by
          rintro ⟨i, z⟩ he
          have hij : i < j := hpw.2.2 _ he (j, y) (by simp)
          have hiz := (hl.mem i z).1 (by simp [he])
          have hbit := not_ahead hs hl (i := i) (j := j) (x := y) (y := z) (by simp) (by simp [he]) hij hd
          have h1 : Nat.blt i j = true := by simpa using hij
          have h2 : Nat.blt j i = false := by
            cases hb : Nat.blt j i with
            | false => rfl
            | true =>
              have : j < i := by simpa using hb
              omega
          exact ⟨hs.apart i j y z hjx.1 hiz.1 hij hbit, by simp only [ord, h2, cond_false]; exact hbit, by simp only [ord, h1, cond_true]; exact hbit⟩
        obtain ⟨q, t, F, W, e1, _, e3, e4⟩ := bubble hap h
        refine dstep_sound hX hcall hK hjx.1 hok e1 e3 fun ρ' a' w' hok' => ?_
        refine ih _ (l1 ++ l2) _ _ ρ' a' w' (fun e he => hpre e ?_) ?_ ?_ e4 hok'
        · rcases List.mem_append.1 he with he | he
          · simp [he]
          · simp [he]
        · have := listed_next (l1 := l1) (l2 := l2 ++ (p, x) :: post) (j := j) (x := y) (by simpa using hl) hd
          simpa using this
        · simp only [List.length_append, List.length_cons] at hf ⊢
          omega
      · exfalso
        rcases List.mem_cons.1 hy1 with e | hy2
        · cases e
          obtain ⟨i, z⟩ := e0
          have hlt : i < p := by
            rw [List.pairwise_append] at hsorted
            exact hsorted.2.2 (i, z) (by simp) (p, x) (by simp)
          have := not_ahead hs hl (i := i) (j := p) (x := x) (y := z) (by simp) (by simp) hlt hd
          rw [hpre (i, z) (by simp)] at this
          cases this
        · have hlt : p < j := by
            rw [List.pairwise_append] at hsorted
            exact (List.pairwise_cons.1 hsorted.2.1).1 (j, y) hy2
          have := not_ahead hs hl (i := p) (j := j) (x := y) (y := x) (by simp [hy2]) (by simp) hlt hd
          rw [hpost (j, y) hy2] at this
          cases this
theorem bar_step {Q : Exit → Act → World → Prop} (hX : FxOk P X) (hcall : CallOk P callK) {p : Nat} {x : Oper} {K2 : St → Prop} {N : Act → World → Prop} (ho' : all.toArray[p]? = some x)
    (hok : Ok w0 ρ s a w) (hop : barGo X callK f nb all (p, x) s K2) (goOn : ∀ ρ' s' a' w', Ok w0 ρ' s' a' w' → K2 s' → N a' w') : wpOp P all.toArray Q p N a w := by
  have key : (Region.wanted x (yielded all.toArray a.tmps) = true ∧ op1 X callK f s (nb + p) x K2) ∨
      (Region.wanted x (yielded all.toArray a.tmps) = false ∧ K2 (s.put x.dst (.tup []))) := by
    unfold barGo at hop
    split at hop
    · rename_i hg
      have hg : x.guard = none := hg
      exact .inl ⟨by simp [Region.wanted, hg], hop⟩
    · rename_i gj want hg
      have hg : x.guard = some (gj, want) := hg
      split at hop
      · rename_i d hdd
        have hv := hok.frame d
        split at hop
        · rename_i c hc
          rw [hc] at hv
          have hb : [a.tmps.getD d undef] = [.bool c] := SVc.one1 rfl (by simp) hv
          simp only [List.cons.injEq, and_true] at hb
          have hy := yield_bool hdd hb
          cases e : Bool.xor c want with
          | true =>
            rw [e] at hop
            exact .inr ⟨by simp only [Region.wanted, hg, hy]; cases c <;> cases want <;> (first | rfl | (cases e)), hop⟩
          | false =>
            rw [e] at hop
            exact .inl ⟨by simp only [Region.wanted, hg, hy]; cases c <;> cases want <;> (first | rfl | (cases e)), hop⟩
        · rename_i hc
          rw [hc] at hv
          obtain ⟨vs, hvs, he⟩ := hv
          have hu : a.tmps.getD d undef = undef := by
            rw [hvs]
            have he : vs.toList = [] := he
            have : vs = #[] := by simpa using he
            rw [this]; rfl
          exact .inr ⟨by simp [Region.wanted, hg, yield_none hdd hu], hop⟩
        · exact hop.elim
      · exact hop.elim
  unfold wpOp
  rw [ho']
  rcases key with ⟨hw, hop⟩ | ⟨hw, hop⟩
  · simp only [hw, if_true]
    exact .inl (op1_sound hX hcall hok hop goOn)
  · simp only [hw, Bool.false_eq_true, if_false]
    exact goOn ρ _ _ _ (hok.put x.dst sv_undef) hop
theorem allO_mem {α : Type} {f : α → Prop} : ∀ {l : List α}, allO f l → ∀ x ∈ l, f x
  | _ :: _, h, x, hx => by
    rcases List.mem_cons.1 hx with rfl | hx
    · exact h.1
    · exact allO_mem h.2 x hx
theorem allS_mem {α : Type} {f : α → Prop} : ∀ {l : List α}, allS f l → ∀ x ∈ l, f x
  | _ :: _, h, x, hx => by
    rcases List.mem_cons.1 hx with rfl | hx
    · exact h.1
    · exact allO_mem h.2 x hx
theorem okUs_mem {q : List (Nat × Oper) × List (Nat × Oper)} : ∀ {l : List (List (Nat × Oper) × List (Nat × Oper))}, q ∈ okUs ms l → ∃ q ∈ l, okSp ms q.1 q.2 = true
  | x :: r, h => by
    unfold okUs at h
    cases hx : okSp ms x.1 x.2 with
    | true => exact ⟨x, List.mem_cons_self .., hx⟩
    | false =>
      rw [hx] at h
      obtain ⟨y, h1, h2⟩ := okUs_mem h
      exact ⟨y, List.mem_cons_of_mem _ h1, h2⟩
theorem mem_okUs {q : List (Nat × Oper) × List (Nat × Oper)} (hq : okSp ms q.1 q.2 = true) : ∀ {l : List (List (Nat × Oper) × List (Nat × Oper))}, q ∈ l → q ∈ okUs ms l
  | x :: r, h => by
    unfold okUs
    rcases List.mem_cons.1 h with rfl | h
    · rw [hq]; exact List.mem_cons_self ..
    · have := mem_okUs hq h
      cases okSp ms x.1 x.2
      · exact this
      · exact List.mem_cons_of_mem _ this
theorem mem_putF {e : Nat × Oper} {q : List (Nat × Oper) × List (Nat × Oper)} : ∀ {qs : List (List (Nat × Oper) × List (Nat × Oper))}, q ∈ qs → (e :: q.1, q.2) ∈ putF e qs
  | _ :: _, h => by
    rcases List.mem_cons.1 h with rfl | h
    · exact List.mem_cons_self ..
    · exact List.mem_cons_of_mem _ (mem_putF h)
theorem mem_putB {e : Nat × Oper} {q : List (Nat × Oper) × List (Nat × Oper)} : ∀ {qs : List (List (Nat × Oper) × List (Nat × Oper))}, q ∈ qs → (q.1, e :: q.2) ∈ putB e qs
  | _ :: _, h => by
    rcases List.mem_cons.1 h with rfl | h
    · exact List.mem_cons_self ..
    · exact List.mem_cons_of_mem _ (mem_putB h)
theorem putF_mem {e : Nat × Oper} {u b : List (Nat × Oper)} : ∀ {qs : List (List (Nat × Oper) × List (Nat × Oper))}, (u, b) ∈ putF e qs → ∃ u', u = e :: u' ∧ (u', b) ∈ qs
  | q :: _, h => by
    rcases List.mem_cons.1 h with h | h
    · cases h; exact ⟨q.1, rfl, List.mem_cons_self ..⟩
    · obtain ⟨u', h1, h2⟩ := putF_mem h
      exact ⟨u', h1, List.mem_cons_of_mem _ h2⟩
theorem putB_mem {e : Nat × Oper} {u b : List (Nat × Oper)} : ∀ {qs : List (List (Nat × Oper) × List (Nat × Oper))}, (u, b) ∈ putB e qs → ∃ b', b = e :: b' ∧ (u, b') ∈ qs
  | q :: _, h => by
    rcases List.mem_cons.1 h with h | h
    · cases h; exact ⟨q.2, rfl, List.mem_cons_self ..⟩
    · obtain ⟨u', h1, h2⟩ := putB_mem h
      exact ⟨u', h1, List.mem_cons_of_mem _ h2⟩
theorem splits_cons {p : Nat} {e : Nat × Oper} {l u b : List (Nat × Oper)} (h : (u, b) ∈ splitsU ms p (e :: l)) :
    (mustA ms p e = false ∧ ∃ b', b = e :: b' ∧ (u, b') ∈ splitsU ms p l) ∨ ((mustA ms p e = true ∨ mustB ms p e = false) ∧ ∃ u', u = e :: u' ∧ (u', b) ∈ splitsU ms p l) := by
  unfold splitsU at h
  simp only [] at h
  cases ha : mustA ms p e with
  | true => rw [ha] at h; exact .inr ⟨.inl rfl, putF_mem h⟩
  | false =>
    rw [ha] at h
    cases hb : mustB ms p e with
    | true => rw [hb] at h; exact .inl ⟨rfl, putB_mem h⟩
    | false =>
      rw [hb] at h
      rcases List.mem_append.1 h with h | h
      · exact .inl ⟨rfl, putB_mem h⟩
      · exact .inr ⟨.inr rfl, putF_mem h⟩
theorem splits_behind {p : Nat} {e : Nat × Oper} {l u b : List (Nat × Oper)} (he : mustA ms p e = false) (h : (u, b) ∈ splitsU ms p l) : (u, e :: b) ∈ splitsU ms p (e :: l) := by
  have h := mem_putB (e := e) h
  show (u, e :: b) ∈ bif mustA ms p e then putF e (splitsU ms p l) else bif mustB ms p e then putB e (splitsU ms p l) else putB e (splitsU ms p l) ++ putF e (splitsU ms p l)
  rw [he]
  cases mustB ms p e
  · exact List.mem_append_left _ h
  · exact h
theorem splits_ahead {p : Nat} {e : Nat × Oper} {l u b : List (Nat × Oper)} (he : mustA ms p e = true ∨ mustB ms p e = false) (h : (u, b) ∈ splitsU ms p l) : (e :: u, b) ∈ splitsU ms p (e :: l) := by
  have h := mem_putF (e := e) h
  show (e :: u, b) ∈ bif mustA ms p e then putF e (splitsU ms p l) else bif mustB ms p e then putB e (splitsU ms p l) else putB e (splitsU ms p l) ++ putF e (splitsU ms p l)
  rcases he with he | he
  · rw [he]; exact h
  · rw [he]
    cases mustA ms p e
    · exact List.mem_append_right _ h
    · exact h
theorem splits_none {p : Nat} : ∀ {l : List (Nat × Oper)}, (∀ e ∈ l, mustA ms p e = false) → ([], l) ∈ splitsU ms p l
  | [], _ => List.mem_singleton.2 rfl
  | e :: l, h => splits_behind (h e (by simp)) (splits_none fun x hx => h x (by simp [hx]))
theorem splits_sub {p : Nat} : ∀ {l u b : List (Nat × Oper)}, (u, b) ∈ splitsU ms p l → (∀ e ∈ u, e ∈ l) ∧ ∀ e ∈ b, e ∈ l
  | [], u, b, h => by
    have := List.mem_singleton.1 h
    cases this
    exact ⟨fun _ h => h, fun _ h => h⟩
  | e :: l, u, b, h => by
    rcases splits_cons h with ⟨_, b', rfl, h'⟩ | ⟨_, u', rfl, h'⟩
    · have := splits_sub h'
      exact ⟨fun x hx => List.mem_cons_of_mem _ (this.1 x hx), fun x hx => by
        rcases List.mem_cons.1 hx with rfl | hx
        · exact List.mem_cons_self ..
        · exact List.mem_cons_of_mem _ (this.2 x hx)⟩
    · have := splits_sub h'
      exact ⟨fun x hx => by
        rcases List.mem_cons.1 hx with rfl | hx
        · exact List.mem_cons_self ..
        · exact List.mem_cons_of_mem _ (this.1 x hx), fun x hx => List.mem_cons_of_mem _ (this.2 x hx)⟩
theorem splits_insert {p : Nat} {y : Nat × Oper} (hy : mustA ms p y = true ∨ mustB ms p y = false) : ∀ {l1 l2 u b : List (Nat × Oper)}, (u, b) ∈ splitsU ms p (l1 ++ l2) →
    ∃ u1 u2, u = u1 ++ u2 ∧ (∀ e ∈ u1, e ∈ l1) ∧ (u1 ++ y :: u2, b) ∈ splitsU ms p (l1 ++ y :: l2)
  | [], l2, u, b, h => ⟨[], u, rfl, fun _ h => h, splits_ahead hy h⟩
  | e :: l1, l2, u, b, h => by
    rcases splits_cons (e := e) (l := l1 ++ l2) h with ⟨he, b', rfl, h'⟩ | ⟨he, u', rfl, h'⟩
    · obtain ⟨u1, u2, h1, h2, h3⟩ := splits_insert (l1 := l1) (l2 := l2) hy h'
      exact ⟨u1, u2, h1, fun x hx => List.mem_cons_of_mem _ (h2 x hx), splits_behind (e := e) (l := l1 ++ y :: l2) he h3⟩
    · obtain ⟨u1, u2, rfl, h2, h3⟩ := splits_insert (l1 := l1) (l2 := l2) hy h'
      exact ⟨e :: u1, u2, rfl, fun x hx => by
        rcases List.mem_cons.1 hx with rfl | hx
        · exact List.mem_cons_self ..
        · exact List.mem_cons_of_mem _ (h2 x hx), splits_ahead (e := e) (l := l1 ++ y :: l2) he h3⟩
theorem splits_remove {p : Nat} {y : Nat × Oper} : ∀ {l1 l2 u b : List (Nat × Oper)}, (u, b) ∈ splitsU ms p (l1 ++ y :: l2) → ∃ u' b', (u', b') ∈ splitsU ms p (l1 ++ l2) ∧ (∀ e ∈ u', e ∈ u) ∧ ∀ e ∈ b', e ∈ b
  | [], l2, u, b, h => by
    rcases splits_cons (e := y) (l := l2) h with ⟨_, b', rfl, h'⟩ | ⟨_, u', rfl, h'⟩
    · exact ⟨u, b', h', fun _ h => h, fun _ h => List.mem_cons_of_mem _ h⟩
    · exact ⟨u', b, h', fun _ h => List.mem_cons_of_mem _ h, fun _ h => h⟩
  | e :: l1, l2, u, b, h => by
    rcases splits_cons (e := e) (l := l1 ++ y :: l2) h with ⟨he, b', rfl, h'⟩ | ⟨he, u', rfl, h'⟩
    · obtain ⟨u2, b2, h1, h2, h3⟩ := splits_remove (l1 := l1) (l2 := l2) h'
      exact ⟨u2, e :: b2, splits_behind (e := e) (l := l1 ++ l2) he h1, h2, fun x hx => by
        rcases List.mem_cons.1 hx with rfl | hx
        · exact List.mem_cons_self ..
        · exact List.mem_cons_of_mem _ (h3 x hx)⟩
    · obtain ⟨u2, b2, h1, h2, h3⟩ := splits_remove (l1 := l1) (l2 := l2) h'
      exact ⟨e :: u2, b2, splits_ahead (e := e) (l := l1 ++ l2) he h1, fun x hx => by
        rcases List.mem_cons.1 hx with rfl | hx
        · exact List.mem_cons_self ..
        · exact List.mem_cons_of_mem _ (h2 x hx), h3⟩
theorem okSp_iff {u b : List (Nat × Oper)} : okSp ms u b = true ↔ ∀ e ∈ u, ∀ e' ∈ b, e'.1 < e.1 → Nat.testBit (mget ms e.1) e'.1 = false := by
  unfold okSp
  rw [List.all_eq_true]
  constructor
  · intro h e he e' he' hlt
    have h1 := h e he
    rw [List.all_eq_true] at h1
    have h2 := h1 e' he'
    have h3 : Nat.blt e'.1 e.1 = true := by simpa using hlt
    rw [h3] at h2
    simpa using h2
  · intro h e he
    rw [List.all_eq_true]
    intro e' he'
    cases h3 : Nat.blt e'.1 e.1 with
    | false => rfl
    | true =>
      have hlt : e'.1 < e.1 := by simpa using h3
      rw [cond_true, h e he e' he' hlt]; rfl
theorem drunR_tell {r : List (Nat × Oper)} {acc : List Rec} {s : St} {j : Nat} {y : Oper} {K : St → Prop} {pp : Option Prop} {t : St} {F W : List Nat} (e : dstep X f nb all j y s = some (pp, t, F, W))
    (h : drunR X f nb all ms ((j, y) :: r) acc s K) : drunR X f nb all ms r ((j, F, W) :: acc) t K := by
  obtain ⟨p', t', F', W', e1, _, _, e4⟩ := h
  rw [e] at e1
  cases e1
  exact e4
theorem wpAny_barU {K1 : List (Nat × Oper) → St → Prop} {Q : Exit → Act → World → Prop} (hX : FxOk P X) (hcall : CallOk P callK) (hK : CtrBy X callK) (hs : Stat all ms) {p : Nat} {x : Oper}
    (next : ∀ (m : Nat) (listed : Array Bool) (pre post : List (Nat × Oper)) (s : St) (ρ : Nat → Value) (a : Act) (w : World), Ok w0 ρ s a w → K1 (pre ++ post) s → Listed all listed (pre ++ (p, x) :: post) → pre.length + post.length ≤ m →
      (∀ e ∈ x.after, Region.binds .any e = true → listed.getD e.on false = true) → wpOp P all.toArray Q p (wpAny P .any all.toArray Q m (listed.setIfInBounds p true)) a w) :
    ∀ (fuel : Nat) (listed : Array Bool) (pre post : List (Nat × Oper)) (acc : List Rec) (s : St) (ρ : Nat → Value) (a : Act) (w : World),
      Listed all listed (pre ++ (p, x) :: post) → pre.length + post.length + 1 ≤ fuel → (∃ q ∈ splitsU ms p (pre ++ post), okSp ms q.1 q.2 = true) →
      (∀ q ∈ splitsU ms p (pre ++ post), okSp ms q.1 q.2 = true → drunR X f nb all ms q.1 acc s (K1 q.2)) → Ok w0 ρ s a w →
      wpAny P .any all.toArray Q fuel listed a w := by
  intro fuel
  induction fuel with
  | zero => intro listed pre post acc s ρ a w _ hf; omega
  | succ fuel ih =>
    intro listed pre post acc s ρ a w hl hf hex h hok
    refine ⟨fun hr => absurd (rest_empty hs hl hr) (by simp), fun j hj => ?_⟩
    obtain ⟨y, hy, hd⟩ := ready_rest hl j hj
    have hsorted := hl.sorted
    have hord := List.pairwise_append.1 hsorted
    have hord2 := List.pairwise_cons.1 hord.2.1
    have hall : ∀ {e : Nat × Oper}, e ∈ pre ++ post → e ∈ pre ++ (p, x) :: post := fun {e} he => by
      rcases List.mem_append.1 he with h | h
      · simp [h]
      · simp [h]
    have hos : (pre ++ post).Pairwise (fun a b => a.1 < b.1) := List.pairwise_append.2 ⟨hord.1, hord2.2, fun a ha b hb => hord.2.2 a ha b (by simp [hb])⟩
    have hgap : ∀ {i : Nat} {z : Oper}, (i, z) ∈ pre ++ (p, x) :: post → (j, y) ∈ pre ++ (p, x) :: post → i < j → sapart all z y = true ∧ ord ms j i = false ∧ ord ms i j = false := fun {i z} hi hjm hij => by
      have hiz := (hl.mem i z).1 hi
      have hjx := (hl.mem j y).1 hjm
      have hbit := not_ahead hs hl (i := i) (j := j) (x := y) (y := z) hjm hi hij hd
      have h1 : Nat.blt i j = true := by simpa using hij
      have h2 : Nat.blt j i = false := by
        cases hb : Nat.blt j i with
        | false => rfl
        | true =>
          have : j < i := by simpa using hb
          omega
      exact ⟨hs.apart i j y z hjx.1 hiz.1 hij hbit, by simp only [ord, h2, cond_false]; exact hbit, by simp only [ord, h1, cond_true]; exact hbit⟩
    by_cases hjp : j = p
    · subst hjp
      have hyx : y = x := by
        have h1 := ((hl.mem j y).1 hy).1
        have h2 := ((hl.mem j x).1 (by simp)).1
        rw [h1] at h2
        exact Option.some.inj h2
      subst hyx
      have hnone : ∀ e ∈ pre ++ post, mustA ms j e = false := fun e he => by
        unfold mustA
        cases hb : Nat.blt e.1 j with
        | false => rfl
        | true =>
          have hlt : e.1 < j := by simpa using hb
          rw [not_ahead hs hl (i := e.1) (j := j) (x := y) (y := e.2) (by simp) (hall he) hlt hd]; rfl
      exact next fuel listed pre post s ρ a w hok (h _ (splits_none hnone) rfl) hl (by omega) hd
    · have hyo : (j, y) ∈ pre ++ post := by
        rcases List.mem_append.1 hy with h | h
        · simp [h]
        · rcases List.mem_cons.1 h with h | h
          · cases h; exact absurd rfl hjp
          · simp [h]
      have hmust : mustA ms p (j, y) = true ∨ mustB ms p (j, y) = false := by
        refine .inr ?_
        unfold mustB
        cases hb : Nat.blt p j with
        | false => rfl
        | true =>
          have hlt : p < j := by simpa using hb
          rw [not_ahead hs hl (i := p) (j := j) (x := y) (y := x) hy (by simp) hlt hd]; rfl
      have hjx := (hl.mem j y).1 hy
      have hmv : ∀ l1 l2, pre ++ post = l1 ++ (j, y) :: l2 → ∀ q ∈ splitsU ms p (l1 ++ l2), okSp ms q.1 q.2 = true → drunR X f nb all ms ((j, y) :: q.1) acc s (K1 q.2) := fun l1 l2 hl12 q hq hqo => by
        obtain ⟨u, b⟩ := q
        obtain ⟨u1, u2, rfl, hu1, hin⟩ := splits_insert (y := (j, y)) hmust hq
        have hsub := splits_sub hq
        have hqo' : okSp ms (u1 ++ (j, y) :: u2) b = true := by
          rw [okSp_iff] at hqo ⊢
          intro e he e' he' hlt
          rcases List.mem_append.1 he with he | he
          · exact hqo e (by simp [he]) e' he' hlt
          · rcases List.mem_cons.1 he with rfl | he
            · have hz := hsub.2 _ he'
              have hzm : e' ∈ pre ++ post := by
                rw [hl12]
                rcases List.mem_append.1 hz with h | h
                · simp [h]
                · simp [h]
              exact not_ahead hs hl (i := e'.1) (j := j) (x := y) (y := e'.2) hy (hall hzm) hlt hd
            · exact hqo e (by simp [he]) e' he' hlt
        have h1 := h _ (by rw [hl12]; exact hin) hqo'
        have hp12 := hos
        rw [hl12, List.pairwise_append] at hp12
        have hap : ∀ e ∈ u1, sapart all e.2 y = true ∧ ord ms j e.1 = false ∧ ord ms e.1 j = false := by
          rintro ⟨i, z⟩ he
          have h2 := hu1 _ he
          have h3 : (i, z) ∈ pre ++ post := by rw [hl12]; simp [h2]
          exact hgap (i := i) (z := z) (hall h3) hy (hp12.2.2 _ h2 (j, y) (by simp))
        exact bubble hap h1
      have hexr : ∀ l1 l2, pre ++ post = l1 ++ (j, y) :: l2 → ∃ q ∈ splitsU ms p (l1 ++ l2), okSp ms q.1 q.2 = true := fun l1 l2 hl12 => by
        obtain ⟨⟨u, b⟩, hq, hqo⟩ := hex
        rw [hl12] at hq
        obtain ⟨u', b', h1, h2, h3⟩ := splits_remove hq
        refine ⟨(u', b'), h1, ?_⟩
        rw [okSp_iff] at hqo ⊢
        exact fun e he e' he' hlt => hqo e (h2 e he) e' (h3 e' he') hlt
      rcases List.mem_append.1 hyo with hy1 | hy1
      · obtain ⟨l1, l2, rfl⟩ := List.append_of_mem hy1
        have he12 : (l1 ++ (j, y) :: l2) ++ post = l1 ++ (j, y) :: (l2 ++ post) := by simp
        obtain ⟨q0, hq0, hqo0⟩ := hexr l1 (l2 ++ post) he12
        obtain ⟨pp, t, F, W, e1, _, e3, _⟩ := hmv l1 (l2 ++ post) he12 q0 hq0 hqo0
        refine dstep_sound hX hcall hK hjx.1 hok e1 e3 fun ρ' a' w' hok' => ?_
        refine ih _ (l1 ++ l2) post ((j, F, W) :: acc) t ρ' a' w' ?_ ?_ ?_ (fun q hq hqo => ?_) hok'
        · have := listed_next (l1 := l1) (l2 := l2 ++ (p, x) :: post) (j := j) (x := y) (by simpa using hl) hd
          simpa using this
        · simp only [List.length_append, List.length_cons] at hf ⊢
          omega
        · rw [List.append_assoc]
          exact hexr l1 (l2 ++ post) he12
        · rw [List.append_assoc] at hq
          exact drunR_tell e1 (hmv l1 (l2 ++ post) he12 q hq hqo)
      · obtain ⟨l1, l2, rfl⟩ := List.append_of_mem hy1
        have he12 : pre ++ (l1 ++ (j, y) :: l2) = (pre ++ l1) ++ (j, y) :: l2 := by simp
        obtain ⟨q0, hq0, hqo0⟩ := hexr (pre ++ l1) l2 he12
        obtain ⟨pp, t, F, W, e1, _, e3, _⟩ := hmv (pre ++ l1) l2 he12 q0 hq0 hqo0
        refine dstep_sound hX hcall hK hjx.1 hok e1 e3 fun ρ' a' w' hok' => ?_
        refine ih _ pre (l1 ++ l2) ((j, F, W) :: acc) t ρ' a' w' ?_ ?_ ?_ (fun q hq hqo => ?_) hok'
        · have := listed_next (l1 := pre ++ (p, x) :: l1) (l2 := l2) (j := j) (x := y) (by simpa using hl) hd
          simpa using this
        · simp only [List.length_append, List.length_cons] at hf ⊢
          omega
        · rw [← List.append_assoc]
          exact hexr (pre ++ l1) l2 he12
        · rw [← List.append_assoc] at hq
          exact drunR_tell e1 (hmv (pre ++ l1) l2 he12 q hq hqo)
theorem sameTmp_eq {m m' : Operand} (h : sameTmp m m' = true) : m = m' := by
  unfold sameTmp at h
  split at h
  · rw [Nat.eq_of_beq_eq_true h]
  · cases h
theorem offTmp_eval {d1 d2 : Nat} {m : Operand} {a : Act} {u v : Value} (h : offTmp d1 d2 m = true) : ((a.put (some d1) u).put (some d2) v).eval m = a.eval m := by
  have key : m ≠ .tmp d1 ∧ m ≠ .tmp d2 := by
    constructor
    · rintro rfl
      simp [offTmp] at h
    · rintro rfl
      simp [offTmp] at h
  rw [Act.eval_put (fun d hd => by cases hd; exact key.2), Act.eval_put (fun d hd => by cases hd; exact key.1)]
theorem fuseM_spec {pre post : List (Nat × Oper)} {e : Nat × Oper} {t : TypeId} {m k v : Operand} {d1 d2 : Nat} (h : fuseM ms pre e post = some (t, m, k, v, d1, d2)) :
    ∃ x y : Nat × Oper, post = [x, y] ∧ (e.2.op = .mapEntry t m k ∧ e.2.dst = some d1 ∧ e.2.guard = none) ∧ (x.2.op = .extract (.tmp d1) 1 ∧ x.2.dst = some d2 ∧ x.2.guard = none) ∧
      (y.2.op = .entryStore t m (.tmp d2) v ∧ y.2.dst = none ∧ y.2.guard = none) ∧ (offTmp d1 d2 m = true ∧ offTmp d1 d2 v = true) ∧ d1 ≠ d2 ∧
      (∀ q ∈ pre, Nat.testBit (mget ms e.1) q.1 = true) ∧ Nat.testBit (mget ms x.1) e.1 = true ∧ Nat.testBit (mget ms y.1) e.1 = true ∧ Nat.testBit (mget ms y.1) x.1 = true := by
  unfold fuseM at h
  split at h
  · rename_i x y
    split at h
    · rename_i t0 m0 k0 d10 d1' d20 t' m' d2' v0 h1 h2 h3 h4 h5 h6 h7 h8 h9
      rw [Bool.cond_eq_ite] at h
      split at h
      · rename_i hc
        simp only [Bool.and_eq_true, Bool.not_eq_true', List.all_eq_true] at hc
        obtain ⟨⟨c1, c2⟩, ⟨c3, c4⟩, ⟨c5, c6⟩, c7, c8, c9, c10, c11⟩ := hc
        have c1 := Nat.eq_of_beq_eq_true c1
        have c2 := Nat.eq_of_beq_eq_true c2
        have c3 := Nat.eq_of_beq_eq_true c3
        have c4 := sameTmp_eq c4
        subst c1; subst c2; subst c3; subst c4
        simp only [Option.some.injEq, Prod.mk.injEq] at h
        obtain ⟨rfl, rfl, rfl, rfl, rfl, rfl⟩ := h
        exact ⟨x, y, rfl, ⟨h1, h2, h3⟩, ⟨h4, h5, h6⟩, ⟨h7, h8, h9⟩, ⟨c5, c6⟩, fun e => (by rw [e, Nat.beq_refl] at c7; cases c7), c8, c9, c10, c11⟩
      · cases h
    · cases h
  · cases h
theorem only_first (hs : Stat all ms) {listed : Array Bool} {e : Nat × Oper} {rest : List (Nat × Oper)} (hl : Listed all listed (e :: rest)) (hb : ∀ r ∈ rest, Nat.testBit (mget ms r.1) e.1 = true) {j : Nat}
    (hj : j ∈ Region.ready .any all.toArray listed) : j = e.1 ∧ ∀ d ∈ e.2.after, Region.binds .any d = true → listed.getD d.on false = true := by
  obtain ⟨z, hz, hdz⟩ := ready_rest hl j hj
  rcases List.mem_cons.1 hz with h | h
  · subst h
    exact ⟨rfl, hdz⟩
  · exfalso
    have hlt : e.1 < j := (List.pairwise_cons.1 hl.sorted).1 (j, z) h
    have := not_ahead hs hl (i := e.1) (j := j) (x := z) (y := e.2) (by simp [h]) (by simp) hlt hdz
    rw [hb (j, z) h] at this
    cases this
theorem mapSet_steps {K : St → Prop} {Q : Exit → Act → World → Prop} (hX : FxOk P X) (hs : Stat all ms) (hQ : ∀ ρ' s' a' w', Ok w0 ρ' s' a' w' → K s' → Q .normal a' w')
    {e x y : Nat × Oper} {t : TypeId} {m k v : Operand} {d1 d2 : Nat}
    (he : e.2.op = .mapEntry t m k ∧ e.2.dst = some d1 ∧ e.2.guard = none) (hx : x.2.op = .extract (.tmp d1) 1 ∧ x.2.dst = some d2 ∧ x.2.guard = none) (hy : y.2.op = .entryStore t m (.tmp d2) v ∧ y.2.dst = none ∧ y.2.guard = none)
    (ho : offTmp d1 d2 m = true ∧ offTmp d1 d2 v = true) (hd : d1 ≠ d2) (hxe : Nat.testBit (mget ms x.1) e.1 = true) (hye : Nat.testBit (mget ms y.1) e.1 = true) (hyx : Nat.testBit (mget ms y.1) x.1 = true)
    {fuel : Nat} {listed : Array Bool} {s : St} {ρ : Nat → Value} {a : Act} {w : World} (hok : Ok w0 ρ s a w) (hk : mapSet X.E t m k v d1 d2 s K) (hl : Listed all listed [e, x, y]) (hf : 3 ≤ fuel) : wpAny P .any all.toArray Q fuel listed a w := by
  obtain ⟨n, rfl⟩ : ∃ n, fuel = n + 3 := ⟨fuel - 3, by omega⟩
  unfold mapSet at hk
  cases hlen : (Nat.blt d1 s.fr.length && Nat.blt d2 s.fr.length) with
  | false => rw [hlen] at hk; exact hk.elim
  | true =>
  rw [hlen] at hk
  simp only [Bool.not_true, cond_false] at hk
  simp only [Bool.and_eq_true] at hlen
  have hd1 : d1 < a.tmps.size := by rw [← hok.len]; simpa using hlen.1
  have hd2 : d2 < a.tmps.size := by rw [← hok.len]; simpa using hlen.2
  split at hk
  rotate_left
  · exact hk.elim
  rename_i nm hm
  split at hk
  rotate_left
  · exact hk.elim
  rename_i q hmo
  obtain ⟨kk, ⟨u, xs⟩⟩ := q
  have hk2 : ∃ p s', insertS X.E s t (ev s m) (ev s k) (ev s v) = some (p, s') ∧ K ((s'.put (some d1) (.one .any)).put (some d2) (.one .any)) := by
    split at hk
    · rename_i s' hi; exact ⟨none, s', hi, hk⟩
    · rename_i p s' hi; exact ⟨some p, s', hi, hk.2⟩
    · exact hk.elim
  obtain ⟨p, s', hi, hK⟩ := hk2
  obtain ⟨v0, st, w1, w2, ρ', r1, r2, hok2⟩ := mapset_run hX.env hok hmo hm hi
  have hee := (hl.mem e.1 e.2).1 (by simp)
  refine ⟨fun hr => absurd (rest_empty hs hl hr) (by simp), fun j hj => ?_⟩
  obtain ⟨rfl, hde⟩ := only_first hs hl (fun r hr => by
    rcases List.mem_cons.1 hr with rfl | hr
    · exact hxe
    · rw [List.mem_singleton.1 hr]; exact hye) hj
  have hl1 : Listed all (listed.setIfInBounds e.1 true) [x, y] := listed_next (l1 := []) (l2 := [x, y]) (j := e.1) (x := e.2) hl hde
  have he' : all.toArray[e.1]? = some e.2 := by simpa using hee.1
  unfold wpOp
  rw [he']
  simp only [Region.wanted, he.2.2, if_true]
  refine .inl (Does.wp (.inl ⟨.tuple #[v0, goInt st], w1, by simp only [execOp, he.1, Sem.run_bind, r1, Result.andThen_ok, Sem.run_pure], ?_⟩))
  rw [he.2.1]
  have hxx := (hl1.mem x.1 x.2).1 (by simp)
  refine ⟨fun hr => absurd (rest_empty hs hl1 hr) (by simp), fun j hj => ?_⟩
  obtain ⟨rfl, hdx⟩ := only_first hs hl1 (fun r hr => by rw [List.mem_singleton.1 hr]; exact hyx) hj
  have hl2 : Listed all ((listed.setIfInBounds e.1 true).setIfInBounds x.1 true) [y] := listed_next (l1 := []) (l2 := [y]) (j := x.1) (x := x.2) hl1 hdx
  have hx' : all.toArray[x.1]? = some x.2 := by simpa using hxx.1
  unfold wpOp
  rw [hx']
  simp only [Region.wanted, hx.2.2, if_true]
  have hev : (a.put (some d1) (.tuple #[v0, goInt st])).eval (.tmp d1) = .tuple #[v0, goInt st] := by
    simp [Act.put, Act.eval, hd1]
  refine .inl (Does.wp (.inl ⟨goInt st, w1, by simp [execOp, hx.1, Sem.run_bind, hev, Instr.extract], ?_⟩))
  rw [hx.2.1]
  have hyy := (hl2.mem y.1 y.2).1 (by simp)
  refine ⟨fun hr => absurd (rest_empty hs hl2 hr) (by simp), fun j hj => ?_⟩
  obtain ⟨rfl, hdy⟩ := only_first hs hl2 (fun r hr => by cases hr) hj
  have hl3 : Listed all (((listed.setIfInBounds e.1 true).setIfInBounds x.1 true).setIfInBounds y.1 true) [] := listed_next (l1 := []) (l2 := []) (j := y.1) (x := y.2) hl2 hdy
  have hy' : all.toArray[y.1]? = some y.2 := by simpa using hyy.1
  unfold wpOp
  rw [hy']
  simp only [Region.wanted, hy.2.2, if_true]
  have hev2 : ((a.put (some d1) (.tuple #[v0, goInt st])).put (some d2) (goInt st)).eval (.tmp d2) = goInt st := by
    simp [Act.put, Act.eval, hd2]
  refine .inl (Does.wp (.inr ⟨w2, by simp only [execOp, hy.1, Sem.run_bind, hev2, offTmp_eval ho.1, offTmp_eval ho.2, r2, Result.andThen_ok, Sem.run_pure], ?_⟩))
  rw [hy.2.1]
  have hr : Region.ready .any all.toArray (((listed.setIfInBounds e.1 true).setIfInBounds x.1 true).setIfInBounds y.1 true) = [] := by
    cases h : Region.ready .any all.toArray (((listed.setIfInBounds e.1 true).setIfInBounds x.1 true).setIfInBounds y.1 true) with
    | nil => rfl
    | cons i r =>
      obtain ⟨z, hz, _⟩ := ready_rest hl3 i (by rw [h]; simp)
      cases hz
  exact wpAny_done hr (hQ ρ' _ _ _ ((hok2.put (some d1) (SVc_any _)).put (some d2) (SVc_any _)) hK) n
theorem splitBar_spec {bp : Oper → Bool} : ∀ {l a b : List (Nat × Oper)} {e : Nat × Oper}, splitBar bp l = (a, some (e, b)) → l = a ++ e :: b
  | [], _, _, _, h => by cases h
  | q :: r, a, b, e, h => by
    unfold splitBar at h
    cases hq : bp q.2 with
    | true => rw [hq] at h; cases h; rfl
    | false =>
      rw [hq] at h
      simp only [cond_false] at h
      generalize hr : splitBar bp r = u at h
      obtain ⟨a', b'⟩ := u
      simp only [Prod.mk.injEq] at h
      obtain ⟨rfl, rfl⟩ := h
      rw [splitBar_spec hr]; rfl
theorem wpAny_drunB {K : St → Prop} {Q : Exit → Act → World → Prop} (hX : FxOk P X) (hcall : CallOk P callK) (hK : CtrBy X callK) (hs : Stat all ms)
    (hQ : ∀ ρ' s' a' w', Ok w0 ρ' s' a' w' → K s' → Q .normal a' w') :
    ∀ (n fuel : Nat) (listed : Array Bool) (rest : List (Nat × Oper)) (s : St) (ρ : Nat → Value) (a : Act) (w : World), Listed all listed rest → rest.length ≤ fuel →
      drunB X callK f nb all ms n rest s K → Ok w0 ρ s a w → wpAny P .any all.toArray Q fuel listed a w := by
  intro n
  induction n with
  | zero => exact fun fuel listed rest s ρ a w hl hf h hok => wpAny_drun (f := f) (nb := nb) hX hcall hK hs hQ fuel listed rest [] s ρ a w hl hf (drun_R _ _ _ h) hok
  | succ n ih =>
    intro fuel listed rest s ρ a w hl hf h hok
    unfold drunB at h
    split at h
    · rename_i pre e post hsp
      have hrest := splitBar_spec hsp
      obtain ⟨p, x⟩ := e
      split at h
      · rename_i t m k v d1 d2 hfu
        subst hrest
        obtain ⟨x', y', rfl, q1, q2, q3, q4, q5, q6, q7, q8, q9⟩ := fuseM_spec hfu
        refine wpAny_bar (K1 := fun s1 => mapSet X.E t m k v d1 d2 s1 K) (f := f) (nb := nb) hX hcall hK hs (fun e he => ?_) (fun fuel listed s ρ a w hok hk hl hf => mapSet_steps hX hs hQ q1 q2 q3 q4 q5 q7 q8 q9 hok hk hl (by simpa using hf)) fuel listed pre [] s ρ a w q6 hl ?_ (drun_R _ _ _ h) hok
        · rcases List.mem_cons.1 he with rfl | he
          · exact q7
          · rw [List.mem_singleton.1 he]; exact q8
        · simp only [List.length_append, List.length_cons] at hf ⊢
          omega
      cases hb : barOk ms pre post p with
      | false =>
        rw [hb] at h
        simp only [cond_false] at h
        subst hrest
        have hne : ∃ q ∈ splitsU ms p (pre ++ post), okSp ms q.1 q.2 = true := by
          cases hu : okUs ms (splitsU ms p (pre ++ post)) with
          | nil => rw [hu] at h; exact h.elim
          | cons q r => exact okUs_mem (by rw [hu]; exact List.mem_cons_self ..)
        refine wpAny_barU (K1 := fun b s1 => barGo X callK f nb all (p, x) s1 (fun s2 => drunB X callK f nb all ms n b s2 K)) (f := f) (nb := nb) hX hcall hK hs ?_ fuel listed pre post [] s ρ a w hl ?_ hne (fun q hq hqo => ?_) hok
        · intro m listed pre post s ρ a w hok hop hl hf hd
          have hjx := (hl.mem p x).1 (by simp)
          have ho' : all.toArray[p]? = some x := by simpa using hjx.1
          exact bar_step hX hcall ho' hok hop fun ρ' s' a' w' hok' hK' =>
            ih m _ (pre ++ post) s' ρ' a' w' (listed_next (l1 := pre) hl hd) (by simpa using hf) hK' hok'
        · simp only [List.length_append, List.length_cons] at hf
          omega
        · exact drun_R _ _ _ (allS_mem h q (mem_okUs hqo hq))
      | true =>
        rw [hb] at h
        simp only [cond_true] at h
        simp only [Bool.and_eq_true, barOk, List.all_eq_true] at hb
        subst hrest
        refine wpAny_bar (K1 := fun s1 => barGo X callK f nb all (p, x) s1 (fun s2 => drunB X callK f nb all ms n post s2 K)) (f := f) (nb := nb) hX hcall hK hs (fun e he => hb.2 e he) ?_ fuel listed pre [] s ρ a w (fun e he => hb.1 e he) hl ?_ (drun_R _ _ _ h) hok
        · intro fuel listed s ρ a w hok hop hl hf
          obtain ⟨m, rfl⟩ : ∃ m, fuel = m + 1 := ⟨fuel - 1, by omega⟩
          refine ⟨fun hr => absurd (rest_empty hs hl hr) (by simp), fun j hj => ?_⟩
          obtain ⟨y, hy, hd⟩ := ready_rest hl j hj
          rcases List.mem_cons.1 hy with e | hy2
          · cases e
            have hjx := (hl.mem p x).1 (by simp)
            have ho' : all.toArray[p]? = some x := by simpa using hjx.1
            exact bar_step hX hcall ho' hok hop fun ρ' s' a' w' hok' hK' =>
              ih m _ post s' ρ' a' w' (by simpa using listed_next (l1 := []) (by simpa using hl) hd) (by omega) hK' hok'
          · exfalso
            have hlt : p < j := (List.pairwise_cons.1 hl.sorted).1 (j, y) hy2
            have := not_ahead hs hl (i := p) (j := j) (x := y) (y := x) (by simp [hy2]) (by simp) hlt hd
            rw [hb.2 (j, y) hy2] at this
            cases this
        · simp only [List.length_append, List.length_cons] at hf
          omega
    · exact wpAny_drun (f := f) (nb := nb) hX hcall hK hs hQ fuel listed rest [] s ρ a w hl hf (drun_R _ _ _ h) hok
theorem listed_start {os : Array Oper} : Listed os.toList (Array.replicate os.size false) (numbered 0 os.toList) := by
  refine ⟨by simp, fun i o => ?_, numbered_sorted, fun i o hi hli => ?_⟩
  · rw [numbered_get]
    simp only [Nat.zero_le, Nat.sub_zero, true_and]
    constructor
    · intro h
      have := lt_of_get h
      refine ⟨h, ?_⟩
      have hlt : i < os.size := by simpa using this
      simp [hlt]
    · exact fun h => h.1
  · exfalso
    have := lt_of_get hi
    have hlt : i < os.size := by simpa using this
    simp [hlt] at hli
theorem numbered_length : ∀ (l : List Oper) (n : Nat), (numbered n l).length = l.length
  | [], _ => rfl
  | _ :: l, n => by simp [numbered, numbered_length l]
theorem hoistV_yields {E : Env} {s : St} {p : Option Prop} {v : SV} {ops : Array Oper} {o : Oper} {w : World} (hE : EnvOk P E) (h : Ok w0 ρ s a w) (hs : hoistV E s o = some (p, v)) (hp : vcP p) :
    ∃ u, Yields P ops o u a ∧ SVc (cx w0 ρ s w) v u := by
  unfold hoistV at hs
  split at hs
  · rename_i x ho hg
    simp only [Option.some.injEq, Prod.mk.injEq] at hs
    obtain ⟨_, rfl⟩ := hs
    exact ⟨a.eval x, .inl ⟨by simp [Region.wanted, hg], fun w => by simp [execOp, ho]⟩, h.ev x⟩
  · rename_i x ho hg
    have hx := h.ev x
    split at hs
    · rename_i k off e
      simp only [Option.some.injEq, Prod.mk.injEq] at hs
      obtain ⟨_, rfl⟩ := hs
      rw [e] at hx
      obtain ⟨hu, b, hb, hl⟩ := SVc.one1 rfl (by simp) hx
      simp only [List.cons.injEq, and_true] at hl
      exact ⟨a.eval x, .inl ⟨by simp [Region.wanted, hg], fun w => by simp [execOp, ho, hl]⟩, hx⟩
    · rename_i e
      simp only [Option.some.injEq, Prod.mk.injEq] at hs
      obtain ⟨_, rfl⟩ := hs
      rw [e] at hx
      obtain ⟨hu, _, b, hb, hl⟩ := SVc.one1 rfl (by simp) hx
      simp only [List.cons.injEq, and_true] at hl
      exact ⟨a.eval x, .inl ⟨by simp [Region.wanted, hg], fun w => by simp [execOp, ho, hl]⟩, hx⟩
    · cases hs
  · rename_i t x i ho hg
    split at hs
    · rename_i fo fi hf
      cases hz : Nat.beq fi.size 0 with
      | true => rw [hz] at hs; cases hs
      | false =>
        rw [hz] at hs
        simp only [cond_false] at hs
        have hz' : fi.size ≠ 0 := fun e => by rw [e] at hz; cases hz
        have hx := h.ev x
        split at hs
        · rename_i k off e
          simp only [Option.some.injEq, Prod.mk.injEq] at hs
          obtain ⟨_, rfl⟩ := hs
          rw [e] at hx
          obtain ⟨hu, b, hb, hl⟩ := SVc.one1 rfl (by simp) hx
          simp only [List.cons.injEq, and_true] at hl
          refine ⟨_, .inl ⟨by simp [Region.wanted, hg], fun w => ?_⟩, SVc.of1 (p := .ptr k (off + fo)) rfl ⟨hu, b, hb, rfl⟩⟩
          have hrun := fieldAt_run (w := w) hE hf hz'
          simp only [execOp, ho, Sem.run_bind, hl, hrun, Result.andThen_ok, Sem.run_pure]
        · cases hs
    · cases hs
  · rename_i t x y t' ho hg
    split at hs
    · rename_i k m k' n hx hy
      have ex := asInt_c (h.ev x) hx
      have ey := asInt_c (h.ev y) hy
      split at hs
      · rename_i hk
        subst hk
        split at hs
        · rename_i q r hr
          simp only [Option.some.injEq, Prod.mk.injEq] at hs
          obtain ⟨rfl, rfl⟩ := hs
          refine ⟨_, .inl ⟨by simp [Region.wanted, hg], fun w => ?_⟩, sv_int (arith_in (asInt_ir (h.ev x) hx) (asInt_ir (h.ev y) hy) hr hp)⟩
          rw [exec_bin ho, ex, ey]
          simp only [Sem.run_bind, run_eqGuard_int, Result.andThen_ok, arith_run (asInt_ir (h.ev x) hx) hr hp, Sem.run_pure]
        · cases hs
      · cases hs
    · cases hs
  · cases hs
theorem hoist_sound {K : List (Nat × Oper) → St → Prop} {Q : Exit → Act → World → Prop} (hE : EnvOk P X.E) (hQ : ∀ c a w, ¬ Q (.panic c) a w) (w : World)
    (hn : ∀ (fuel : Nat) (listed : Array Bool) (rest : List (Nat × Oper)) (s : St) (ρ : Nat → Value) (a : Act), Listed all listed rest → rest.length ≤ fuel → K rest s → Ok w0 ρ s a w → wpAny P .any all.toArray Q fuel listed a w) :
    ∀ (l pre : List (Nat × Oper)) (fuel : Nat) (listed : Array Bool) (s : St) (ρ : Nat → Value) (a : Act), Listed all listed (pre ++ l) → (pre ++ l).length ≤ fuel → hoistGo X f all pre l listed s K → Ok w0 ρ s a w →
      wpAny P .any all.toArray Q fuel listed a w
  | [], pre, fuel, listed, s, ρ, a, hl, hf, h, hok => hn fuel listed pre s ρ a (by simpa using hl) (by simpa using hf) h hok
  | (i, o) :: l, pre, fuel, listed, s, ρ, a, hl, hf, h, hok => by
    unfold hoistGo at h
    cases hm : wrO (X.wr f) 27000000 o.dst with
    | false =>
      rw [hm] at h
      exact hoist_sound hE hQ w hn l (pre ++ [(i, o)]) fuel listed s ρ a (by simpa using hl) (by simpa using hf) h hok
    | true =>
      rw [hm] at h
      simp only [cond_true] at h
      split at h
      · rename_i p v hx
        cases ho : hoistOk all listed i o with
        | false => rw [ho] at h; exact h.elim
        | true =>
          rw [ho] at h
          simp only [cond_true] at h
          simp only [hoistOk, Bool.and_eq_true, List.all_eq_true] at ho
          obtain ⟨hb, hsel, hfree⟩ := ho
          have hjx := (hl.mem i o).1 (by simp)
          have hi : all.toArray[i]? = some o := by simpa using hjx.1
          have hnb : ∀ e ∈ o.after, Region.binds .any e = true → listed.getD e.on false = true := fun e he hbe => by
            have := hb e (by simpa using he)
            simpa [hbe] using this
          have hr : (Region.ready .any all.toArray listed).contains i = true := by
            have : i ∈ Region.ready .any all.toArray listed := mem_ready.2 ⟨hjx.2, o, hi, hnb⟩
            simpa using this
          have hlen : (pre ++ (i, o) :: l).length = (pre ++ l).length + 1 := by simp; omega
          obtain ⟨m, rfl⟩ : ∃ m, fuel = m + 1 := ⟨fuel - 1, by omega⟩
          have hp : vcP p ∧ hoistGo X f all pre l (listed.setIfInBounds i true) (s.put o.dst v) K := by
            cases p with
            | none => exact ⟨trivial, h⟩
            | some q => exact h
          obtain ⟨u, hy, hv⟩ := hoistV_yields (ops := all.toArray) hE hok hx hp.1
          refine wpAny_take hi hsel hfree hr (fun c a w hq => absurd hq (hQ _ _ _)) hy ?_
          exact hoist_sound hE hQ w hn l pre m _ _ ρ _ (listed_next hl hnb) (by omega) hp.2 (hok.put o.dst hv)
      · exact h.elim
theorem drawnB_sound {id : Nat} {os : Array Oper} {s : St} {K : St → Prop} {Q : Exit → Act → World → Prop} (hX : FxOk P X) (hcall : CallOk P callK) (hK : CtrBy X callK)
    (hQ : ∀ ρ' s' a' w', Ok w0 ρ' s' a' w' → K s' → Q .normal a' w') (h : drawnB X callK f os.toList s K) (hok : Ok w0 ρ s a w) : (Code.region id os true).wp P Q a w := by
  refine wp_mono (Q := fun e a w => e = .normal ∧ Q .normal a w) ?_ (fun e a w hq => by rw [hq.1]; exact hq.2)
  refine wp_region_any hX.mixed ?_
  unfold drawnB at h
  simp only [] at h
  generalize masks os.toList [] = ms at h
  cases hst : statOk os.toList ms (numbered 0 os.toList) (numbered 0 os.toList) with
  | false => rw [hst] at h; exact h.elim
  | true =>
    rw [hst] at h
    simp only [cond_true] at h
    have hok1 : Ok w0 ρ { s with nx := s.nx + os.toList.length } a { w with drawn := w.drawn + 1 } := by
      have : Ok w0 ρ { s with nx := s.nx + os.toList.length } a w := { hok with }
      exact this.more (More.drew w)
    have hlst : Listed os.toList (Array.replicate os.toList.length false) ([] ++ numbered 0 os.toList) := by simpa using listed_start (os := os)
    have := hoist_sound (P := P) (X := X) (f := f) (all := os.toList) (Q := fun e a w => e = .normal ∧ Q .normal a w) hX.env (fun c a w hq => by cases hq.1) { w with drawn := w.drawn + 1 }
      (fun fuel listed rest s1 ρ1 a1 hl hf hk hok => wpAny_drunB (f := f) (nb := s.nx) hX hcall hK (statOk_spec hst) (fun ρ' s' a' w' ho hk => ⟨rfl, hQ ρ' s' a' w' ho hk⟩) os.toList.length fuel listed rest s1 ρ1 a1 _ hl hf hk hok)
      (numbered 0 os.toList) [] os.size _ _ ρ a hlst (by simp [numbered_length]) h hok1
    simpa using this
end
end Go.Sx
/-
  Sx, part Q: invariants: a state that is one of an invariant's.
-/
namespace Go.Sx
open Go.RowKit

section
variable {w0 : Base} {w : World} {ρ : Nat → Value} {s s' : St} {a : Act}

theorem nilSlots_ok : ∀ (sl : List (Nat × SV)) (j : Nat) (s : St) (ρ : Nat → Value), Ok w0 ρ s a w → ∀ v : Inv, ∃ ρ1, Ok w0 ρ1 (nilSlots s v j sl) a w
  | [], j, s, ρ, h, v => ⟨ρ, h⟩
  | (d, x) :: r, j, s, ρ, h, v => by
    have key : ∀ t, lget s.fr d = .one (.con (.slice none 0 0)) → s.us j = false → ∃ ρ1, Ok w0 ρ1 ((s.new j (.row t [])).put (some d) (.one (.row j))) a w := fun t hl hu => by
      have hok := h.new (he := .row t []) (v := .slice none 0 0) hu (More.refl w) (fun b e => by cases e) (.inl ⟨rset_same _ _ _, rfl⟩)
      have e3 : rset ρ j (.slice none 0 0) j = .slice none 0 0 := rset_same _ _ _
      have hv := h.frame d
      rw [hl] at hv
      obtain ⟨h1, _⟩ := SVc.one1 rfl (by simp) hv
      simp only [List.cons.injEq, and_true] at h1
      refine ⟨_, hok.tell d (v := .one (.row j)) (SVc.of1 (p := .row j) rfl ⟨uset_same _ _, ?_, ?_⟩)⟩
      · show [_] = [rset ρ j _ j]
        rw [e3, h1]
      · show (rset ρ j _ j).oneCell' = true
        rw [e3]; rfl
    unfold nilSlots
    cases x with
    | one p =>
      cases p with
      | row k =>
        simp only []
        split
        · rename_i t xs hl ha
          cases hu : s.us j with
          | true => exact nilSlots_ok r (j + 1) s ρ h v
          | false =>
            obtain ⟨ρ1, h1⟩ := key t hl hu
            exact nilSlots_ok r (j + 1) _ ρ1 h1 v
        · exact nilSlots_ok r j s ρ h v
      | _ => exact nilSlots_ok r j s ρ h v
    | _ => exact nilSlots_ok r j s ρ h v

theorem PsC.repl {c : Cx} {p q : PV} (h : ∀ l, PVc c p l → PVc c q l) : ∀ {pre ps : List PV} {l : List Value}, PsC c (pre ++ (p :: ps)) l → PsC c (pre ++ (q :: ps)) l
  | [], ps, l, hp => by
    obtain ⟨a, b, e, h1, h2⟩ := hp
    exact ⟨a, b, e, h _ h1, h2⟩
  | x :: pre, ps, l, hp => by
    obtain ⟨a, b, e, h1, h2⟩ := hp
    exact ⟨a, b, e, h1, PsC.repl h h2⟩
theorem nilPs_ok (v : Inv) (k : Nat) : ∀ (ps qs pre : List PV) (j : Nat) (s : St) (ρ : Nat → Value), Ok w0 ρ s a w → s.hp k = some (.box (pre ++ ps)) → ∃ ρ1, Ok w0 ρ1 (nilPs s v k pre j ps qs) a w
  | [], _, pre, j, s, ρ, h, _ => ⟨ρ, h⟩
  | _ :: _, [], pre, j, s, ρ, h, _ => ⟨ρ, h⟩
  | p :: ps, q :: qs, pre, j, s, ρ, h, hk => by
    have step : ∃ ρ1, Ok w0 ρ1 (nilPs s v k (pre ++ [p]) j ps qs) a w := nilPs_ok v k ps qs (pre ++ [p]) j s ρ h (by rw [List.append_assoc]; exact hk)
    unfold nilPs
    split
    · rename_i n
      split
      · rename_i t xs ha
        cases hu : s.us j with
        | true => exact ⟨ρ, h⟩
        | false =>
          have hne : k ≠ j := fun e => by
            have := h.used k _ hk
            rw [e, hu] at this; cases this
          have hok := h.new (he := .row t []) (v := .slice none 0 0) hu (More.refl w) (fun b e => by cases e) (.inl ⟨rset_same _ _ _, rfl⟩)
          have e3 : rset ρ j (.slice none 0 0) j = .slice none 0 0 := rset_same _ _ _
          have hk1 : (s.new j (.row t [])).hp k = some (.box (pre ++ (.con (.slice none 0 0) :: ps))) := by
            show hset s.hp j _ k = _
            rw [hset_other _ _ hne]; exact hk
          obtain ⟨b, e, cs, h1, h2, h3⟩ := hok.heap k _ hk1
          have hle := upd_le (w' := w) (he := .box (pre ++ (.row j :: ps))) hok hk1 (fun b hb => .inl hb) (Nat.le_refl _) (fun _ _ _ => rfl)
          have hok2 := hok.upd (he := .box (pre ++ (.row j :: ps))) hk1 (fun b hb => .inl hb) (BelowS.refl _ _) (fun _ _ _ => rfl) ⟨b, e, cs, h1, h2, PsC.repl (p := .con (.slice none 0 0)) (fun l hl => by
            refine ⟨uset_same _ _, ?_, ?_⟩
            · show l = [rset ρ j _ j]
              rw [e3]; exact hl.1
            · show (rset ρ j _ j).oneCell' = true
              rw [e3]; rfl) (h3.mono hle)⟩
          obtain ⟨ρ1, h4⟩ := nilPs_ok v k ps qs (pre ++ [.row j]) (j + 1) _ _ hok2 (by rw [List.append_assoc]; exact hset_same _ _ _)
          exact ⟨ρ1, h4⟩
      · exact step
    · exact step
theorem nilHeap_ok (v : Inv) : ∀ (l : List (Nat × HE)) (j : Nat) (s : St) (ρ : Nat → Value), Ok w0 ρ s a w → ∃ ρ1, Ok w0 ρ1 (nilHeap s v j l) a w
  | [], j, s, ρ, h => ⟨ρ, h⟩
  | (k, he) :: r, j, s, ρ, h => by
    unfold nilHeap
    cases he with
    | box qs =>
      simp only []
      split
      · rename_i ps hk
        obtain ⟨ρ1, h1⟩ := nilPs_ok v k ps qs [] j s ρ h hk
        exact nilHeap_ok v r (j + qs.length) _ ρ1 h1
      · exact nilHeap_ok v r j s ρ h
    | row t xs => exact nilHeap_ok v r j s ρ h
    | clo f ps => exact nilHeap_ok v r j s ρ h
    | map kk t xs => exact nilHeap_ok v r j s ρ h
    | pmap kk xs => exact nilHeap_ok v r j s ρ h
    | mapit kk t xs q rem cur => exact nilHeap_ok v r j s ρ h
    | pool t m => exact nilHeap_ok v r j s ρ h
    | orw t xss => exact nilHeap_ok v r j s ρ h
theorem packPs_ok (k j : Nat) : ∀ (ps pre : List PV) (s : St) (ρ : Nat → Value), Ok w0 ρ s a w → s.hp k = some (.box (pre ++ ps)) → ∃ ρ1, Ok w0 ρ1 (packPs s k j pre ps) a w
  | [], pre, s, ρ, h, _ => ⟨ρ, h⟩
  | q :: post, pre, s, ρ, h, hk => by
    have step : ∃ ρ1, Ok w0 ρ1 (packPs s k j (pre ++ [q]) post) a w := packPs_ok k j post (pre ++ [q]) s ρ h (by rw [List.append_assoc]; exact hk)
    unfold packPs
    split
    · rename_i ko n i0 k0
      split
      · rename_i u xss hko
        cases hu : s.us j with
        | true => exact ⟨ρ, h⟩
        | false =>
          simp only [cond_false]
          split
          · rename_i s1 xss1 hb
            obtain ⟨b, e, cs, hρk, hheap, hps⟩ := h.heap k _ hk
            have hρk : ρ k = .pointer (some ⟨b, 0, none⟩) := hρk
            obtain ⟨hd, tl0, hcs, hp1, hp2⟩ : ∃ hd tl0, cs.toList = hd ++ tl0 ∧ PsC (cx w0 ρ s w) pre hd ∧ PsC (cx w0 ρ s w) (.orp ko n (some (i0, k0)) :: post) tl0 := by
              obtain ⟨g1, g2⟩ := hps.split
              exact ⟨_, _, (List.take_append_drop _ _).symm, g1, g2⟩
            obtain ⟨qs, tl, e2, hq, hp3⟩ := hp2
            obtain ⟨hH, hql, hq1, hown, hs1, hg0⟩ := orw_open h hko hq hb
            have hub := h.used k _ hk
            have huo := h.used ko _ hko
            obtain ⟨ys, hk0⟩ := hg0 i0 k0 rfl
            have hu0 := h.used k0 _ hk0
            have hkj : k ≠ j := fun e => by rw [e, hu] at hub; cases hub
            have hkoj : ko ≠ j := fun e => by rw [e, hu] at huo; cases huo
            have hk0j : k0 ≠ j := fun e => by rw [e, hu] at hu0; cases hu0
            have hkko : k ≠ ko := fun e => by rw [e, hko] at hk; cases hk
            have hkk0 : k ≠ k0 := fun e => by rw [e, hk0] at hk; cases hk
            have hk0o : k0 ≠ ko := fun e => by rw [e, hko] at hk0; cases hk0
            have hs1 : s1 = s.drop k0 := hs1
            subst hs1
            refine ⟨rset ρ j (.tuple qs.toArray), ?_⟩
            generalize hs' : (((s.drop k0).drop ko).new j (.orw u xss1)).upd k (.box (pre ++ (.orp j n none :: post))) = s'
            have ek : s'.hp k = some (.box (pre ++ (.orp j n none :: post))) := by rw [← hs']; exact upd_at
            have ej : s'.hp j = some (.orw u xss1) := by rw [← hs', upd_hp (fun e => hkj e.symm)]; exact new_at
            have eko : s'.hp ko = none := by rw [← hs', upd_hp (fun e => hkko e.symm), new_hp hkoj]; exact drop_at
            have ek0 : s'.hp k0 = none := by rw [← hs', upd_hp (fun e => hkk0 e.symm), new_hp hk0j, drop_hp hk0o]; exact drop_at
            have esame : ∀ n0, ¬ (n0 = k ∨ n0 = ko ∨ n0 = k0 ∨ n0 = j) → s'.hp n0 = s.hp n0 := fun n0 hn => by
              rw [← hs', upd_hp (fun e => hn (.inl e)), new_hp (fun e => hn (.inr (.inr (.inr e)))), drop_hp (fun e => hn (.inr (.inl e))), drop_hp (fun e => hn (.inr (.inr (.inl e))))]
            have eus : ∀ n0, s.us n0 = true → s'.us n0 = true := fun n0 hn => by rw [← hs']; exact uset_of hn
            have eusj : s'.us j = true := by rw [← hs']; exact uset_same _ _
            generalize hρ' : rset ρ j (.tuple qs.toArray) = ρ'
            have rj : ρ' j = .tuple qs.toArray := by rw [← hρ']; exact rset_same _ _ _
            have rold : ∀ n0, s.us n0 = true → ρ' n0 = ρ n0 := fun n0 hn => by rw [← hρ', rset_other _ _ (fun e => by rw [e, hu] at hn; cases hn)]
            have hwho : ∀ bb, Bk (.orw u xss1) (ρ' j) bb → ∃ n0 h0, (n0 = ko ∨ n0 = k0) ∧ s.hp n0 = some h0 ∧ Bk h0 (ρ n0) bb := fun bb hB => by
              obtain ⟨vs, hvs, z, hz, hzb⟩ := hB
              rw [rj] at hvs
              injection hvs with hvs
              subst hvs
              obtain ⟨n0, h0, g0, g1, g2⟩ := hown z (by simpa using hz) bb hzb
              refine ⟨n0, h0, ?_, g1, g2⟩
              rcases g0 with g0 | ⟨i1, g0⟩
              · exact .inl g0
              · injection g0 with g0
                injection g0 with _ g0
                exact .inr g0.symm
            have hap : ∀ bb, Bk (.box (pre ++ (.orp j n none :: post))) (ρ' k) bb → ¬ Bk (.orw u xss1) (ρ' j) bb := fun bb hB hB' => by
              rw [rold _ hub] at hB
              obtain ⟨n0, h0, g0, g1, g2⟩ := hwho bb hB'
              refine h.apart k n0 _ _ bb (fun e => ?_) hk g1 hB g2
              rcases g0 with e2 | e2
              · exact hkko (e.trans e2)
              · exact hkk0 (e.trans e2)
            refine h.step (fun n0 => n0 = k ∨ n0 = ko ∨ n0 = k0 ∨ n0 = j) (by rw [← hs']; rfl) (by rw [← hs']; rfl) eus rold (BelowS.refl _ _) esame (fun _ _ _ => rfl) ?_ ?_ ?_ ?_
            · intro n0 he bb hT hn hB
              refine .inl ?_
              rcases hT with rfl | rfl | rfl | rfl
              · rw [ek] at hn; injection hn with hn; subst hn
                exact ⟨n0, _, .inl rfl, hk, by rw [rold _ hub] at hB; exact hB⟩
              · rw [eko] at hn; cases hn
              · rw [ek0] at hn; cases hn
              · rw [ej] at hn; injection hn with hn; subst hn
                obtain ⟨n1, h1, g0, g1, g2⟩ := hwho bb hB
                exact ⟨n1, h1, g0.elim (fun e => .inr (.inl e)) (fun e => .inr (.inr (.inl e))), g1, g2⟩
            · intro n0 he hT hn
              rcases hT with rfl | rfl | rfl | rfl
              · exact eus _ hub
              · exact eus _ huo
              · exact eus _ hu0
              · exact eusj
            · intro n0 n1 he he' bb hne hT hT' hn hn' hB hB'
              rcases hT with rfl | rfl | rfl | rfl
              · rw [ek] at hn; injection hn with hn; subst hn
                rcases hT' with rfl | rfl | rfl | rfl
                · exact hne rfl
                · rw [eko] at hn'; cases hn'
                · rw [ek0] at hn'; cases hn'
                · rw [ej] at hn'; injection hn' with hn'; subst hn'; exact hap bb hB hB'
              · rw [eko] at hn; cases hn
              · rw [ek0] at hn; cases hn
              · rw [ej] at hn; injection hn with hn; subst hn
                rcases hT' with rfl | rfl | rfl | rfl
                · rw [ek] at hn'; injection hn' with hn'; subst hn'; exact hap bb hB' hB
                · rw [eko] at hn'; cases hn'
                · rw [ek0] at hn'; cases hn'
                · exact hne rfl
            · intro n0 he hT hn hle
              rcases hT with rfl | rfl | rfl | rfl
              · rw [ek] at hn; injection hn with hn; subst hn
                refine ⟨b, e, cs, by show ρ' n0 = _; rw [rold _ hub]; exact hρk, hheap, ?_⟩
                rw [hcs, e2]
                exact (hp1.mono hle).append (ps := pre) (qs := .orp j n none :: post) ⟨qs, tl, rfl, ⟨eusj, qs, rj, ⟨hql, hq1⟩, rfl⟩, hp3.mono hle⟩
              · rw [eko] at hn; cases hn
              · rw [ek0] at hn; cases hn
              · rw [ej] at hn; injection hn with hn; subst hn
                exact ⟨_, rj, hH.mono hle (fun _ _ _ _ => rfl)⟩
          · exact ⟨ρ, h⟩
      · exact ⟨ρ, h⟩
    · exact step
theorem isNilV_eq {v : Value} (h : isNil v = true) : v = .slice none 0 0 := by
  unfold isNil at h
  split at h
  · rfl
  · cases h
theorem takeNil_c {c : Cx} : ∀ {n : Nat} {ps post : List PV} {l : List Value}, takeNil n ps = some post → PsC c ps l → ∃ m, l = List.replicate n (.slice none 0 0) ++ m ∧ PsC c post m
  | 0, ps, post, l, h, hp => by
    injection h with h
    subst h
    exact ⟨l, rfl, hp⟩
  | n + 1, [], post, l, h, _ => by cases h
  | n + 1, p :: ps, post, l, h, hp => by
    unfold takeNil at h
    split at h
    · rename_i v
      cases hv : isNil v with
      | false => rw [hv] at h; cases h
      | true =>
        rw [hv] at h
        obtain ⟨a, b, e, h1, h2⟩ := hp
        obtain ⟨m, e2, h3⟩ := takeNil_c h h2
        have h1 : a = [v] := h1.1
        rw [isNilV_eq hv] at h1
        exact ⟨m, by rw [e, e2, h1]; rfl, h3⟩
    · cases h
theorem packNil_ok (k j : Nat) (r : List (Nat × HE)) : ∀ (qs ps pre : List PV) (s : St) (ρ : Nat → Value), Ok w0 ρ s a w → s.hp k = some (.box (pre ++ ps)) → ∃ ρ1, Ok w0 ρ1 (packNil s k j r pre ps qs) a w
  | [], ps, pre, s, ρ, h, _ => by
    refine ⟨ρ, ?_⟩
    unfold packNil
    exact h
  | q :: qs, ps, pre, s, ρ, h, hk => by
    have step : ∀ p ps', ps = p :: ps' → ∃ ρ1, Ok w0 ρ1 (packNil s k j r (pre ++ [p]) ps' qs) a w := fun p ps' e => packNil_ok k j r qs ps' (pre ++ [p]) s ρ h (by rw [List.append_assoc]; rw [e] at hk; exact hk)
    unfold packNil
    split
    · rename_i j' n
      split
      · rename_i t xss post hj hn
        cases hu : s.us j with
        | true => exact ⟨ρ, h⟩
        | false =>
          simp only [cond_false]
          have hub := h.used k _ hk
          have hkj : k ≠ j := fun e => by rw [e, hu] at hub; cases hub
          have hblk : ∀ v ∈ (List.replicate n (Value.slice none 0 0)), v = .slice none 0 0 := fun v hv => (List.mem_replicate.1 hv).2
          have h1 := h.new (he := .orw t (List.replicate n [])) (v := .tuple (List.replicate n (Value.slice none 0 0)).toArray) hu (More.refl w) (fun b hb => by
            obtain ⟨vs, hvs, z, hz, hzb⟩ := hb
            injection hvs with hvs
            subst hvs
            rw [hblk z (by simpa using hz)] at hzb
            cases hzb) ⟨List.replicate n (.slice none 0 0), rset_same _ _ _, by simp, fun i v xs hv hx => .inl ⟨hblk v (List.mem_iff_getElem?.2 ⟨i, hv⟩), (List.mem_replicate.1 (List.mem_iff_getElem?.2 ⟨i, hx⟩)).2⟩, by
              rw [List.pairwise_replicate]
              exact .inr fun b hb => by cases hb⟩
          refine ⟨rset ρ j (.tuple (List.replicate n (Value.slice none 0 0)).toArray), ?_⟩
          have hk1 : (s.new j (.orw t (List.replicate n []))).hp k = some (.box (pre ++ ps)) := by rw [new_hp hkj]; exact hk
          have hB : ∀ b, Bk (.box (pre ++ (.orp j n none :: post))) (rset ρ j (.tuple (List.replicate n (Value.slice none 0 0)).toArray) k) b → Bk (.box (pre ++ ps)) (rset ρ j (.tuple (List.replicate n (Value.slice none 0 0)).toArray) k) b ∨ (w.heap.size ≤ b ∧ b < w.heap.size) := fun b hb => .inl hb
          have hle := upd_le h1 hk1 (he := .box (pre ++ (.orp j n none :: post))) hB (Nat.le_refl _) (fun _ _ _ => rfl)
          refine h1.upd hk1 hB (BelowS.refl _ _) (fun _ _ _ => rfl) ?_
          obtain ⟨b, e, cs, g1, g2, g3⟩ := h1.heap k _ hk1
          obtain ⟨p1, p2⟩ := g3.split
          obtain ⟨m, e2, p3⟩ := takeNil_c hn p2
          refine ⟨b, e, cs, g1, g2, ?_⟩
          rw [← List.take_append_drop (psSize pre) cs.toList, e2]
          refine (p1.mono hle).append (ps := pre) (qs := .orp j n none :: post) ⟨_, m, rfl, ⟨uset_same _ _, List.replicate n (.slice none 0 0), rset_same _ _ _, ⟨by simp, fun v hv => ?_⟩, rfl⟩, p3.mono hle⟩
          rw [hblk v hv]; rfl
      · exact ⟨ρ, h⟩
    · split
      · exact step _ _ rfl
      · exact ⟨ρ, h⟩
theorem packNilAt_ok (k j : Nat) (r : List (Nat × HE)) (qs : List PV) (s : St) (ρ : Nat → Value) (h : Ok w0 ρ s a w) : ∃ ρ1, Ok w0 ρ1 (packNilAt s k j r qs) a w := by
  unfold packNilAt
  split
  · rename_i ps hk
    exact packNil_ok k j r qs ps [] s ρ h hk
  · exact ⟨ρ, h⟩
theorem packHeap_ok : ∀ (l : List (Nat × HE)) (j : Nat) (s : St) (ρ : Nat → Value), Ok w0 ρ s a w → ∃ ρ1, Ok w0 ρ1 (packHeap s j l) a w
  | [], j, s, ρ, h => ⟨ρ, h⟩
  | (k, he) :: r, j, s, ρ, h => by
    unfold packHeap
    cases he with
    | box qs =>
      simp only []
      split
      · rename_i ps hk
        obtain ⟨ρ1, h1⟩ := packPs_ok k j ps [] s ρ h hk
        obtain ⟨ρ2, h2⟩ := packNilAt_ok k (j + 300000) r qs _ ρ1 h1
        exact packHeap_ok r (j + 1) _ ρ2 h2
      · exact packHeap_ok r j s ρ h
    | row t xs => exact packHeap_ok r j s ρ h
    | clo f ps => exact packHeap_ok r j s ρ h
    | map kk t xs => exact packHeap_ok r j s ρ h
    | pmap kk xs => exact packHeap_ok r j s ρ h
    | mapit kk t xs q rem cur => exact packHeap_ok r j s ρ h
    | pool t m =>
      simp only []
      split
      · rename_i hk
        cases hus : s.us k with
        | true => exact packHeap_ok r j s ρ h
        | false =>
          exact packHeap_ok r j _ _ (h.new (he := .pool t []) (v := undef) hus (More.refl w) (fun b hb => by obtain ⟨e, he, _⟩ := hb; cases he) ⟨List.nodup_nil, fun e he => (by cases he)⟩)
      · exact packHeap_ok r j s ρ h
    | orw t xss => exact packHeap_ok r j s ρ h

theorem lget_anys : ∀ (fr : List SV) (i : Nat), lget (anys fr) i = .one .any
  | [], _ => rfl
  | _ :: _, 0 => rfl
  | _ :: r, i + 1 => lget_anys r i
theorem anys_length : ∀ (fr : List SV), (anys fr).length = fr.length
  | [] => rfl
  | _ :: r => by simp [anys, anys_length r]
theorem setSlots_length : ∀ (sl : List (Nat × SV)) (fr : List SV), (setSlots fr sl).length = fr.length
  | [], _ => rfl
  | (d, v) :: r, fr => by rw [setSlots, setSlots_length r, lset_length]
theorem sameLen_eq : ∀ {x y : List SV}, sameLen x y = true → x.length = y.length
  | [], [], _ => rfl
  | _ :: r, _ :: q, h => by simp [sameLen_eq (x := r) (y := q) h]
  | [], _ :: _, h => by cases h
  | _ :: _, [], h => by cases h
theorem memN_iff : ∀ {l : List Nat} {n : Nat}, memN n l = true ↔ n ∈ l
  | [], n => by simp [memN]
  | k :: r, n => by
    unfold memN
    by_cases e : n = k
    · subst e; simp
    · rw [beq_ne e]; simp [memN_iff (l := r), e]

theorem lget_setSlots : ∀ (sl : List (Nat × SV)) (fr : List SV) (i : Nat), lget (setSlots fr sl) i = lget fr i ∨ (∃ v, (i, v) ∈ sl ∧ lget (setSlots fr sl) i = v) ∨ lget (setSlots fr sl) i = .one .any
  | [], fr, i => .inl rfl
  | (d, v) :: r, fr, i => by
    rcases lget_setSlots r (lset fr d v) i with h | ⟨u, hu, h⟩ | h
    · by_cases e : d = i
      · subst e
        rw [lget_lset_eq] at h
        by_cases hd : d < fr.length
        · rw [if_pos hd] at h
          exact .inr (.inl ⟨v, by simp, h⟩)
        · rw [if_neg hd] at h
          exact .inr (.inr h)
      · rw [lget_lset_ne _ _ _ _ e] at h
        exact .inl h
    · exact .inr (.inl ⟨u, by simp [hu], h⟩)
    · exact .inr (.inr h)

theorem assoc_mem : ∀ {l : List (Nat × HE)} {k : Nat} {h : HE}, assoc l k = some h → (k, h) ∈ l
  | [], _, _, e => by cases e
  | (j, g) :: r, k, h, e => by
    unfold assoc at e
    by_cases ek : k = j
    · subst ek
      rw [show Nat.beq k k = true from by simp] at e
      simp only [cond_true, Option.some.injEq] at e
      subst e; simp
    · rw [beq_ne ek] at e
      exact List.mem_cons_of_mem _ (assoc_mem e)

theorem leSlots_mem {σ : Ren} : ∀ {sl : List (Nat × SV)}, leSlots σ s sl → ∀ {d v}, (d, v) ∈ sl → leSV σ (lget s.fr d) v
  | [], _, _, _, h => by cases h
  | (d', v') :: r, h, d, v, hm => by
    rcases List.mem_cons.1 hm with e | hm
    · simp only [Prod.mk.injEq] at e
      obtain ⟨rfl, rfl⟩ := e
      exact h.1
    · exact leSlots_mem h.2 hm
theorem leHeap_mem {σ : Ren} : ∀ {hl : List (Nat × HE)}, leHeap σ s hl → ∀ {k h}, (k, h) ∈ hl → ∃ h', s.hp (σ.at k) = some h' ∧ leHE σ h' h
  | [], _, _, _, h => by cases h
  | (k', g) :: r, h, k, g', hm => by
    rcases List.mem_cons.1 hm with e | hm
    · simp only [Prod.mk.injEq] at e
      obtain ⟨rfl, rfl⟩ := e
      have h1 := h.1
      split at h1
      · rename_i h' e; exact ⟨h', e, h1⟩
      · exact h1.elim
    · exact leHeap_mem h.2 hm
theorem okSlots_mem {v : Inv} : ∀ {sl : List (Nat × SV)} {seen : List Nat}, okSlots v sl seen = true → ∀ {d x}, (d, x) ∈ sl → okSV v x = true
  | [], _, _, _, _, h => by cases h
  | (d', x') :: r, seen, h, d, x, hm => by
    unfold okSlots at h
    cases h1 : memN d' seen with
    | true => rw [h1] at h; cases h
    | false =>
      rw [h1] at h
      simp only [cond_false] at h
      cases h2 : okSV v x' with
      | false => rw [h2] at h; cases h
      | true =>
        rw [h2] at h
        simp only [cond_true] at h
        rcases List.mem_cons.1 hm with e | hm
        · simp only [Prod.mk.injEq] at e
          obtain ⟨rfl, rfl⟩ := e
          exact h2
        · exact okSlots_mem h hm
def okHE (v : Inv) : HE → Bool
  | .box ps => okPs v ps
  | .clo _ ps => okPs v ps
  | .row _ _ => true
  | .map _ _ _ => true
  | .mapit _ _ _ _ _ _ => true
  | .pool _ _ => true
  | .orw _ _ => true
  | .pmap _ _ => false
theorem okHeap_mem {v : Inv} : ∀ {hl : List (Nat × HE)} {seen : List Nat}, okHeap v hl seen = true → ∀ {k h}, (k, h) ∈ hl → okHE v h = true
  | [], _, _, _, _, h => by cases h
  | (k', g) :: r, seen, h, k, g', hm => by
    have h' : memN k' seen = false ∧ okHE v g = true ∧ okHeap v r (k' :: seen) = true := by
      by_cases hpm : ∃ kk es, g = .pmap kk es
      · obtain ⟨kk, es, rfl⟩ := hpm
        cases h
      cases g <;> (try exact absurd ⟨_, _, rfl⟩ hpm) <;> unfold okHeap at h <;> cases h1 : memN k' seen <;> rw [h1] at h <;> simp only [cond_false, cond_true, Bool.false_eq_true] at h
      · rename_i ps
        cases h2 : okPs v ps with
        | false => rw [h2] at h; cases h
        | true => rw [h2] at h; exact ⟨rfl, h2, h⟩
      · exact ⟨rfl, rfl, h⟩
      · rename_i ps
        cases h2 : okPs v ps with
        | false => rw [h2] at h; cases h
        | true => rw [h2] at h; exact ⟨rfl, h2, h⟩
      · exact ⟨rfl, rfl, h⟩
      · exact ⟨rfl, rfl, h⟩
      · exact ⟨rfl, rfl, h⟩
      · exact ⟨rfl, rfl, h⟩
    rcases List.mem_cons.1 hm with e | hm
    · simp only [Prod.mk.injEq] at e
      obtain ⟨rfl, rfl⟩ := e
      exact h'.2.1
    · exact okHeap_mem h'.2.2 hm
theorem injN_inj {σ : Ren} : ∀ {hl : List (Nat × HE)} {seen : List Nat}, injN σ hl seen = true → (∀ k h, (k, h) ∈ hl → σ.at k ∉ seen) ∧ ∀ k h k' h', (k, h) ∈ hl → (k', h') ∈ hl → σ.at k = σ.at k' → k = k'
  | [], _, _ => ⟨fun _ _ h => (by cases h), fun _ _ _ _ h => (by cases h)⟩
  | (j, g) :: r, seen, h => by
    unfold injN at h
    cases h1 : memN (σ.at j) seen with
    | true => rw [h1] at h; cases h
    | false =>
      rw [h1] at h
      simp only [cond_false] at h
      obtain ⟨h2, h3⟩ := injN_inj h
      have h1' : σ.at j ∉ seen := fun e => by rw [memN_iff.2 e] at h1; cases h1
      refine ⟨fun k g' hm => ?_, fun k g1 k' g2 hm hm' e => ?_⟩
      · rcases List.mem_cons.1 hm with e | hm
        · simp only [Prod.mk.injEq] at e
          obtain ⟨rfl, rfl⟩ := e
          exact h1'
        · exact fun e => h2 k g' hm (List.mem_cons_of_mem _ e)
      · rcases List.mem_cons.1 hm with e1 | hm
        · simp only [Prod.mk.injEq] at e1
          obtain ⟨rfl, rfl⟩ := e1
          rcases List.mem_cons.1 hm' with e2 | hm'
          · simp only [Prod.mk.injEq] at e2
            exact e2.1.symm
          · exact absurd (by rw [e]; simp) (h2 k' g2 hm')
        · rcases List.mem_cons.1 hm' with e2 | hm'
          · simp only [Prod.mk.injEq] at e2
            exact absurd (by rw [e, e2.1]; simp) (h2 k g1 hm)
          · exact h3 k g1 k' g2 hm hm' e

structure Over (σ : Ren) (v : Inv) (c c' : Cx) : Prop where
  ρ : ∀ k, c'.ρ k = c.ρ (σ.at k)
  us : ∀ k, (assoc v.heap k).isSome = true → c'.us k = true
  keep : Keeps c.S c.w c'.S c'.w

theorem isNil_eq {v : Value} (h : isNil v = true) : v = .slice none 0 0 := by
  unfold isNil at h
  split at h
  · rfl
  · cases h
theorem eqN_eq {a b : Nat} (h : eqN a b) : a = b := by
  unfold eqN at h
  split at h
  · rename_i e; exact Nat.eq_of_beq_eq_true e
  · exact h.elim
theorem lePV_c {σ : Ren} {v : Inv} {c c' : Cx} (h : Over σ v c c') {p q : PV} {l : List Value} (hle : lePV σ p q) (hq : okPV v q = true) (hp : PVc c p l) : PVc c' q l := by
  cases q with
  | any =>
    have hg : p.agg = false := by
      simp only [lePV] at hle
      cases e : p.agg with
      | true => rw [e] at hle; exact hle.elim
      | false => rfl
    have hl := hp.len
    have h1 := hp.one
    have hsz : p.size = 1 := by
      cases p with
      | d t x => cases t <;> first | rfl | cases hg
      | orp k n g => cases hg
      | _ => rfl
    rw [hsz] at hl
    match l, hl with
    | [u], _ => exact ⟨u, rfl, h1 u (by simp)⟩
  | d u y =>
    cases p with
    | d t x =>
      have hle : leD t x u y := hle
      unfold leD at hle
      split at hle
      · rename_i x' e
        subst hle
        obtain ⟨e2, rfl⟩ := castD_eq e
        subst e2
        exact Rd.mono h.keep hp
      · exact hle.elim
    | lit b =>
      have hle : leLit b u y := hle
      cases u <;> first | exact hle.elim | skip
      have hle : b = y := hle
      subst hle; exact hp
    | con z =>
      have hle : leNil z u y := hle
      cases u with
      | sl t =>
        have hle : (match isNil z with
          | true => y = []
          | false => False) := hle
        cases e : isNil z with
        | true =>
          rw [e] at hle
          have hz := isNil_eq e
          subst hz
          have hle : y = [] := hle
          subst hle
          exact ⟨none, 0, hp.1, Nat.le_refl _, by simp [maxLen], fun h => absurd h (by simp)⟩
        | false => rw [e] at hle; exact hle.elim
      | ref q =>
        have hle : (match isNilP z with
          | true => (y : Int) = -1
          | false => False) := hle
        cases e : isNilP z with
        | true =>
          rw [e] at hle
          have hz : z = .pointer none := by
            unfold isNilP at e
            split at e
            · rfl
            · cases e
          subst hz
          have hle : y = (-1 : Int) := hle
          subst hle
          exact .inl ⟨rfl, hp.1⟩
        | false => rw [e] at hle; exact hle.elim
      | err =>
        have hle : (match isNilI z with
          | true => (y : Bool) = false
          | false => False) := hle
        cases e : isNilI z with
        | true =>
          rw [e] at hle
          have hz : z = .nilIface := by
            unfold isNilI at e
            split at e
            · rfl
            · cases e
          subst hz
          have hle : y = false := hle
          subst hle
          exact .inl ⟨rfl, hp.1⟩
        | false => rw [e] at hle; exact hle.elim
      | _ => exact (hle : False).elim
    | opt q a off =>
      have hle : leRef q a off u y := hle
      cases u with
      | ref q2 =>
        obtain ⟨_, e2, e3⟩ : eqN q q2 ∧ eqN off 0 ∧ a = y := hle
        have e2 := eqN_eq e2
        subst e2; subst e3
        exact .inr hp
      | _ => exact (hle : False).elim
    | _ => exact (hle : False).elim
  | itr k r =>
    cases p with
    | itr k' r' =>
      have e : r' = r := hle.2
      subst e
      exact hp
    | _ => exact (hle : False).elim
  | opt q a off =>
    cases p with
    | opt q' a' off' =>
      obtain ⟨⟨_, e1⟩, e2⟩ : (eqN q' q ∧ eqN off' off) ∧ a' = a := hle
      have e1 := eqN_eq e1
      subst e1; subst e2
      exact hp
    | _ => exact (hle : False).elim
  | oel q a off n sz i j => exact (hle : False).elim
  | orp k n g =>
    cases g with
    | some e => exact (hle : False).elim
    | none =>
      cases p with
      | orp k' n' g' =>
        cases g' with
        | some e => exact (hle : False).elim
        | none =>
          obtain ⟨e1, e2⟩ : eqN (σ.at k) k' ∧ eqN n' n := hle
          have e1 := eqN_eq e1
          have e2 := eqN_eq e2
          subst e1; subst e2
          exact ⟨h.us k hq, by rw [h.ρ k]; exact hp.2⟩
      | _ => exact (hle : False).elim
  | lit b =>
    cases p with
    | lit b' => have hle : b' = b := hle; subst hle; exact hp
    | _ => exact (hle : False).elim
  | con u =>
    cases p with
    | con u' => have hle : u' = u := hle; subst hle; exact hp
    | _ => exact (hle : False).elim
  | row k =>
    cases p with
    | row j =>
      have hle : σ.at k = j := eqN_eq hle
      subst hle
      exact ⟨h.us k hq, by rw [h.ρ k]; exact hp.2⟩
    | _ => exact (hle : False).elim
  | ptr k o =>
    cases p with
    | ptr j o' =>
      obtain ⟨hle1, rfl⟩ : σ.at k = j ∧ o' = o := ⟨eqN_eq hle.1, eqN_eq hle.2⟩
      subst hle1
      exact ⟨h.us k hq, by rw [h.ρ k]; exact hp.2⟩
    | _ => exact (hle : False).elim
  | clo k =>
    cases p with
    | clo j =>
      have hle : σ.at k = j := eqN_eq hle
      subst hle
      exact ⟨h.us k hq, by rw [h.ρ k]; exact hp.2⟩
    | _ => exact (hle : False).elim
  | rea k sz i j n' sz' i' j' => exact (hle : False).elim
  | pea k off n sz i j n' sz' i' j' => exact (hle : False).elim
  | sub k k' sz x y => exact (hle : False).elim
  | bsl k off n sz => exact (hle : False).elim
  | rel k sz i j =>
    cases p with
    | rel k' sz' i' j' =>
      obtain ⟨⟨e1, e2, e3⟩, rfl⟩ : (σ.at k = k' ∧ sz' = sz ∧ j' = j) ∧ i' = i := ⟨⟨eqN_eq hle.1.1, eqN_eq hle.1.2.1, eqN_eq hle.1.2.2⟩, hle.2⟩
      subst e1 e2 e3
      exact ⟨h.us k hq, by rw [h.ρ k]; exact hp.2⟩
    | _ => exact (hle : False).elim
  | pel k off n sz i j =>
    cases p with
    | pel k' off' n' sz' i' j' =>
      obtain ⟨⟨e1, e2, e3, e4, e5⟩, rfl⟩ : (σ.at k = k' ∧ off' = off ∧ n' = n ∧ sz' = sz ∧ j' = j) ∧ i' = i :=
        ⟨⟨eqN_eq hle.1.1, eqN_eq hle.1.2.1, eqN_eq hle.1.2.2.1, eqN_eq hle.1.2.2.2.1, eqN_eq hle.1.2.2.2.2⟩, hle.2⟩
      subst e1 e2 e3 e4 e5
      exact ⟨h.us k hq, by rw [h.ρ k]; exact hp.2⟩
    | _ => exact (hle : False).elim
  | dpl t x => cases hq

theorem lePs_c {σ : Ren} {v : Inv} {c c' : Cx} (h : Over σ v c c') : ∀ {ps qs : List PV} {l : List Value}, lePs σ ps qs → okPs v qs = true → PsC c ps l → PsC c' qs l
  | [], [], l, _, _, hp => hp
  | p :: ps, q :: qs, l, hle, hq, hp => by
    obtain ⟨l1, l2, e, h1, h2⟩ := hp
    unfold okPs at hq
    cases hq1 : okPV v q with
    | false => rw [hq1] at hq; cases hq
    | true =>
      rw [hq1] at hq
      exact ⟨l1, l2, e, lePV_c h hle.1 hq1 h1, lePs_c h hle.2 hq h2⟩
  | [], _ :: _, _, hle, _, _ => hle.elim
  | _ :: _, [], _, hle, _, _ => hle.elim
theorem lePs_len {σ : Ren} : ∀ {ps qs : List PV}, lePs σ ps qs → ps.length = qs.length
  | [], [], _ => rfl
  | _ :: ps, _ :: qs, h => by simp [lePs_len h.2]
  | [], _ :: _, h => h.elim
  | _ :: _, [], h => h.elim
theorem lePV_agg {σ : Ren} {p q : PV} (h : lePV σ p q) (hp : p.agg = false) : q.agg = false := by
  cases q with
  | d u y =>
    cases p with
    | d t x =>
      have hle : leD t x u y := h
      unfold leD at hle
      split at hle
      · rename_i x' e
        obtain ⟨e2, _⟩ := castD_eq e
        subst e2; exact hp
      · exact hle.elim
    | lit b => have hle : leLit b u y := h; cases u <;> first | exact hle.elim | rfl
    | con z => have hle : leNil z u y := h; cases u <;> first | rfl | exact (hle : False).elim
    | opt q a off => have hle : leRef q a off u y := h; cases u <;> first | rfl | exact (hle : False).elim
    | _ => exact (h : False).elim
  | orp k n g =>
    cases g with
    | some e => exact (h : False).elim
    | none =>
      cases p with
      | orp k' n' g' => cases hp
      | _ => exact (h : False).elim
  | _ => rfl
theorem lePs_agg {σ : Ren} : ∀ {ps qs : List PV}, lePs σ ps qs → (∀ p ∈ ps, p.agg = false) → ∀ q ∈ qs, q.agg = false
  | [], [], _, _ => by simp
  | p :: ps, q :: qs, h, hp => by
    intro x hx
    rcases List.mem_cons.1 hx with e | hx
    · subst e; exact lePV_agg h.1 (hp p (by simp))
    · exact lePs_agg h.2 (fun y hy => hp y (by simp [hy])) x hx
  | [], _ :: _, h, _ => h.elim
  | _ :: _, [], h, _ => h.elim

theorem leSV_c {σ : Ren} {v : Inv} {c c' : Cx} (h : Over σ v c c') {x y : SV} {u : Value} (hle : leSV σ x y) (hy : okSV v y = true) (hx : SVc c x u) : SVc c' y u := by
  cases y with
  | one q =>
    by_cases hq : q = .any
    · subst hq; trivial
    · cases x with
      | one p =>
        have hle' : lePV σ p q := by cases q <;> first | exact absurd rfl hq | exact hle
        have hpn : p ≠ .any := fun e => by subst e; cases q <;> first | exact absurd rfl hq | exact (hle' : False).elim | (rename_i g; cases g <;> exact (hle' : False).elim)
        cases hg : p.agg with
        | false => exact SVc.of1 (lePV_agg hle' hg) (lePV_c h hle' hy (SVc.one1 hg hpn hx))
        | true =>
          cases p with
          | d t z =>
            cases q with
            | d t' z' =>
              have hle2 : leD t z t' z' := hle'
              unfold leD at hle2
              split at hle2
              · rename_i x' e
                subst hle2
                obtain ⟨e2, rfl⟩ := castD_eq e
                subst e2
                have hx' : aggC c t.agg [.d t z] u := hx
                show aggC c' t.agg [.d t z] u
                rw [show t.agg = true from hg] at hx' ⊢
                obtain ⟨cs, e1, l1, l2, e2, h1, h2⟩ := hx'
                exact ⟨cs, e1, l1, l2, e2, Rd.mono h.keep h1, h2⟩
              · exact hle2.elim
            | any => exact absurd rfl hq
            | orp k n g => cases g <;> exact (hle' : False).elim
            | _ => exact (hle' : False).elim
          | orp k1 n1 g1 =>
            have hx' : aggC c true [.orp k1 n1 g1] u := hx
            obtain ⟨cs, e1, l1, l2, e2, h1, h2⟩ := hx'
            have h3 := lePV_c h hle' hy h1
            cases q with
            | any => exact absurd rfl hq
            | orp k n g => exact (⟨cs, e1, l1, l2, e2, h3, h2⟩ : aggC c' true [.orp k n g] u)
            | _ => exact (hle' : False).elim
          | _ => cases hg
      | agg ps => cases q <;> first | exact absurd rfl hq | exact (hle : False).elim
      | tup es => cases q <;> first | exact absurd rfl hq | exact (hle : False).elim
      | cnd b p => cases q <;> first | exact absurd rfl hq | exact (hle : False).elim
  | agg qs =>
    cases x with
    | agg ps => obtain ⟨cs, e, hp⟩ := hx; exact ⟨cs, e, lePs_c h hle hy hp⟩
    | one p =>
      have hle2 : (match p.agg with
        | true => lePs σ p.parts qs
        | false => False) := hle
      cases hg : p.agg with
      | false => rw [hg] at hle2; exact hle2.elim
      | true =>
        rw [hg] at hle2
        cases p with
        | d t z =>
          have hx' : aggC c t.agg [.d t z] u := hx
          rw [show t.agg = true from hg] at hx'
          obtain ⟨cs, e, hp⟩ := hx'
          exact ⟨cs, e, lePs_c h hle2 hy (by have := psParts_c hp; simpa [psParts] using this)⟩
        | orp k1 n1 g1 =>
          have hx' : aggC c true [.orp k1 n1 g1] u := hx
          obtain ⟨cs, e, hp⟩ := hx'
          exact ⟨cs, e, lePs_c h hle2 hy hp⟩
        | _ => cases hg
    | tup es => exact (hle : False).elim
    | cnd b p => exact (hle : False).elim
  | tup es =>
    cases es with
    | nil =>
      cases x with
      | tup fs =>
        cases fs with
        | nil => exact hx
        | cons _ _ => exact (hle : False).elim
      | one p => exact (hle : False).elim
      | agg ps => exact (hle : False).elim
      | cnd b p => exact (hle : False).elim
    | cons e es => cases hy
  | cnd b p => cases hy

theorem MapC.keep {c c' : Cx} (h : Keeps c.S c.w c'.S c'.w) {kk : IntKind} {t : Ty} : ∀ {es : List MapEntry} {xs : List (Int × t.D)}, MapC c kk t es xs → MapC c' kk t es xs
  | [], [], _ => trivial
  | _ :: _, _ :: _, ⟨⟨h1, h2, h3⟩, h4⟩ => ⟨⟨h1, h2, Rd.mono h h3⟩, MapC.keep h h4⟩
  | [], _ :: _, h' => h'.elim
  | _ :: _, [], h' => h'.elim
theorem leHE_c {σ : Ren} {v : Inv} {c c' : Cx} (h : Over σ v c c') (hw : c'.w = c.w) {k : Nat} {x y : HE} (hle : leHE σ x y) (hy : okHE v y = true) (hx : HEc c (σ.at k) x) : HEc c' k y := by
  cases y with
  | box qs =>
    cases x with
    | box ps =>
      obtain ⟨b, e, cs, h1, h2, h3⟩ := hx
      exact ⟨b, e, cs, by rw [h.ρ k]; exact h1, by rw [hw]; exact h2, lePs_c h hle hy h3⟩
    | _ => exact (hle : False).elim
  | clo g qs =>
    cases x with
    | clo f ps =>
      obtain ⟨rfl, hlp⟩ : f = g ∧ lePs σ ps qs := ⟨eqN_eq hle.1, hle.2⟩
      obtain ⟨vs, h1, h2, h3, h4⟩ := hx
      exact ⟨vs, by rw [h.ρ k]; exact h1, lePs_c h hlp hy h2, by rw [← h3]; exact (lePs_len hlp).symm, lePs_agg hlp h4⟩
    | _ => exact (hle : False).elim
  | row u ys =>
    cases x with
    | row t xs =>
      simp only [leHE] at hle
      split at hle
      · rename_i xs' e
        subst hle
        obtain ⟨e2, e3⟩ := castD_eq e
        injection e2 with e2
        subst e2
        have e3 : xs = xs' := e3
        subst e3
        rcases hx with ⟨h1, h2⟩ | ⟨b, o, cp, cur, e, h1, h2, h3, h4, h5, h6⟩
        · exact .inl ⟨by rw [h.ρ k]; exact h1, h2⟩
        · exact .inr ⟨b, o, cp, cur, e, by rw [h.ρ k]; exact h1, by rw [hw]; exact h2, h3, h4, h5, fun i x hx => Rd.mono h.keep (h6 i x hx)⟩
      · exact hle.elim
    | _ => exact (hle : False).elim
  | map kk u ys =>
    cases x with
    | map kk' t xs =>
      simp only [leHE] at hle
      split at hle
      · rename_i xs' e
        subst hle
        unfold castM at e
        split at e
        · rename_i he
          obtain ⟨rfl, rfl⟩ := he
          cases e
          obtain ⟨b, es, cl, h1, h2, h3, h4⟩ := hx
          exact ⟨b, es, cl, by rw [h.ρ k]; exact h1, by rw [hw]; exact h2, MapC.keep h.keep h3, h4⟩
        · cases e
      · exact hle.elim
    | mapit kk' t xs r rem cur =>
      simp only [leHE] at hle
      split at hle
      · rename_i xs' e
        subst hle
        unfold castM at e
        split at e
        · rename_i he
          obtain ⟨rfl, rfl⟩ := he
          cases e
          obtain ⟨b, es, cl, seen, h1, ⟨h2, _⟩, h3, h4, _⟩ := hx
          exact ⟨b, es, cl, by rw [h.ρ k]; exact h1, by rw [hw]; exact h2, MapC.keep h.keep h3, h4⟩
        · cases e
      · exact hle.elim
    | _ => exact (hle : False).elim
  | mapit kk u ys r rem cur =>
    cases x with
    | mapit kk' t xs r' rem' cur' =>
      cases cur with
      | some z => exact (hle : False).elim
      | none =>
        simp only [leHE] at hle
        split at hle
        · rename_i xs' rem'' e e'
          obtain ⟨rfl, rfl, rfl⟩ := hle
          obtain ⟨rfl, rfl, e⟩ := castM_eq e
          obtain ⟨_, _, e'⟩ := castM_eq e'
          have e : xs = xs' := e
          have e' : rem' = rem'' := e'
          subst e; subst e'
          obtain ⟨b, es, cl, seen, h1, h2, h3, h4, h5, _⟩ := hx
          exact ⟨b, es, cl, seen, by rw [h.ρ k]; exact h1, by rw [hw]; exact h2, MapC.keep h.keep h3, h4, MapC.keep h.keep h5, fun x hx => by cases hx⟩
        · exact hle.elim
    | _ => exact (hle : False).elim
  | pool u m =>
    cases x with
    | pool t m' =>
      simp only [leHE] at hle
      split at hle
      · rename_i m'' e
        subst hle
        obtain ⟨_, rfl, e⟩ := castM_eq e
        have e : m' = m'' := e
        subst e
        refine ⟨hx.1, fun e he => ?_⟩
        obtain ⟨g0, ty, cs, g1, g2⟩ := hx.2 e he
        exact ⟨g0, ty, cs, by rw [hw]; exact g1, Rd.mono h.keep g2⟩
      · exact hle.elim
    | _ => exact (hle : False).elim
  | orw u yss =>
    cases x with
    | orw t xss =>
      simp only [leHE] at hle
      split at hle
      · rename_i xss' e
        subst hle
        obtain ⟨e2, e3⟩ := castD_eq e
        injection e2 with e2
        injection e2 with e2
        subst e2
        have e3 : xss = xss' := e3
        subst e3
        obtain ⟨vs, h1, h2, h3, h4⟩ := hx
        refine ⟨vs, by rw [h.ρ k]; exact h1, h2, fun i z xs hz hxs => ?_, h4⟩
        rcases h3 i z xs hz hxs with g | ⟨b, o, cp, cur, e, g1, g2, g3, g4, g5, g6⟩
        · exact .inl g
        · exact .inr ⟨b, o, cp, cur, e, g1, by rw [hw]; exact g2, g3, g4, g5, fun i x hx => Rd.mono h.keep (g6 i x hx)⟩
      · exact hle.elim
    | _ => exact (hle : False).elim
  | pmap kk ys => cases hy
theorem leHE_bk {σ : Ren} {x y : HE} (hle : leHE σ x y) {v : Value} {b : Nat} (hb : Bk y v b) : Bk x v b := by
  cases y with
  | box qs => cases x <;> first | exact (hle : False).elim | exact hb
  | clo g qs => cases x <;> first | exact (hle : False).elim | exact hb
  | row u ys => cases x <;> first | exact (hle : False).elim | exact hb
  | map kk u ys => cases x <;> first | exact (hle : False).elim | exact hb | exact .inl hb
  | pmap kk ys => cases x <;> exact (hle : False).elim
  | mapit kk u ys r rem cur =>
    cases x with
    | mapit kk' t xs r' rem' cur' =>
      cases cur with
      | some z => exact (hle : False).elim
      | none =>
        simp only [leHE] at hle
        split at hle
        · obtain ⟨rfl, _⟩ := hle
          exact hb
        · exact hle.elim
    | _ => exact (hle : False).elim
  | pool u m =>
    cases x with
    | pool t m' =>
      simp only [leHE] at hle
      split at hle
      · rename_i m'' e
        subst hle
        obtain ⟨_, rfl, e⟩ := castM_eq e
        have e : m' = m'' := e
        subst e
        exact hb
      · exact hle.elim
    | _ => exact (hle : False).elim
  | orw u yss => cases x <;> first | exact (hle : False).elim | exact hb

theorem filt_get (v : Inv) : ∀ (l : List SV) (i : Nat), okSV v (lget (filt v l) i) = true
  | [], i => rfl
  | x :: r, 0 => by
    show okSV v (bif okSV v x then x else .one .any) = true
    cases e : okSV v x
    · rfl
    · exact e
  | x :: r, i + 1 => filt_get v r i
theorem leBk_get {σ : Ren} : ∀ {xs ys : List SV}, leBk σ xs ys → ∀ i, leSV σ (lget xs i) (lget ys i)
  | [], [], _, i => by unfold lget; cases i <;> trivial
  | x :: xs, y :: ys, h, 0 => h.1
  | x :: xs, y :: ys, h, i + 1 => leBk_get h.2 i
  | [], _ :: _, h, _ => h.elim
  | _ :: _, [], h, _ => h.elim

theorem le_ok {s0 : St} {v : Inv} (h : Ok w0 ρ s a w) (hle : le s v (Inv.st s0 v)) : ∃ ρ', Ok w0 ρ' (Inv.st s0 v) a w := by
  obtain ⟨ρ2, h2⟩ := packHeap_ok v.heap (s.nx + 1000000) s ρ h
  obtain ⟨ρ0, h0⟩ := nilSlots_ok v.slots s.nx _ ρ2 h2 v
  obtain ⟨ρ1, h1⟩ := nilHeap_ok v v.heap (s.nx + v.slots.length) _ ρ0 h0
  unfold le at hle
  generalize nilHeap (nilSlots (packHeap s (s.nx + 1000000) v.heap) v s.nx v.slots) v (s.nx + v.slots.length) v.heap = s1 at h1 hle
  simp only [] at hle
  generalize mHeap s1 (mHeap s1 (mSlots s1 [] v.slots) v.heap) v.heap = σ at hle
  cases hb : (sameLen s1.fr (Inv.st s0 v).fr && injN σ v.heap [] && okSlots v v.slots [] && okHeap v v.heap []) with
  | false => rw [hb] at hle; exact hle.elim
  | true =>
    rw [hb] at hle
    simp only [cond_true] at hle
    obtain ⟨hls, hlh, hlb⟩ := hle
    simp only [Bool.and_eq_true] at hb
    obtain ⟨⟨⟨hb1, hb2⟩, hb3⟩, hb4⟩ := hb
    obtain ⟨_, hinj⟩ := injN_inj hb2
    have hmem : ∀ {k he}, (Inv.st s0 v).hp k = some he → (k, he) ∈ v.heap := fun e => assoc_mem e
    have hover : Over σ v (cx w0 ρ1 s1 w) (cx w0 (fun k => ρ1 (σ.at k)) (Inv.st s0 v) w) := by
      refine ⟨fun _ => rfl, fun k hk => hk, fun b hS => ⟨⟨hS.1, fun k he hk => ?_, hS.2.2⟩, rfl⟩⟩
      obtain ⟨h', hh, hl⟩ := leHeap_mem hlh (hmem hk)
      exact fun hB => hS.2.1 _ h' hh (leHE_bk hl hB)
    refine ⟨fun k => ρ1 (σ.at k), { defers := h1.defers, below := h1.below, len := ?_, frame := ?_, back := ?_, heap := ?_, used := ?_, fresh := ?_, apart := ?_ }⟩
    · rw [← sameLen_eq hb1]; exact h1.len
    · intro i
      show SVc _ (lget (setSlots (anys s0.fr) v.slots) i) _
      rcases lget_setSlots v.slots (anys s0.fr) i with e | ⟨x, hx, e⟩ | e
      · rw [e, lget_anys]; trivial
      · rw [e]
        exact leSV_c hover (leSlots_mem hls hx) (okSlots_mem hb3 hx) (h1.frame i)
      · rw [e]; trivial
    · intro i
      cases hbk : (Inv.st s0 v).bk with
      | nil => unfold lget; cases i <;> trivial
      | cons y q =>
        rw [hbk] at hlb
        have hok : okSV v (lget (y :: q) i) = true := by rw [← hbk]; exact filt_get v s0.bk i
        exact leSV_c hover (leBk_get hlb i) hok (h1.back i)
    · intro k he hk
      obtain ⟨h', hh, hle⟩ := leHeap_mem hlh (hmem hk)
      exact leHE_c hover rfl hle (okHeap_mem hb4 (hmem hk)) (h1.heap _ h' hh)
    · intro k he hk
      show (assoc v.heap k).isSome = true
      rw [show assoc v.heap k = some he from hk]; rfl
    · intro k he b hk hbk
      obtain ⟨h', hh, hl⟩ := leHeap_mem hlh (hmem hk)
      exact h1.fresh _ h' b hh (leHE_bk hl hbk)
    · intro k k' he he' b hne hk hk' hb1' hb2'
      obtain ⟨g, hg, hl⟩ := leHeap_mem hlh (hmem hk)
      obtain ⟨g', hg', hl'⟩ := leHeap_mem hlh (hmem hk')
      exact h1.apart _ _ g g' b (fun e => hne (hinj k he k' he' (hmem hk) (hmem hk') e)) hg hg' (leHE_bk hl hb1') (leHE_bk hl' hb2')
end
end Go.Sx
