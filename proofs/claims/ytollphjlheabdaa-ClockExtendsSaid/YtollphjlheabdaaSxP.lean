/-
  Sx, part P: the code does what the executor says.
-/
import Derived.Test.YtollphjlheabdaaSxO
import Derived.Deep.LoopGhost
namespace Go.Sx
open Go.RowKit

def argsC (c : Cx) : List SV → List Value → Prop
  | [], [] => True
  | s :: ss, v :: vs => SVc c s v ∧ argsC c ss vs
  | _, _ => False

/-- The program has a body for function g. -/
def Callable (P : Program) (g : Nat) : Prop := ∃ fn, P.funcs[g]? = some fn ∧ (fn.name == "runtime.NumGoroutine") = false ∧ fn.body.isNone = false

/-- What is asked of a way to answer calls. -/
def CallOk (P : Program) (callK : Nat → List SV → St → (SV → St → Prop) → Prop) : Prop :=
  ∀ g args s K w0 ρ a w vs, Ok w0 ρ s a w → argsC (cx w0 ρ s w) args vs.toList → callK g args s K →
    Callable P g ∧ Calls P g vs w (fun e w' => ∃ v sv s' ρ', e = .returned v ∧ Ok w0 ρ' s' a w' ∧ SVc (cx w0 ρ' s' w') sv v ∧ K sv s')

section
variable {P : Program} {X : Fx} {callK : Nat → List SV → St → (SV → St → Prop) → Prop} {f : Nat} {w0 : Base} {w : World} {ρ : Nat → Value} {s s' : St} {a : Act}

theorem callFunc_run {g : Nat} {vs : Array Value} (h : Callable P g) : (callFunc g vs).run P w = .ok (.enter g vs) w := by
  obtain ⟨fn, h1, h2, h3⟩ := h
  have h2' : ¬ fn.name = "runtime.NumGoroutine" := by simpa using h2
  have h3' : ¬ fn.body = none := fun e => by rw [e] at h3; cases h3
  simp [callFunc, program, Sem.run, h1, h2', h3']

theorem argsC_map (h : Ok w0 ρ s a w) : ∀ (xs : List Operand), argsC (cx w0 ρ s w) (xs.map (ev s)) (xs.map a.eval)
  | [] => trivial
  | x :: xs => ⟨h.ev x, argsC_map h xs⟩
theorem argsC_append {c : Cx} : ∀ {as bs : List SV} {vs us : List Value}, argsC c as vs → argsC c bs us → argsC c (as ++ bs) (vs ++ us)
  | [], _, [], _, _, h => h
  | _ :: _, _, _ :: _, _, h, k => ⟨h.1, argsC_append h.2 k⟩
  | [], _, _ :: _, _, h, _ => h.elim
  | _ :: _, _, [], _, h, _ => h.elim
theorem argsC_parts {c : Cx} : ∀ {ps : List PV} {vs : List Value}, PsC c ps vs → ps.length = vs.length → (∀ p ∈ ps, p.agg = false) → argsC c (ps.map SV.one) vs
  | [], vs, h, _, _ => by rw [show vs = [] from h]; trivial
  | p :: ps, vs, h, hl, hg => by
    obtain ⟨l, m, e, h1, h2⟩ := h
    have hp := hg p (by simp)
    have hsz : p.size = 1 := by
      cases p with
      | d t x => cases t <;> first | rfl | cases hp
      | _ => rfl
    have hll := h1.len
    rw [hsz] at hll
    match l, hll with
    | [v], _ =>
      subst e
      exact ⟨SVc.of1 hp h1, argsC_parts h2 (by simpa using hl) (fun q hq => hg q (by simp [hq]))⟩

/-- What an operation that calls comes to. -/
theorem callee_c {o : Oper} {g : Nat} {args : List SV} (h : Ok w0 ρ s a w) (hc : callee? s o.op = some (g, args)) :
    ∃ vs : Array Value, argsC (cx w0 ρ s w) args vs.toList ∧ (Callable P g → (execOp a.eval o).run P w = .ok (.enter g vs) w) := by
  cases ho : o.op with
  | call c =>
    rw [ho] at hc
    simp only [callee?] at hc
    split at hc
    · rename_i x hx
      have hv := h.ev x
      split at hc
      · rename_i g' fs cs hxx
        rw [hxx] at hv
        obtain ⟨h1, _⟩ := SVc.one1 rfl (by simp) hv
        simp only [List.cons.injEq, and_true] at h1
        cases hb : (fs.isEmpty && cs.isEmpty) with
        | false => rw [hb] at hc; cases hc
        | true =>
          rw [hb] at hc
          simp only [cond_true, Option.some.injEq, Prod.mk.injEq] at hc
          obtain ⟨rfl, rfl⟩ := hc
          simp only [Bool.and_eq_true, Array.isEmpty_iff] at hb
          obtain ⟨rfl, rfl⟩ := hb
          refine ⟨c.args.map a.eval, by simpa using argsC_map h c.args.toList, fun hcl => ?_⟩
          have := callFunc_run (w := w) (vs := c.args.map a.eval) hcl
          simp only [execOp, ho, resolve, hx, h1, Deferred.ofValue, Sem.run_bind, Sem.run_pure, Result.andThen_ok, invoke]
          simpa using this
      · rename_i k hxx
        split at hc
        · rename_i g' ps hk
          simp only [Option.some.injEq, Prod.mk.injEq] at hc
          obtain ⟨rfl, rfl⟩ := hc
          rw [hxx] at hv
          obtain ⟨_, h1, _⟩ := SVc.one1 rfl (by simp) hv
          simp only [List.cons.injEq, and_true] at h1
          obtain ⟨us, h2, h3, h4, h5⟩ := h.heap k _ hk
          rw [h2] at h1
          refine ⟨c.args.map a.eval ++ us, by simpa using argsC_append (argsC_map h c.args.toList) (argsC_parts h3 (by simpa using h4) h5), fun hcl => ?_⟩
          have := callFunc_run (w := w) (vs := c.args.map a.eval ++ us) hcl
          simp only [execOp, ho, resolve, hx, h1, Deferred.ofValue, Sem.run_bind, Sem.run_pure, Result.andThen_ok, invoke]
          simpa using this
        · cases hc
      · cases hc
    · cases hc
  | _ => rw [ho] at hc; simp [callee?] at hc

/-- What is given to the executor is true of the program. -/
structure FxOk (P : Program) (X : Fx) : Prop where
  env : EnvOk P X.E
  mixed : P.follows .mixedOrders = true

theorem op1_sound {o : Oper} {k : Nat} {K : St → Prop} {N : Act → World → Prop} {Q : Exit → Act → World → Prop} (hX : FxOk P X) (hcall : CallOk P callK) (h : Ok w0 ρ s a w)
    (ho : op1 X callK f s k o K) (hN : ∀ ρ' s' a' w', Ok w0 ρ' s' a' w' → K s' → N a' w') : o.wp P a w N Q := by
  unfold op1 at ho
  split at ho
  · rename_i g args hc
    obtain ⟨vs, hargs, hrun⟩ := callee_c (P := P) h hc
    obtain ⟨hcl, hcalls⟩ := hcall g args s _ w0 ρ a w vs h hargs ho
    unfold Oper.wp
    rw [hrun hcl, Oper.upon_enter]
    refine hcalls.mono fun e w' he => ?_
    obtain ⟨v, sv, s', ρ', rfl, hok, hsv, hK⟩ := he
    exact hN ρ' _ _ _ (hok.put o.dst hsv) hK
  · split at ho
    · rename_i p s' hs
      exact (opS_does (R := N) hX.env h hs ho.1 (fun ρ' a' w' hok => hN ρ' s' a' w' hok ho.2)).wp
    · rename_i s' hs
      exact (opS_does (R := N) hX.env h hs trivial (fun ρ' a' w' hok => hN ρ' s' a' w' hok ho)).wp
    · exact ho.elim

theorem dstAt_eq : ∀ (all : List Oper) (j : Nat), dstAt all j = (all[j]?).bind (·.dst)
  | [], _ => by simp [dstAt]
  | o :: r, 0 => by simp [dstAt]
  | o :: r, j + 1 => by simpa [dstAt] using dstAt_eq r j

theorem yield_bool {all : List Oper} {j d : Nat} {b : Bool} (hd : dstAt all j = some d) (hv : a.tmps.getD d undef = .bool b) : yielded all.toArray a.tmps j = some b := by
  rw [dstAt_eq] at hd
  have hd' : (all.toArray[j]?).bind (·.dst) = some d := by simpa using hd
  unfold yielded
  rw [hd']
  have hlt : d < a.tmps.size := by
    rcases Nat.lt_or_ge d a.tmps.size with h | h
    · exact h
    · rw [Array.getD, dif_neg (by omega)] at hv; cases hv
  have : a.tmps[d]? = some (.bool b) := by
    rw [Array.getElem?_eq_getElem hlt]
    simpa [Array.getD, hlt] using hv
  simp [this]
theorem yield_none {all : List Oper} {j d : Nat} (hd : dstAt all j = some d) (hv : a.tmps.getD d undef = undef) : yielded all.toArray a.tmps j = none := by
  rw [dstAt_eq] at hd
  have hd' : (all.toArray[j]?).bind (·.dst) = some d := by simpa using hd
  unfold yielded
  rw [hd']
  simp only [Option.bind_some]
  rcases Nat.lt_or_ge d a.tmps.size with hlt | h
  · rw [Array.getElem?_eq_getElem hlt]
    have : a.tmps[d] = undef := by simpa [Array.getD, hlt] using hv
    rw [this]; rfl
  · rw [Array.getElem?_eq_none h]

theorem sv_undef {c : Cx} : SVc c (.tup []) undef := ⟨#[], rfl, rfl⟩

/-- A slot may be told anew of the value that it holds. -/
theorem Ok.tell (h : Ok w0 ρ s a w) (d : Nat) {v : SV} (hv : SVc (cx w0 ρ s w) v (a.tmps.getD d undef)) : Ok w0 ρ (s.put (some d) v) a w := by
  refine { h with len := ?_, frame := ?_ }
  · simp [St.put, lset_length, h.len]
  · intro i
    show SVc (cx w0 ρ s w) (lget (lset s.fr d v) i) (a.tmps.getD i undef)
    by_cases e : d = i
    · subst e
      rw [lget_lset_eq]
      by_cases hd : d < s.fr.length
      · rw [if_pos hd]; exact hv
      · rw [if_neg hd]; trivial
    · rw [lget_lset_ne _ _ _ _ e]; exact h.frame i

theorem ops_sound {all : List Oper} {nb : Nat} {K : St → Prop} {Q : Exit → Act → World → Prop} (hX : FxOk P X) (hcall : CallOk P callK)
    (hQ : ∀ ρ' s' a' w', Ok w0 ρ' s' a' w' → K s' → Q .normal a' w') :
    ∀ (r : List Oper) (i : Nat) (s : St) (ρ : Nat → Value) (a : Act) (w : World), ops X callK f all nb i r s K → Ok w0 ρ s a w → wpList P all.toArray Q r a w
  | [], i, s, ρ, a, w, h, hok => hQ ρ s a w hok h
  | o :: r, i, s, ρ, a, w, h, hok => by
    unfold ops at h
    have skip : Region.wanted o (yielded all.toArray a.tmps) = false → ops X callK f all nb (i + 1) r (s.put o.dst (.tup [])) K → wpList P all.toArray Q (o :: r) a w := fun hw hr => by
      unfold wpList
      rw [hw]
      simp only [Bool.false_eq_true, if_false]
      exact ops_sound hX hcall hQ r (i + 1) _ ρ _ w hr (hok.put o.dst sv_undef)
    have run : ∀ s1 ρ1, Ok w0 ρ1 s1 a w → Region.wanted o (yielded all.toArray a.tmps) = true → op1 X callK f s1 (nb + i) o (fun s => ops X callK f all nb (i + 1) r s K) → wpList P all.toArray Q (o :: r) a w := fun s1 ρ1 hok1 hw hr => by
      unfold wpList
      rw [hw]
      simp only [if_true]
      exact .inl (op1_sound hX hcall hok1 hr (fun ρ' s' a' w' hok' hK => ops_sound hX hcall hQ r (i + 1) s' ρ' a' w' hK hok'))
    split at h
    · rename_i hg
      exact run s ρ hok (by simp [Region.wanted, hg]) h
    · rename_i j want hg
      split at h
      · rename_i d hd
        have hv := hok.frame d
        split at h
        · rename_i b hsl
          rw [hsl] at hv
          have hb : [a.tmps.getD d undef] = [.bool b] := SVc.one1 rfl (by simp) hv
          simp only [List.cons.injEq, and_true] at hb
          have hy := yield_bool hd hb
          cases hx : Bool.xor b want with
          | true =>
            rw [hx] at h
            refine skip ?_ h
            simp only [Region.wanted, hg, hy]
            cases b <;> cases want <;> first | rfl | cases hx
          | false =>
            rw [hx] at h
            refine run s ρ hok ?_ h
            simp only [Region.wanted, hg, hy]
            cases b <;> cases want <;> first | rfl | cases hx
        · rename_i b hsl
          rw [hsl] at hv
          have hb : [a.tmps.getD d undef] = [.bool b] := SVc.one1 rfl (by simp) hv
          simp only [List.cons.injEq, and_true] at hb
          have hy := yield_bool hd hb
          by_cases e : b = want
          · have hok1 := hok.tell d (v := .one (.lit want)) (by rw [hb, e]; exact sv_lit want)
            exact run _ ρ hok1 (by simp [Region.wanted, hg, hy, e]) (h.1 e)
          · have e' : b = !want := by cases b <;> cases want <;> first | rfl | exact absurd rfl e
            have hok1 := hok.tell d (v := .one (.lit !want)) (by rw [hb, e']; exact sv_lit _)
            have hw : Region.wanted o (yielded all.toArray a.tmps) = false := by
              simp only [Region.wanted, hg, hy, e']
              cases want <;> rfl
            unfold wpList
            rw [hw]
            simp only [Bool.false_eq_true, if_false]
            exact ops_sound hX hcall hQ r (i + 1) _ ρ _ w (h.2 e') (hok1.put o.dst sv_undef)
        · rename_i hsl
          rw [hsl] at hv
          obtain ⟨vs, hvs, he⟩ := hv
          have hu : a.tmps.getD d undef = undef := by
            rw [hvs]
            have he : vs.toList = [] := he
            have : vs = #[] := by simpa using he
            rw [this]; rfl
          refine skip ?_ h
          simp [Region.wanted, hg, yield_none hd hu]
        · exact h.elim
      · exact h.elim
end
end Go.Sx
