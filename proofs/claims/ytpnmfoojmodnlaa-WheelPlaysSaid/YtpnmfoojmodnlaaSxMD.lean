/-
  Sx, part MD: an entry of a map is made, and then stored to.
-/
import Derived.Test.YtpnmfoojmodnlaaSxMC
namespace Go.Sx
open Go.RowKit
section
variable {P : Program} {w : World}
theorem entry_new {t kt et : TypeId} {kk : IntKind} {b clock : Nat} {es : Array MapEntry} {i : Int} {z : Value} (hu : P.underlying t = some (.map kt et)) (hku : P.underlying kt = some (.int kk))
    (hb : w.heap[b]? = some (.map es clock)) (hf : Instr.findNow (.int kk) (.int kk i) es.toList 0 = some none) (hz : (zeroValue et).run P w = .ok z w) :
    (Instr.mapEntry t (.map (some b)) (.int kk i)).run P w = .ok (.tuple #[z, goInt clock]) { w with heap := w.heap.setIfInBounds b (.map (es.push { key := .int kk i, val := z, born := clock }) (clock + 1)) } := by
  unfold Instr.mapEntry
  simp only [Sem.run_bind, run_underlying hu, Result.andThen_ok, Go.MapKept.run_getObj_map hb, check_run hku, Go.MapKept.run_findKey hku hf, hz, Go.MapKept.run_setObj_map _ hb, Sem.run_pure]
theorem entry_old {t kt et : TypeId} {kk : IntKind} {b clock j : Nat} {es : Array MapEntry} {i : Int} {v0 : Value} {e : MapEntry} (hu : P.underlying t = some (.map kt et)) (hku : P.underlying kt = some (.int kk))
    (hb : w.heap[b]? = some (.map es clock)) (hf : Instr.findNow (.int kk) (.int kk i) es.toList 0 = some (some (j, v0))) (he : es[j]? = some e) (hek : e.key = .int kk i) :
    (Instr.mapEntry t (.map (some b)) (.int kk i)).run P w = .ok (.tuple #[v0, goInt e.born]) { w with heap := w.heap.setIfInBounds b (.map (es.modify j fun e => { e with key := .int kk i }) clock) } := by
  unfold Instr.mapEntry
  simp only [Sem.run_bind, run_underlying hu, Result.andThen_ok, Go.MapKept.run_getObj_map hb, check_run hku, Go.MapKept.run_findKey hku hf, he, Option.map_some, Option.getD_some, hek, stays_run, Go.MapKept.run_setObj_map _ hb, Sem.run_pure]
theorem estore_run {t : TypeId} {b clock j : Nat} {es : Array MapEntry} {st : Nat} {v : Value} (hb : w.heap[b]? = some (.map es clock)) (hf : es.findIdx? (fun e => (e.born : Int) == (st : Int)) = some j) :
    (Instr.entryStore t (.map (some b)) (goInt st) v).run P w = .ok () { w with heap := w.heap.setIfInBounds b (.map (es.modify j fun e => { e with val := v }) clock) } := by
  unfold Instr.entryStore
  simp only [Sem.run_bind, Result.andThen_ok, Go.MapKept.run_getObj_map hb, goInt, asInt, asIntOf, Sem.run_pure]
  rw [hf]
  simp only [Go.MapKept.run_setObj_map _ hb]
theorem find_push {es : Array MapEntry} {e : MapEntry} {clock : Nat} (hb : ∀ e ∈ es.toList, e.born < clock) (he : e.born = clock) : (es.push e).findIdx? (fun e => (e.born : Int) == (clock : Int)) = some es.size := by
  rw [Array.findIdx?_eq_some_iff_getElem]
  refine ⟨by simp, by simp [he], fun j hj => ?_⟩
  have hj' : j < es.size := hj
  have := hb es[j] (Array.getElem_mem_toList hj')
  rw [Array.getElem_push_lt hj']
  simp
  omega
theorem find_old {es : Array MapEntry} {j : Nat} {e : MapEntry} {f : MapEntry → MapEntry} (he : es[j]? = some e) (hp : es.toList.Pairwise fun a b => a.born ≠ b.born) (hf : ∀ e, (f e).born = e.born) :
    (es.modify j f).findIdx? (fun x => (x.born : Int) == (e.born : Int)) = some j := by
  obtain ⟨hlt, he2⟩ := Array.getElem?_eq_some_iff.1 he
  rw [Array.findIdx?_eq_some_iff_getElem]
  refine ⟨by simpa using hlt, ?_, fun i hi => ?_⟩
  · rw [Array.getElem_modify, if_pos rfl, hf, he2]
    simp
  · rw [Array.getElem_modify, if_neg (by omega)]
    rw [List.pairwise_iff_getElem] at hp
    have := hp i j (by simp; omega) (by simpa using hlt) hi
    rw [← he2]
    simp at this ⊢
    omega
theorem set_set {w : World} {b : Nat} {x y : Obj} : ({ ({ w with heap := w.heap.setIfInBounds b x } : World) with heap := ({ w with heap := w.heap.setIfInBounds b x } : World).heap.setIfInBounds b y } : World) = { w with heap := w.heap.setIfInBounds b y } := by
  simp
end
section
variable {P : Program} {E : Env} {w0 : Base} {w : World} {ρ : Nat → Value} {s s' : St} {a : Act}
theorem insert_run {t : TypeId} {x y z : Operand} {p : Option Prop} (hE : EnvOk P E) (h : Ok w0 ρ s a w) (hs : insertS E s t (ev s x) (ev s y) (ev s z) = some (p, s')) :
    ∃ w' ρ', (Instr.mapUpdate t (a.eval x) (a.eval y) (a.eval z)).run P w = .ok () w' ∧ Ok w0 ρ' s' a w' := by
  have hd := insert_does (P := P) (o := { op := .mapUpdate t x y z, type := 0, pos := "", dst := none, after := #[], guard := none }) (R := fun a' w' => ∃ ρ', Ok w0 ρ' s' a' w') hE h rfl hs (fun ρ a w ho => ⟨ρ, ho⟩)
  have he : ∀ w, (execOp a.eval { op := .mapUpdate t x y z, type := 0, pos := "", dst := none, after := #[], guard := none }).run P w = ((Instr.mapUpdate t (a.eval x) (a.eval y) (a.eval z)).run P w).andThen (fun _ w' => .ok .skip w') := fun w => by
    simp [execOp, Sem.run_bind]
  unfold Does at hd
  rw [he] at hd
  cases hr : (Instr.mapUpdate t (a.eval x) (a.eval y) (a.eval z)).run P w with
  | ok u w1 =>
    rw [hr] at hd
    rcases hd with ⟨v, w', h1, _⟩ | ⟨w', h1, ρ', h2⟩
    · cases h1
    · cases h1
      exact ⟨w1, ρ', rfl, h2⟩
  | halt c w1 =>
    rw [hr] at hd
    rcases hd with ⟨v, w', h1, _⟩ | ⟨w', h1, _⟩ <;> cases h1
/-- The entry made and stored to: as if the map were updated. -/
theorem mapset_run {t : TypeId} {x y z : Operand} {p : Option Prop} (hE : EnvOk P E) (h : Ok w0 ρ s a w)
    {k : Nat} {kk : IntKind} {u : Ty} {xs : List (Int × u.D)} (hm : mapOf (s.hp k) = some (kk, ⟨u, xs⟩)) (hx : ev s x = .one (.row k)) (hs : insertS E s t (ev s x) (ev s y) (ev s z) = some (p, s')) :
    ∃ (v0 : Value) (st : Nat) (w1 w' : World) (ρ' : Nat → Value), (Instr.mapEntry t (a.eval x) (a.eval y)).run P w = .ok (.tuple #[v0, goInt st]) w1 ∧ (Instr.entryStore t (a.eval x) (goInt st) (a.eval z)).run P w1 = .ok () w' ∧ Ok w0 ρ' s' a w' := by
  obtain ⟨w', ρ', hrun, hok⟩ := insert_run hE h hs
  have hs0 := hs
  unfold insertS at hs
  split at hs
  · rename_i kk2 ei kk' i k2 hmt hi hx2
    have hkk2 : k2 = k := by
      rw [hx] at hx2
      injection hx2 with e1
      injection e1 with e2
      exact e2.symm
    subst hkk2
    obtain ⟨kt, et, hu, hku, hT, hag⟩ := mapTy_c hE hmt
    have ey := asInt_c (h.ev y) hi
    cases hkk : decide (kk2 = kk') with
    | false => rw [hkk] at hs; cases hs
    | true =>
      have hkk := of_decide_eq_true hkk
      subst hkk
      have hv := h.ev x
      rw [hx2] at hv
      obtain ⟨_, hv, _⟩ := SVc.one1 rfl (by simp) hv
      simp only [List.cons.injEq, and_true] at hv
      obtain ⟨h0, hk0, hB0, b, es, clock, hbk, hb, hmc, hbo⟩ := mapOf_c h hm
      have hb : w.heap[b]? = some (.map es clock) := hb
      have hvx : a.eval x = .map (some b) := hv.trans hbk
      have hkeq : kk = kk2 := by
        rw [decide_eq_true (rfl : kk2 = kk2)] at hs
        simp only [cond_true, hm] at hs
        cases hg : (decide (kk = kk2) && !u.agg) with
        | false => rw [hg] at hs; cases hs
        | true =>
          simp only [Bool.and_eq_true, decide_eq_true_eq] at hg
          exact hg.1
      subst hkeq
      obtain ⟨_, hlt⟩ : True ∧ b < w.heap.size := ⟨trivial, (Array.getElem?_eq_some_iff.1 hb).1⟩
      rw [hvx, ey] at hrun ⊢
      rcases find_c (i := i) 0 hmc with ⟨f1, f2, f3, f4⟩ | ⟨j, e0, y0, f1, f2, f3, f4, f5, f6, f7⟩
      · obtain ⟨zr, hz, _⟩ := zero_one hT hag w
        rw [update_new hu hku hb f1] at hrun
        refine ⟨zr, clock, _, w', ρ', entry_new hu hku hb f1 hz, ?_, hok⟩
        have hb1 : ({ w with heap := w.heap.setIfInBounds b (.map (es.push { key := .int kk i, val := zr, born := clock }) (clock + 1)) } : World).heap[b]? = some (.map (es.push { key := .int kk i, val := zr, born := clock }) (clock + 1)) := by
          simp [hlt]
        rw [estore_run hb1 (find_push hbo.1 rfl)]
        injection hrun with _ hrun
        rw [← hrun, set_set]
        congr 2
        have : (es.push { key := .int kk i, val := zr, born := clock }).modify es.size (fun e => { e with val := a.eval z }) = es.push { key := .int kk i, val := a.eval z, born := clock } := by
          apply Array.ext_getElem?
          intro q
          rw [Array.getElem?_modify, Array.getElem?_push, Array.getElem?_push]
          by_cases hq : q = es.size
          · simp [hq]
          · rw [if_neg hq, if_neg hq, if_neg (fun e => hq e.symm)]
        rw [this]
      · rw [Nat.zero_add] at f1
        have f2' : es[j]? = some e0 := by simpa using f2
        rw [update_old hu hku hb f1 f2' f3] at hrun
        have he := entry_old (P := P) (w := w) hu hku hb f1 f2' f3
        refine ⟨_, e0.born, _, w', ρ', he, ?_, hok⟩
        have hb1 : ({ w with heap := w.heap.setIfInBounds b (.map (es.modify j fun e => { e with key := .int kk i }) clock) } : World).heap[b]? = some (.map (es.modify j fun e => { e with key := .int kk i }) clock) := by
          simp [hlt]
        rw [estore_run hb1 (find_old f2' hbo.2 (fun _ => rfl))]
        injection hrun with _ hrun
        rw [← hrun, set_set]
        congr 2
        have : (es.modify j fun e => { e with key := .int kk i }).modify j (fun e => { e with val := a.eval z }) = es.modify j fun e => { e with key := .int kk i, val := a.eval z } := by
          apply Array.ext_getElem?
          intro q
          simp only [Array.getElem?_modify]
          by_cases hq : j = q
          · simp only [hq, if_true]
            cases es[q]? <;> rfl
          · simp only [hq, if_false]
        rw [this]
  · cases hs
end
end Go.Sx
