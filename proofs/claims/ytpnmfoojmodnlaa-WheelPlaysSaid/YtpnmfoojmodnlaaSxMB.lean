/-
  Sx, part MB: maps of our own, by whole numbers.
-/
import Derived.Test.YtpnmfoojmodnlaaSxMA
import Derived.MapKept
set_option linter.unusedSimpArgs false
namespace Go.Sx
open Go.RowKit

section
variable {P : Program} {E : Env} {w0 : Base} {w : World} {ρ : Nat → Value} {s s' : St} {a : Act} {o : Oper}

theorem mapTy_c {t : TypeId} {kk : IntKind} {ei : TI} (hE : EnvOk P E) (h : mapTy? E t = some (kk, ei)) :
    ∃ kt et, P.underlying t = some (.map kt et) ∧ P.underlying kt = some (.int kk) ∧ TIok P et ei ∧ ei.kind.agg = false := by
  unfold mapTy? at h
  split at h
  · rename_i kt et z ty ht
    split at h
    · rename_i ei' hk he
      cases hg : ei'.kind.agg with
      | true => simp only [hg, cond_true] at h; cases h
      | false =>
        simp only [hg, cond_false, Option.some.injEq, Prod.mk.injEq] at h
        obtain ⟨rfl, rfl⟩ := h
        exact ⟨kt, et, ((hE _ _ ht).kind).1, ((hE _ _ hk).kind).1, hE _ _ he, hg⟩
    · cases h
  · cases h

/-- What the search for a key finds. -/
theorem find_c {c : Cx} {kk : IntKind} {t : Ty} {i : Int} : ∀ {es : List MapEntry} {xs : List (Int × t.D)} (n : Nat), MapC c kk t es xs →
    (Instr.findNow (.int kk) (.int kk i) es n = some none ∧ mget? t xs i = none ∧ mdel t xs i = xs ∧
      ∀ c' (e : MapEntry) (y : t.D), MapC c' kk t es xs → e.key = .int kk i → IR kk i → Rd c'.S c'.w t [e.val] y → MapC c' kk t (es ++ [e]) (mput t xs i y)) ∨
    ∃ j e y, Instr.findNow (.int kk) (.int kk i) es n = some (some (n + j, e.val)) ∧ es[j]? = some e ∧ e.key = .int kk i ∧ mget? t xs i = some y ∧ Rd c.S c.w t [e.val] y ∧
      (∀ c', MapC c' kk t es xs → MapC c' kk t (es.eraseIdx j) (mdel t xs i)) ∧
      ∀ c' (e' : MapEntry) (y : t.D), MapC c' kk t es xs → e'.key = .int kk i → IR kk i → Rd c'.S c'.w t [e'.val] y → MapC c' kk t (es.set j e') (mput t xs i y)
  | [], [], n, _ => .inl ⟨rfl, rfl, rfl, fun c' e y _ he hi hr => ⟨⟨he, hi, hr⟩, trivial⟩⟩
  | e :: es, x :: xs, n, h => by
    obtain ⟨⟨h1, h2, h3⟩, h4⟩ := h
    unfold Instr.findNow
    by_cases hx : x.1 = i
    · refine .inr ⟨0, e, x.2, ?_, rfl, by rw [h1, hx], by simp [mget?, hx], h3, fun c' h' => ?_, fun c' e' y h' he hi hr => ?_⟩
      · rw [h1]
        simp [Instr.sameNow, hx]
      · have e1 : mdel t (x :: xs) i = xs := by simp [mdel, hx]
        rw [e1]; exact h'.2
      · have e1 : mput t (x :: xs) i y = (i, y) :: xs := by simp [mput, hx]
        rw [e1]; exact ⟨⟨he, hi, hr⟩, h'.2⟩
    · have hs : Instr.sameNow (.int kk) (.int kk i) e.key = some false := by
        rw [h1]
        have : ¬ i = x.1 := fun e => hx e.symm
        simp [Instr.sameNow, this]
      rw [hs]
      simp only []
      have ed : mdel t (x :: xs) i = x :: mdel t xs i := by simp [mdel, hx]
      have ep : ∀ y, mput t (x :: xs) i y = x :: mput t xs i y := fun y => by simp [mput, hx]
      have eg : mget? t (x :: xs) i = mget? t xs i := by simp [mget?, hx]
      rw [ed, eg]
      rcases find_c (i := i) (n + 1) h4 with ⟨f1, f2, f3, f4⟩ | ⟨j, e0, y0, f1, f2, f3, f4, f5, f6, f7⟩
      · refine .inl ⟨f1, f2, by rw [f3], fun c' e' y h' he hi hr => ?_⟩
        rw [ep]
        exact ⟨h'.1, f4 c' e' y h'.2 he hi hr⟩
      · refine .inr ⟨j + 1, e0, y0, by rw [f1, show n + 1 + j = n + (j + 1) by omega], f2, f3, f4, f5, fun c' h' => ⟨h'.1, f6 c' h'.2⟩, fun c' e' y h' he hi hr => ?_⟩
        rw [ep]
        exact ⟨h'.1, f7 c' e' y h'.2 he hi hr⟩
  | [], _ :: _, _, h => h.elim
  | _ :: _, [], _, h => h.elim
theorem MapC.len {c : Cx} {kk : IntKind} {t : Ty} : ∀ {es : List MapEntry} {xs : List (Int × t.D)}, MapC c kk t es xs → es.length = xs.length
  | [], [], _ => rfl
  | _ :: _, _ :: _, h => by simp [MapC.len h.2]
  | [], _ :: _, h => h.elim
  | _ :: _, [], h => h.elim
/-- The same where the entries are told one by one. -/
theorem pfind_c {c : Cx} {kk : IntKind} {i : Int} : ∀ {es : List MapEntry} {xs : List (Int × PV)} (n : Nat), PMapC c kk es xs →
    (Instr.findNow (.int kk) (.int kk i) es n = some none ∧ pget? xs i = none ∧
      ∀ c' (e : MapEntry) (p : PV), PMapC c' kk es xs → e.key = .int kk i → p.agg = false → PVc c' p [e.val] → PMapC c' kk (es ++ [e]) (pput xs i p)) ∨
    ∃ j e p, Instr.findNow (.int kk) (.int kk i) es n = some (some (n + j, e.val)) ∧ es[j]? = some e ∧ e.key = .int kk i ∧ pget? xs i = some p ∧ p.agg = false ∧ PVc c p [e.val] ∧
      ∀ c' (e' : MapEntry) (p : PV), PMapC c' kk es xs → e'.key = .int kk i → p.agg = false → PVc c' p [e'.val] → PMapC c' kk (es.set j e') (pput xs i p)
  | [], [], n, _ => .inl ⟨rfl, rfl, fun c' e y _ he hi hr => ⟨⟨he, hi, hr⟩, trivial⟩⟩
  | e :: es, x :: xs, n, h => by
    obtain ⟨⟨h1, h2, h3⟩, h4⟩ := h
    unfold Instr.findNow
    by_cases hx : x.1 = i
    · refine .inr ⟨0, e, x.2, ?_, rfl, by rw [h1, hx], by simp [pget?, hx], h2, h3, fun c' e' y h' he hi hr => ?_⟩
      · rw [h1]
        simp [Instr.sameNow, hx]
      · have e1 : pput (x :: xs) i y = (i, y) :: xs := by simp [pput, hx]
        rw [e1]; exact ⟨⟨he, hi, hr⟩, h'.2⟩
    · have hs : Instr.sameNow (.int kk) (.int kk i) e.key = some false := by
        rw [h1]
        have : ¬ i = x.1 := fun e => hx e.symm
        simp [Instr.sameNow, this]
      rw [hs]
      simp only []
      have ep : ∀ y, pput (x :: xs) i y = x :: pput xs i y := fun y => by simp [pput, hx]
      have eg : pget? (x :: xs) i = pget? xs i := by simp [pget?, hx]
      rw [eg]
      rcases pfind_c (i := i) (n + 1) h4 with ⟨f1, f2, f4⟩ | ⟨j, e0, y0, f1, f2, f3, f4, f5, f6, f7⟩
      · refine .inl ⟨f1, f2, fun c' e' y h' he hi hr => ?_⟩
        rw [ep]
        exact ⟨h'.1, f4 c' e' y h'.2 he hi hr⟩
      · refine .inr ⟨j + 1, e0, y0, by rw [f1, show n + 1 + j = n + (j + 1) by omega], f2, f3, f4, f5, f6, fun c' e' y h' he hi hr => ?_⟩
        rw [ep]
        exact ⟨h'.1, f7 c' e' y h'.2 he hi hr⟩
  | [], _ :: _, _, h => h.elim
  | _ :: _, [], _, h => h.elim

theorem stays_run (w : World) (kk : IntKind) (i : Int) : (Instr.keyThatStays (.int kk i) (.int kk i)).run P w = .ok (.int kk i) w := by
  unfold Instr.keyThatStays
  simp [Instr.sameBits, Sem.run_pure]
theorem check_run {kt : TypeId} {kk : IntKind} (hk : P.underlying kt = some (.int kk)) (e : Bool) (i : Int) : (Instr.checkKey e 10000 kt (.int kk i)).run P w = .ok () w :=
  Go.MapKept.run_checkKey hk (by simp [Go.MapKept.IsKey]) e 9999
theorem born_nil (clock : Nat) : BornOk [] clock := ⟨fun e he => (by cases he), List.Pairwise.nil⟩
theorem born_push {es : List MapEntry} {clock : Nat} {e : MapEntry} (h : BornOk es clock) (he : e.born = clock) : BornOk (es ++ [e]) (clock + 1) := by
  refine ⟨fun x hx => ?_, ?_⟩
  · rcases List.mem_append.1 hx with hx | hx
    · have := h.1 x hx; omega
    · have : x = e := by simpa using hx
      rw [this, he]; omega
  · rw [List.pairwise_append]
    refine ⟨h.2, List.pairwise_singleton _ _, fun x hx y hy => ?_⟩
    have : y = e := by simpa using hy
    rw [this, he]
    have := h.1 x hx
    omega
theorem born_erase {es : List MapEntry} {clock : Nat} (j : Nat) (h : BornOk es clock) : BornOk (es.eraseIdx j) clock :=
  ⟨fun x hx => h.1 x (List.mem_of_mem_eraseIdx hx), h.2.sublist (List.eraseIdx_sublist es j)⟩
theorem born_set {es : List MapEntry} {clock j : Nat} {e e' : MapEntry} (h : BornOk es clock) (hj : es[j]? = some e) (he : e'.born = e.born) : BornOk (es.set j e') clock := by
  have hb : (es.set j e').map (·.born) = es.map (·.born) := by
    apply List.ext_getElem?
    intro n
    rw [List.getElem?_map, List.getElem?_map, List.getElem?_set]
    by_cases hn : j = n
    · subst hn
      have hlt := (List.getElem?_eq_some_iff.1 hj).1
      simp only [hlt, if_true, hj, Option.map_some, he]
    · simp only [hn, if_false]
  refine ⟨fun x hx => ?_, ?_⟩
  · have h1 : x.born ∈ (es.set j e').map (·.born) := List.mem_map_of_mem hx
    rw [hb] at h1
    obtain ⟨y, hy, hxy⟩ := List.mem_map.1 h1
    rw [← hxy]; exact h.1 y hy
  · have h1 := List.pairwise_map.2 h.2
    rw [← hb] at h1
    exact List.pairwise_map.1 h1
/-- A map, iterated over or not. -/
theorem mapOf_c {k : Nat} {kk : IntKind} {u : Ty} {xs : List (Int × u.D)} (h : Ok w0 ρ s a w) (hk : mapOf (s.hp k) = some (kk, ⟨u, xs⟩)) :
    ∃ h0, s.hp k = some h0 ∧ (∀ b v, blkOf v = some b → Bk h0 v b) ∧ ∃ b es clock, ρ k = .map (some b) ∧ w.heap[b]? = some (.map es clock) ∧ MapC (cx w0 ρ s w) kk u es.toList xs ∧ BornOk es.toList clock := by
  unfold mapOf at hk
  split at hk
  · rename_i kk' t' xs' he
    simp only [Option.some.injEq, Prod.mk.injEq] at hk
    obtain ⟨rfl, hk⟩ := hk
    cases hk
    exact ⟨_, he, fun b v hb => hb, h.heap k _ he⟩
  · rename_i kk' t' xs' r rem cur he
    simp only [Option.some.injEq, Prod.mk.injEq] at hk
    obtain ⟨rfl, hk⟩ := hk
    cases hk
    obtain ⟨b, es, clock, seen, h1, ⟨h2, _⟩, h3, h4, _⟩ := h.heap k _ he
    exact ⟨_, he, fun b v hb => .inl hb, b, es, clock, h1, h2, h3, h4⟩
  · cases hk
/-- A map's own block is written. -/
theorem map_fin {R : Act → World → Prop} {k b clock clock' : Nat} {es es' : Array MapEntry} {h0 he : HE} {sv : SV} {v : Value} (h : Ok w0 ρ s a w) (hk : s.hp k = some h0) (hB : ∀ b v, blkOf v = some b → Bk h0 v b) (hpl : he.pl = true) (hbk : ρ k = .map (some b))
    (hb : w.heap[b]? = some (.map es clock))
    (hhe : ∀ w', w'.heap[b]? = some (.map es' clock') → (cx w0 ρ s w).le (cx w0 ρ (s.upd k he) w') → HEc (cx w0 ρ (s.upd k he) w') k he)
    (hsv : ∀ c, SVc c sv v) (hR : Up w0 ((s.upd k he).put o.dst sv) R) : R (a.put o.dst v) { w with heap := w.heap.setIfInBounds b (.map es' clock') } := by
  obtain ⟨hs1, hs2⟩ := Go.MapKept.heap_set (o' := .map es' clock') hb
  have hbk' : blkOf (ρ k) = some b := by rw [hbk]; rfl
  have hold : ∀ b', b' < w.heap.size → ¬ Bk h0 (ρ k) b' → ({ w with heap := w.heap.setIfInBounds b (.map es' clock') } : World).heap[b']? = w.heap[b']? := fun b' _ hne => hs2 b' (fun e => hne (by rw [e]; exact hB _ _ hbk'))
  have hBk : ∀ b', Bk he (ρ k) b' → Bk h0 (ρ k) b' ∨ (w.heap.size ≤ b' ∧ b' < ({ w with heap := w.heap.setIfInBounds b (.map es' clock') } : World).heap.size) := fun b' hb' => .inl (hB _ _ ((Bk_pl hpl).1 hb'))
  have hle := upd_le (he := he) (w' := { w with heap := w.heap.setIfInBounds b (.map es' clock') }) h hk hBk (by simp) hold
  have hfr := h.fresh k h0 b hk (hB _ _ hbk')
  have hbel : BelowS w0.old w { w with heap := w.heap.setIfInBounds b (.map es' clock') } := ⟨rfl, rfl, rfl, by simp, fun n hn => hs2 n (fun e => hfr.1 (e ▸ hn))⟩
  exact hR ρ _ _ ((h.upd hk hBk hbel hold (hhe _ hs1 hle)).put o.dst (hsv _))

theorem modify_eq {es : Array MapEntry} {j : Nat} {e e' : MapEntry} {f : MapEntry → MapEntry} (he : es.toList[j]? = some e) (hf : f e = e') : (es.modify j f).toList = es.toList.set j e' := by
  rw [Array.toList_modify]
  apply List.ext_getElem?
  intro n
  rw [List.getElem?_modify, List.getElem?_set]
  by_cases hn : j = n
  · subst hn
    have hlt := (List.getElem?_eq_some_iff.1 he).1
    have hlt' : j < es.size := by simpa using hlt
    have e0 : es[j] = e := by have := (List.getElem?_eq_some_iff.1 he).2; simpa using this
    simp [hlt', e0, hf]
  · simp [hn]
theorem update_new {t kt et : TypeId} {kk : IntKind} {b clock : Nat} {es : Array MapEntry} {i : Int} {v : Value} (hu : P.underlying t = some (.map kt et)) (hku : P.underlying kt = some (.int kk))
    (hb : w.heap[b]? = some (.map es clock)) (hf : Instr.findNow (.int kk) (.int kk i) es.toList 0 = some none) :
    (Instr.mapUpdate t (.map (some b)) (.int kk i) v).run P w = .ok () { w with heap := w.heap.setIfInBounds b (.map (es.push { key := .int kk i, val := v, born := clock }) (clock + 1)) } := by
  unfold Instr.mapUpdate
  simp only [Sem.run_bind, run_underlying hu, Result.andThen_ok, Go.MapKept.run_getObj_map hb, check_run hku, Go.MapKept.run_findKey hku hf, Go.MapKept.run_setObj_map _ hb]
theorem update_old {t kt et : TypeId} {kk : IntKind} {b clock j : Nat} {es : Array MapEntry} {i : Int} {v v0 : Value} {e : MapEntry} (hu : P.underlying t = some (.map kt et)) (hku : P.underlying kt = some (.int kk))
    (hb : w.heap[b]? = some (.map es clock)) (hf : Instr.findNow (.int kk) (.int kk i) es.toList 0 = some (some (j, v0))) (he : es[j]? = some e) (hek : e.key = .int kk i) :
    (Instr.mapUpdate t (.map (some b)) (.int kk i) v).run P w = .ok () { w with heap := w.heap.setIfInBounds b (.map (es.modify j fun e => { e with key := .int kk i, val := v }) clock) } := by
  unfold Instr.mapUpdate
  simp only [Sem.run_bind, run_underlying hu, Result.andThen_ok, Go.MapKept.run_getObj_map hb, check_run hku, Go.MapKept.run_findKey hku hf, he, Option.map_some, Option.getD_some, hek, stays_run, Go.MapKept.run_setObj_map _ hb]
theorem insert_does {t : TypeId} {x y z : Operand} {p : Option Prop} {R : Act → World → Prop} (hE : EnvOk P E) (h : Ok w0 ρ s a w)
    (hexec : execOp a.eval o = (do Instr.mapUpdate t (a.eval x) (a.eval y) (a.eval z); pure .skip))
    (hs : insertS E s t (ev s x) (ev s y) (ev s z) = some (p, s')) (hR : Up w0 (s'.put o.dst (.one .any)) R) : Does P o a w R := by
  unfold insertS at hs
  split at hs
  · rename_i kk ei kk' i k hmt hi hx
    obtain ⟨kt, et, hu, hku, hT, hag⟩ := mapTy_c hE hmt
    have ey := asInt_c (h.ev y) hi
    have hir := asInt_ir (h.ev y) hi
    cases hkk : decide (kk = kk') with
    | false => rw [hkk] at hs; cases hs
    | true =>
      rw [hkk] at hs
      simp only [cond_true] at hs
      have hkk := of_decide_eq_true hkk
      subst hkk
      have hv := h.ev x
      rw [hx] at hv
      obtain ⟨_, hv, _⟩ := SVc.one1 rfl (by simp) hv
      simp only [List.cons.injEq, and_true] at hv
      split at hs
      · rename_i kk2 u xs hk
        cases hg : (decide (kk2 = kk) && !u.agg) with
        | false => rw [hg] at hs; cases hs
        | true =>
          rw [hg] at hs
          simp only [cond_true] at hs
          simp only [Bool.and_eq_true, Bool.not_eq_true', decide_eq_true_eq] at hg
          obtain ⟨hkk2, hua⟩ := hg
          subst hkk2
          split at hs
          · cases hs
          · rename_i q hq hz
            cases hqa : q.agg with
            | true => rw [hqa] at hs; cases hs
            | false =>
            rw [hqa] at hs
            simp only [cond_false] at hs
            split at hs
            · rename_i yv hyv
              simp only [ok, Option.some.injEq, Prod.mk.injEq] at hs
              obtain ⟨_, rfl⟩ := hs
              have hzc := h.ev z
              rw [hz] at hzc
              have hm := parts_c (SVc.one1 hqa hq hzc)
              have hrd : Rd (Free w0 ρ s.hp w) w u [a.eval z] yv := rdAll_c (c := cx w0 ρ s w) hyv hm
              obtain ⟨h0, hk0, hB0, b, es, clock, hbk, hb, hmc, hbo⟩ := mapOf_c h hk
              rcases find_c (i := i) 0 hmc with ⟨f1, f2, f3, f4⟩ | ⟨j, e0, y0, f1, f2, f3, f4, f5, f6, f7⟩
              · refine .inr ⟨_, by rw [hexec]; simp only [Sem.run_bind, hv, show (cx w0 ρ s w).ρ k = _ from hbk, ey, update_new hu hku hb f1, Result.andThen_ok, Sem.run_pure]; rfl, ?_⟩
                refine map_fin (he := .map kk2 u (mput u xs i yv)) h hk0 hB0 rfl hbk hb (fun w' hw' hle => ⟨b, _, _, hbk, hw', ?_, ?_⟩) (fun c => SVc_any _) hR
                · rw [Array.toList_push]
                  exact f4 _ _ _ (hmc.mono hle) rfl hir (Rd.mono hle.keep hrd)
                · rw [Array.toList_push]
                  exact born_push hbo rfl
              · rw [Nat.zero_add] at f1
                have f2' : es[j]? = some e0 := by simpa using f2
                refine .inr ⟨_, by rw [hexec]; simp only [Sem.run_bind, hv, show (cx w0 ρ s w).ρ k = _ from hbk, ey, update_old hu hku hb f1 f2' f3, Result.andThen_ok, Sem.run_pure]; rfl, ?_⟩
                refine map_fin (he := .map kk2 u (mput u xs i yv)) h hk0 hB0 rfl hbk hb (fun w' hw' hle => ⟨b, _, _, hbk, hw', ?_, ?_⟩) (fun c => SVc_any _) hR
                · rw [modify_eq f2 rfl]
                  exact f7 _ _ _ (hmc.mono hle) rfl hir (Rd.mono hle.keep hrd)
                · rw [modify_eq f2 rfl]
                  exact born_set hbo f2 rfl
            · cases hs
          · cases hs
      · split at hs
        case h_2 => cases hs
        rename_i kk2 xs hk
        cases hg : decide (kk2 = kk) with
        | false => rw [hg] at hs; cases hs
        | true =>
          rw [hg] at hs
          simp only [cond_true] at hs
          have hg := of_decide_eq_true hg
          subst hg
          split at hs
          · cases hs
          · rename_i q hq hz
            cases hqa : q.agg with
            | true => rw [hqa] at hs; cases hs
            | false =>
              rw [hqa] at hs
              simp only [cond_false, ok, Option.some.injEq, Prod.mk.injEq] at hs
              obtain ⟨_, rfl⟩ := hs
              have hzc := h.ev z
              rw [hz] at hzc
              have hm := SVc.one1 hqa hq hzc
              obtain ⟨b, es, clock, hbk, hb, hmc⟩ := h.heap k _ hk
              have hbk : ρ k = .map (some b) := hbk
              have hb : w.heap[b]? = some (.map es clock) := hb
              rcases pfind_c (i := i) 0 hmc with ⟨f1, f2, f4⟩ | ⟨j, e0, y0, f1, f2, f3, f4, f5, f6, f7⟩
              · refine .inr ⟨_, by rw [hexec]; simp only [Sem.run_bind, hv, show (cx w0 ρ s w).ρ k = _ from hbk, ey, update_new hu hku hb f1, Result.andThen_ok, Sem.run_pure]; rfl, ?_⟩
                refine map_fin (he := .pmap kk2 (pput xs i q)) h hk (fun _ _ e => e) rfl hbk hb (fun w' hw' hle => ⟨b, _, _, hbk, hw', ?_⟩) (fun c => SVc_any _) hR
                rw [Array.toList_push]
                exact f4 _ _ _ (hmc.mono hle) rfl hqa (PVc.mono hle hm)
              · rw [Nat.zero_add] at f1
                have f2' : es[j]? = some e0 := by simpa using f2
                refine .inr ⟨_, by rw [hexec]; simp only [Sem.run_bind, hv, show (cx w0 ρ s w).ρ k = _ from hbk, ey, update_old hu hku hb f1 f2' f3, Result.andThen_ok, Sem.run_pure]; rfl, ?_⟩
                refine map_fin (he := .pmap kk2 (pput xs i q)) h hk (fun _ _ e => e) rfl hbk hb (fun w' hw' hle => ⟨b, _, _, hbk, hw', ?_⟩) (fun c => SVc_any _) hR
                rw [modify_eq f2 rfl]
                exact f7 _ _ _ (hmc.mono hle) rfl hqa (PVc.mono hle hm)
          · cases hs
  · cases hs
theorem makeMap_does {t : TypeId} {k : Nat} {p : Option Prop} {R : Act → World → Prop} (h : Ok w0 ρ s a w) (ho : o.op = .makeMap t none)
    (hs : makeMapS E s k o.dst t = some (p, s')) (hR : Up w0 s' R) : Does P o a w R := by
  unfold makeMapS at hs
  split at hs
  · rename_i kk ei hmt
    cases hus : s.us k with
    | true => rw [hus] at hs; cases hs
    | false =>
      rw [hus] at hs
      simp only [cond_false] at hs
      have hexec : (execOp a.eval o).run P w = .ok (.value (.map (some w.heap.size))) (w.alloc (.map #[] 0)) := by simp [execOp, ho, run_makeMap, Result.andThen]
      have key : ∀ he : HE, he.pl = true → (∀ c : Cx, c.ρ k = .map (some w.heap.size) → c.w.heap[w.heap.size]? = some (.map #[] 0) → HEc c k he) → Up w0 ((s.new k he).put o.dst (.one (.row k))) R → Does P o a w R := fun he hpl hhe hR => by
        have hok := h.new (he := he) (v := .map (some w.heap.size)) hus (More.alloc w (.map #[] 0)) (fun b e => by have e := (Bk_pl hpl).1 e; injection e with e; subst e; exact ⟨Nat.le_refl _, by simp⟩)
          (hhe _ (rset_same _ _ _) (heap_alloc_new w _))
        have e3 : rset ρ k (.map (some w.heap.size)) k = .map (some w.heap.size) := rset_same _ _ _
        exact .inl ⟨_, _, hexec, hR _ _ _ (hok.put o.dst (SVc.of1 (p := .row k) rfl ⟨uset_same _ _, by show [_] = [rset ρ k _ k]; rw [e3], by show (rset ρ k _ k).oneCell' = true; rw [e3]; rfl⟩))⟩
      split at hs
      · rename_i u _
        simp only [ok, Option.some.injEq, Prod.mk.injEq] at hs
        obtain ⟨_, rfl⟩ := hs
        exact key (.map kk u []) rfl (fun c h1 h2 => ⟨_, _, _, h1, h2, trivial, born_nil _⟩) hR
      · simp only [ok, Option.some.injEq, Prod.mk.injEq] at hs
        obtain ⟨_, rfl⟩ := hs
        exact key (.pmap kk []) rfl (fun c h1 h2 => ⟨_, _, _, h1, h2, trivial⟩) hR
  · cases hs
/-- What a look-up finds. -/
theorem lookup_run {t kt et : TypeId} {kk : IntKind} {b clock : Nat} {es : Array MapEntry} {i : Int} {r : Option (Nat × Value)} {two : Bool} {z : Value} (hu : P.underlying t = some (.map kt et)) (hku : P.underlying kt = some (.int kk))
    (hz : (zeroValue et).run P w = .ok z w) (hb : w.heap[b]? = some (.map es clock)) (hf : Instr.findNow (.int kk) (.int kk i) es.toList 0 = some r) :
    (Instr.lookup t (.map (some b)) (.int kk i) two).run P w = .ok (match r with
      | some (_, v) => (if two then .tuple #[v, .bool true] else v)
      | none => (if two then .tuple #[z, .bool false] else z)) w := by
  unfold Instr.lookup
  cases r with
  | none => cases two <;> simp [Sem.run_bind, run_underlying hu, Result.andThen_ok, Go.MapKept.run_getObj_map hb, check_run hku, Go.MapKept.run_findKey hku hf, hz, Sem.run_pure]
  | some jv => cases two <;> simp [Sem.run_bind, run_underlying hu, Result.andThen_ok, Go.MapKept.run_getObj_map hb, check_run hku, Go.MapKept.run_findKey hku hf, Sem.run_pure]
theorem lookup_nil {t kt et : TypeId} {kk : IntKind} {i : Int} {two : Bool} {z : Value} (hu : P.underlying t = some (.map kt et)) (hku : P.underlying kt = some (.int kk))
    (hz : (zeroValue et).run P w = .ok z w) :
    (Instr.lookup t (.map none) (.int kk i) two).run P w = .ok (if two then .tuple #[z, .bool false] else z) w := by
  unfold Instr.lookup
  have hf : Instr.findNow (.int kk) (.int kk i) (#[] : Array MapEntry).toList 0 = some none := rfl
  have hf' := Go.MapKept.run_findKey (P := P) (w := w) hku hf
  cases two <;> simp [Sem.run_bind, run_underlying hu, Result.andThen_ok, check_run hku, hf', hz, Sem.run_pure]
theorem MapC.of {c : Cx} {kk : IntKind} {t : Ty} : ∀ {es : List MapEntry} {xs : List (Int × t.D)}, es.length = xs.length →
    (∀ (i : Nat) x, xs[i]? = some x → ∃ e, es[i]? = some e ∧ e.key = .int kk x.1 ∧ IR kk x.1 ∧ Rd c.S c.w t [e.val] x.2) → MapC c kk t es xs
  | [], [], _, _ => trivial
  | e :: es, x :: xs, hl, h => by
    refine ⟨?_, MapC.of (by simpa using hl) fun i y hy => ?_⟩
    · obtain ⟨e', h1, h2⟩ := h 0 x rfl
      simp only [List.getElem?_cons_zero, Option.some.injEq] at h1
      subst h1
      exact h2
    · simpa using h (i + 1) y (by simpa using hy)
  | [], _ :: _, hl, _ => by simp at hl
  | _ :: _, [], hl, _ => by simp at hl
theorem MapC.to {c : Cx} {kk : IntKind} {t : Ty} : ∀ {es : List MapEntry} {xs : List (Int × t.D)}, MapC c kk t es xs → es.length = xs.length ∧
    ∀ (i : Nat) x, xs[i]? = some x → ∃ e, es[i]? = some e ∧ e.key = .int kk x.1 ∧ IR kk x.1 ∧ Rd c.S c.w t [e.val] x.2
  | [], [], _ => ⟨rfl, fun i x h => by simp at h⟩
  | e :: es, x :: xs, h => by
    obtain ⟨h1, h2⟩ := MapC.to h.2
    refine ⟨by simp [h1], fun i y hy => ?_⟩
    cases i with
    | zero =>
      simp only [List.getElem?_cons_zero, Option.some.injEq] at hy
      subst hy
      exact ⟨e, rfl, h.1⟩
    | succ i => simpa using h2 i y (by simpa using hy)
  | [], _ :: _, h => h.elim
  | _ :: _, [], h => h.elim
theorem zero_one {et : TypeId} {ei : TI} (hT : TIok P et ei) (hag : ei.kind.agg = false) (w : World) : ∃ z, (zeroValue et).run P w = .ok z w ∧ [z] = cellsPs ei.zero := by
  obtain ⟨z, h1, h2⟩ := hT.run_zero w
  refine ⟨z, h1, ?_⟩
  obtain ⟨i, z', g1, g2, g3, g4, g5⟩ := hT.info
  have hzz : z' = z := by simp [zeroValue, typeInfo, g1, g4] at h1; exact h1
  rw [hag] at g5
  subst hzz
  have hone := (cellsPs_c (c := ⟨fun _ => undef, fun _ => false, fun _ => False, w⟩) hT.flat).one
  have hs : ei.size = 1 := by
    rcases hT.one with h1 | h1
    · rw [hag] at h1; cases h1
    · exact h1
  have hl := hT.size
  rw [hs] at hl
  match hc : cellsPs ei.zero, hl with
  | [q], _ =>
    rw [hc] at g5
    have : z' = q := g5
    rw [this]
theorem lookup_does {t : TypeId} {x y : Operand} {two : Bool} {p : Option Prop} {R : Act → World → Prop} (hE : EnvOk P E) (h : Ok w0 ρ s a w) (ho : o.op = .lookup t x y two)
    (hs : lookupS E s o.dst t (ev s x) (ev s y) two = some (p, s')) (hp : vcP p) (hR : Up w0 s' R) : Does P o a w R := by
  have hexec : execOp a.eval o = (do pure (.value (← Instr.lookup t (a.eval x) (a.eval y) two))) := by simp [execOp, ho]
  unfold lookupS at hs
  split at hs
  · rename_i kk ei kk' i k hmt hi hx
    obtain ⟨kt, et, hu, hku, hT, hag⟩ := mapTy_c hE hmt
    have ey := asInt_c (h.ev y) hi
    cases hkk : decide (kk = kk') with
    | false => rw [hkk] at hs; cases hs
    | true =>
      rw [hkk] at hs
      simp only [cond_true] at hs
      have hkk := of_decide_eq_true hkk
      subst hkk
      have hv := h.ev x
      rw [hx] at hv
      obtain ⟨_, hv, _⟩ := SVc.one1 rfl (by simp) hv
      simp only [List.cons.injEq, and_true] at hv
      obtain ⟨z, hz, hzc⟩ := zero_one hT hag w
      split at hs
      · rename_i kk2 u xs hk
        cases hg : (decide (kk2 = kk) && !u.agg && tyO u ei.ty) with
        | false => rw [hg] at hs; cases hs
        | true =>
          rw [hg] at hs
          simp only [cond_true] at hs
          simp only [Bool.and_eq_true, Bool.not_eq_true', decide_eq_true_eq] at hg
          obtain ⟨⟨hkk2, hua⟩, hty⟩ := hg
          subst hkk2
          have hzr : Rd (Free w0 ρ s.hp w) w u [z] u.zero := by
            have := hT.ty
            cases hu' : ei.ty with
            | none => rw [hu'] at hty; cases hty
            | some u' =>
              rw [hu'] at hty
              have hty := of_decide_eq_true hty
              subst hty
              rw [hu'] at this
              rw [hzc, ← this.2.2.2]
              exact cellsD_rd this.2.2.1
          obtain ⟨h0, hk0, hB0, b, es, clock, hbk, hb, hmc, hbo⟩ := mapOf_c h hk
          have hfin : ∀ (v : Value) (y1 : u.D) (q : Bool), Rd (Free w0 ρ s.hp w) w u [v] y1 → mval u xs i = y1 → mhas u xs i = q →
              (Instr.lookup t (a.eval x) (a.eval y) two).run P w = .ok (if two then .tuple #[v, .bool q] else v) w → Does P o a w R := by
            intro v y' q hr hg hh hrun
            cases two with
            | true =>
              simp only [cond_true, ok, Option.some.injEq, Prod.mk.injEq] at hs
              obtain ⟨_, rfl⟩ := hs
              refine does_value (v := .tuple #[v, .bool q]) h hexec hrun ?_ hR
              refine ⟨_, rfl, v, [.bool q], rfl, ?_, .bool q, [], rfl, ?_, rfl⟩
              · rw [hg]; exact PsC.single (p := .d u y') hr
              · rw [hh]; exact PsC.single (p := .d .bool q) rfl
            | false =>
              simp only [cond_false, ok, Option.some.injEq, Prod.mk.injEq] at hs
              obtain ⟨_, rfl⟩ := hs
              rw [hg] at hR
              exact does_value (v := v) h hexec hrun (SVc.of1 (p := .d u y') hua hr) hR
          rcases find_c (i := i) 0 hmc with ⟨f1, f2, f3, f4⟩ | ⟨j, e0, y0, f1, f2, f3, f4, f5, f6, f7⟩
          · refine hfin z u.zero false hzr (by simp [mval, f2]) (by simp [mhas, f2]) ?_
            rw [hv, show (cx w0 ρ s w).ρ k = _ from hbk, ey, lookup_run hu hku hz hb f1]
          · refine hfin e0.val y0 true f5 (by simp [mval, f4]) (by simp [mhas, f4]) ?_
            rw [hv, show (cx w0 ρ s w).ρ k = _ from hbk, ey, lookup_run hu hku hz hb f1]
      · cases hs
  · rename_i kk ei kk' i kk2 u xs hmt hi hx
    obtain ⟨kt, et, hu, hku, hT, hag⟩ := mapTy_c hE hmt
    have ey := asInt_c (h.ev y) hi
    cases hg0 : (decide (kk = kk') && (decide (kk2 = kk') && !u.agg && tyO u ei.ty)) with
    | false => rw [hg0] at hs; cases hs
    | true =>
      rw [hg0] at hs
      simp only [cond_true] at hs
      simp only [Bool.and_eq_true, Bool.not_eq_true', decide_eq_true_eq] at hg0
      obtain ⟨hkk, ⟨hkk2, hua⟩, hty⟩ := hg0
      subst hkk; subst hkk2
      have hv := h.ev x
      rw [hx] at hv
      have hv : Rd (Free w0 ρ s.hp w) w (.mp kk2 u) [a.eval x] xs := SVc.one1 rfl (by simp) hv
      obtain ⟨z, hz, hzc⟩ := zero_one hT hag w
      have hzr : Rd (Free w0 ρ s.hp w) w u [z] u.zero := by
        have := hT.ty
        cases hu' : ei.ty with
        | none => rw [hu'] at hty; cases hty
        | some u' =>
          rw [hu'] at hty
          have hty := of_decide_eq_true hty
          subst hty
          rw [hu'] at this
          rw [hzc, ← this.2.2.2]
          exact cellsD_rd this.2.2.1
      have hfin : ∀ (v : Value) (y1 : u.D) (q : Bool), Rd (Free w0 ρ s.hp w) w u [v] y1 → mval u xs i = y1 → mhas u xs i = q →
          (Instr.lookup t (a.eval x) (a.eval y) two).run P w = .ok (if two then .tuple #[v, .bool q] else v) w → Does P o a w R := by
        intro v y' q hr hg hh hrun
        cases two with
        | true =>
          simp only [cond_true, ok, Option.some.injEq, Prod.mk.injEq] at hs
          obtain ⟨_, rfl⟩ := hs
          refine does_value (v := .tuple #[v, .bool q]) h hexec hrun ?_ hR
          refine ⟨_, rfl, v, [.bool q], rfl, ?_, .bool q, [], rfl, ?_, rfl⟩
          · rw [hg]; exact PsC.single (p := .d u y') hr
          · rw [hh]; exact PsC.single (p := .d .bool q) rfl
        | false =>
          simp only [cond_false, ok, Option.some.injEq, Prod.mk.injEq] at hs
          obtain ⟨_, rfl⟩ := hs
          rw [hg] at hR
          exact does_value (v := v) h hexec hrun (SVc.of1 (p := .d u y') hua hr) hR
      rcases hv with ⟨e1, e2⟩ | ⟨b, es, clock, e1, _, hb, hl, hes⟩
      · subst e1
        refine hfin z u.zero false hzr rfl rfl ?_
        rw [List.cons.inj e2 |>.1, ey, lookup_nil hu hku hz]
      · have hmc : MapC (cx w0 ρ s w) kk2 u es.toList xs := MapC.of hl hes
        have hv : a.eval x = .map (some b) := by simpa using e1
        rcases find_c (i := i) 0 hmc with ⟨f1, f2, f3, f4⟩ | ⟨j, e0, y0, f1, f2, f3, f4, f5, f6, f7⟩
        · refine hfin z u.zero false hzr (by simp [mval, f2]) (by simp [mhas, f2]) ?_
          rw [hv, ey, lookup_run hu hku hz hb f1]
        · refine hfin e0.val y0 true f5 (by simp [mval, f4]) (by simp [mhas, f4]) ?_
          rw [hv, ey, lookup_run hu hku hz hb f1]
  · cases hs
/-- A look-up in a map whose entries are told one by one. -/
def lookG (K : PV → Prop) (i : Int) (z : PV) : List (Int × PV) → Prop
  | [] => K z
  | (k, p) :: r => (i = k → K p) ∧ (¬ i = k → lookG K i z r)
theorem lookG_some {K : PV → Prop} {i : Int} {z : PV} : ∀ {es : List (Int × PV)}, lookG K i z es → (∀ p, pget? es i = some p → K p) ∧ (pget? es i = none → K z)
  | [], h => ⟨fun p e => (by cases e), fun _ => h⟩
  | (k, p) :: r, h => by
    by_cases hk : i = k
    · have e1 : pget? ((k, p) :: r) i = some p := by simp [pget?, hk]
      rw [e1]
      refine ⟨fun q e => ?_, fun e => ?_⟩
      · injection e with e
        rw [← e]; exact h.1 hk
      · cases e
    · have hk' : ¬ k = i := fun e => hk e.symm
      have e1 : pget? ((k, p) :: r) i = pget? r i := by simp [pget?, hk']
      rw [e1]
      exact lookG_some (h.2 hk)
theorem plook_does {i : Int} {es : List (Int × PV)} {z : PV} {N : Act → World → Prop} (hE : EnvOk P E) (h : Ok w0 ρ s a w) (hc : plook? E s o.op = some (i, es, z))
    (hN : lookG (fun p => Up w0 (s.put o.dst (.one p)) N) i z es) : Does P o a w N := by
  cases ho : o.op with
  | lookup t x y two =>
    rw [ho] at hc
    cases two with
    | true => cases hc
    | false =>
      have hexec : execOp a.eval o = (do pure (.value (← Instr.lookup t (a.eval x) (a.eval y) false))) := by simp [execOp, ho]
      simp only [plook?] at hc
      split at hc
      · rename_i kk ei kk' i' k hmt hi hx
        obtain ⟨kt, et, hu, hku, hT, hag⟩ := mapTy_c hE hmt
        have ey := asInt_c (h.ev y) hi
        have hv := h.ev x
        rw [hx] at hv
        obtain ⟨_, hv, _⟩ := SVc.one1 rfl (by simp) hv
        simp only [List.cons.injEq, and_true] at hv
        obtain ⟨zv, hz, hzc⟩ := zero_one hT hag w
        split at hc
        · rename_i kk2 xs hk
          cases hg : (decide (kk = kk') && decide (kk2 = kk')) with
          | false => rw [hg] at hc; cases hc
          | true =>
            rw [hg] at hc
            simp only [cond_true] at hc
            simp only [Bool.and_eq_true, decide_eq_true_eq] at hg
            obtain ⟨hkk, hkk2⟩ := hg
            subst hkk2; subst hkk
            split at hc
            · rename_i zp hzp
              cases hza : zp.agg with
              | true => rw [hza] at hc; cases hc
              | false =>
                rw [hza] at hc
                simp only [cond_false, Option.some.injEq, Prod.mk.injEq] at hc
                obtain ⟨rfl, rfl, rfl⟩ := hc
                have hzr : PVc (cx w0 ρ s w) zp [zv] := by
                  have h1 := cellsPs_c (c := cx w0 ρ s w) hT.flat
                  rw [hzp] at h1
                  obtain ⟨l1, l2, e1, h2, h3⟩ := h1
                  have h3 : l2 = [] := h3
                  subst h3
                  rw [List.append_nil] at e1
                  rw [hzc, hzp, e1]; exact h2
                obtain ⟨b, mes, clock, hbk, hb, hmc⟩ := h.heap k _ hk
                have hbk : ρ k = .map (some b) := hbk
                have hb : w.heap[b]? = some (.map mes clock) := hb
                obtain ⟨hN1, hN2⟩ := lookG_some hN
                rcases pfind_c (i := i') 0 hmc with ⟨f1, f2, f4⟩ | ⟨j, e0, y0, f1, f2, f3, f4, f5, f6, f7⟩
                · refine does_value (v := zv) h hexec ?_ (SVc.of1 hza hzr) (hN2 f2)
                  rw [hv, show (cx w0 ρ s w).ρ k = _ from hbk, ey, lookup_run hu hku hz hb f1]; rfl
                · refine does_value (v := e0.val) h hexec ?_ (SVc.of1 f5 f6) (hN1 y0 f4)
                  rw [hv, show (cx w0 ρ s w).ρ k = _ from hbk, ey, lookup_run hu hku hz hb f1]; rfl
            · cases hc
        · cases hc
      · cases hc
  | _ => rw [ho] at hc; simp [plook?] at hc
theorem delete_does {args : Array Operand} {ts : Array TypeId} {x y : Operand} {t t' : TypeId} {p : Option Prop} {R : Act → World → Prop} (hE : EnvOk P E) (h : Ok w0 ρ s a w)
    (ho : o.op = .call { callee := .builtin .delete, args := args, argTypes := ts }) (ha : args.toList = [x, y]) (ht : ts.toList = [t, t'])
    (hs : deleteS E s o.dst t (ev s x) (ev s y) = some (p, s')) (hR : Up w0 s' R) : Does P o a w R := by
  have ea : args = #[x, y] := by apply Array.ext'; simpa using ha
  have et : ts = #[t, t'] := by apply Array.ext'; simpa using ht
  subst ea; subst et
  have hexec : execOp a.eval o = (do pure (.value (← Builtin.delete_ #[t, t'] o.type (#[x, y].map a.eval)))) := exec_builtin ho
  unfold deleteS at hs
  split at hs
  · rename_i kk ei kk' i k hmt hi hx
    obtain ⟨kt, et, hu, hku, hT, hag⟩ := mapTy_c hE hmt
    have ey := asInt_c (h.ev y) hi
    cases hkk : decide (kk = kk') with
    | false => rw [hkk] at hs; cases hs
    | true =>
      rw [hkk] at hs
      simp only [cond_true] at hs
      have hkk := of_decide_eq_true hkk
      subst hkk
      have hv := h.ev x
      rw [hx] at hv
      obtain ⟨_, hv, _⟩ := SVc.one1 rfl (by simp) hv
      simp only [List.cons.injEq, and_true] at hv
      split at hs
      · rename_i kk2 u xs hk
        cases hg : decide (kk2 = kk) with
        | false => rw [hg] at hs; cases hs
        | true =>
          rw [hg] at hs
          simp only [cond_true, ok, Option.some.injEq, Prod.mk.injEq] at hs
          obtain ⟨_, rfl⟩ := hs
          have hg := of_decide_eq_true hg
          subst hg
          obtain ⟨h0, hk0, hB0, b, es, clock, hbk, hb, hmc, hbo⟩ := mapOf_c h hk
          have hrun : ∀ r es', Instr.findNow (.int kk2) (.int kk2 i) es.toList 0 = some r → (es' = match r with | some (j, _) => es.eraseIdxIfInBounds j | none => es) →
              (execOp a.eval o).run P w = .ok (.value (.tuple #[])) { w with heap := w.heap.setIfInBounds b (.map es' clock) } := by
            intro r es' hf he
            rw [hexec]
            unfold Builtin.delete_
            cases r with
            | none => subst he; simp [hv, show (cx w0 ρ s w).ρ k = _ from hbk, ey, Sem.run_bind, run_underlying hu, Result.andThen_ok, Go.MapKept.run_getObj_map hb, check_run hku, Go.MapKept.run_findKey hku hf, Go.MapKept.run_setObj_map _ hb, Sem.run_pure]
            | some jv => subst he; simp [hv, show (cx w0 ρ s w).ρ k = _ from hbk, ey, Sem.run_bind, run_underlying hu, Result.andThen_ok, Go.MapKept.run_getObj_map hb, check_run hku, Go.MapKept.run_findKey hku hf, Go.MapKept.run_setObj_map _ hb, Sem.run_pure]
          rcases find_c (i := i) 0 hmc with ⟨f1, f2, f3, f4⟩ | ⟨j, e0, y0, f1, f2, f3, f4, f5, f6, f7⟩
          · refine .inl ⟨_, _, hrun none _ f1 rfl, map_fin (he := .map kk2 u (mdel u xs i)) h hk0 hB0 rfl hbk hb (fun w' hw' hle => ⟨b, _, _, hbk, hw', ?_, ?_⟩) (sv := .tup []) (fun c => ⟨_, rfl, rfl⟩) hR⟩
            · exact (congrArg (MapC _ kk2 u es.toList) f3).mpr (hmc.mono hle)
            · exact hbo
          · rw [Nat.zero_add] at f1
            refine .inl ⟨_, _, hrun _ _ f1 rfl, map_fin (he := .map kk2 u (mdel u xs i)) h hk0 hB0 rfl hbk hb (fun w' hw' hle => ⟨b, _, _, hbk, hw', ?_, ?_⟩) (sv := .tup []) (fun c => ⟨_, rfl, rfl⟩) hR⟩
            all_goals have : (es.eraseIdxIfInBounds j).toList = es.toList.eraseIdx j := by simp
            · rw [this]
              exact f6 _ (hmc.mono hle)
            · show BornOk (es.eraseIdxIfInBounds j).toList clock
              rw [this]
              exact born_erase j hbo
      · cases hs
  · cases hs
theorem lenMap_does {args : Array Operand} {ts : Array TypeId} {x : Operand} {t : TypeId} {p : Option Prop} {R : Act → World → Prop} (hE : EnvOk P E) (h : Ok w0 ρ s a w)
    (ho : o.op = .call { callee := .builtin .len, args := args, argTypes := ts }) (ha : args.toList = [x]) (ht : ts.toList = [t])
    (hs : lenMapS E s o.dst t (ev s x) = some (p, s')) (hp : vcP p) (hR : Up w0 s' R) : Does P o a w R := by
  have ea : args = #[x] := by apply Array.ext'; simpa using ha
  have et : ts = #[t] := by apply Array.ext'; simpa using ht
  subst ea; subst et
  unfold lenMapS at hs
  split at hs
  · rename_i kkei k hmt hx
    obtain ⟨kk, ei⟩ := kkei
    obtain ⟨kt, et, hu, hku, hT, hag⟩ := mapTy_c hE hmt
    split at hs
    · rename_i kk2 u xs hk
      simp only [Option.some.injEq, Prod.mk.injEq] at hs
      obtain ⟨rfl, rfl⟩ := hs
      have hp : xs.length ≤ 9223372036854775807 := hp
      have hv := h.ev x
      rw [hx] at hv
      obtain ⟨_, hv, _⟩ := SVc.one1 rfl (by simp) hv
      simp only [List.cons.injEq, and_true] at hv
      obtain ⟨h0, hk0, hB0, b, es, clock, hbk, hb, hmc, hbo⟩ := mapOf_c h hk
      have hlen : es.size = xs.length := by have := hmc.len; simpa using this
      refine does_value (m := Builtin.len_ #[t] o.type (#[x].map a.eval)) h (exec_builtin ho) ?_ (sv_int (k := .i64) (n := (xs.length : Int)) ⟨by omega, by omega⟩) hR
      simp [Builtin.len_, run_underlying hu, hv, show (cx w0 ρ s w).ρ k = _ from hbk, Go.MapKept.run_getObj_map hb, goInt, hlen]
    · cases hs
  · cases hs
end
end Go.Sx
