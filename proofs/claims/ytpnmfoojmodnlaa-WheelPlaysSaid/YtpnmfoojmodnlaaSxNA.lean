/-
  Sx, part NA: pools, iterations over maps, arrays of slices of our own.
-/
import Derived.Test.YtpnmfoojmodnlaaSxO
import Derived.Maps.RangeRun
set_option linter.unusedSimpArgs false
namespace Go.Sx
open Go.RowKit
section
variable {P : Program} {X : Fx} {f : Nat} {E : Env} {w0 : Base} {w : World} {ρ : Nat → Value} {s s' : St} {a : Act} {o : Oper}
theorem mput_new {t : Ty} {a : Int} {y : t.D} : ∀ {m : List (Int × t.D)}, mhas t m a = false → mput t m a y = m ++ [(a, y)]
  | [], _ => rfl
  | e :: r, h => by
    by_cases h1 : e.1 = a
    · simp [mhas, mget?, h1] at h
    · have e1 : mput t (e :: r) a y = e :: mput t r a y := by simp [mput, h1]
      have h2 : mhas t r a = false := by simpa [mhas, mget?, h1] using h
      rw [e1, mput_new h2, List.cons_append]
theorem mhas_of_mem {t : Ty} {a : Int} : ∀ {m : List (Int × t.D)}, (∃ e ∈ m, e.1 = a) → mhas t m a = true
  | [], h => by obtain ⟨e, he, _⟩ := h; cases he
  | c :: r, h => by
    by_cases h1 : c.1 = a
    · simp [mhas, mget?, h1]
    · have h2 : mhas t r a = true := mhas_of_mem (by
        obtain ⟨e, he, hea⟩ := h
        rcases List.mem_cons.1 he with rfl | he
        · exact absurd hea h1
        · exact ⟨e, he, hea⟩)
      simpa [mhas, mget?, h1] using h2
theorem castM_eq {kk kk' : IntKind} {t u : Ty} {xs : List (Int × t.D)} {ys : List (Int × u.D)} (h : castM kk t kk' u xs = some ys) : kk = kk' ∧ ∃ e : t = u, e ▸ xs = ys := by
  unfold castM at h
  split at h
  · rename_i he
    obtain ⟨rfl, rfl⟩ := he
    simp only [Option.some.injEq] at h
    exact ⟨rfl, rfl, h⟩
  · cases h
/-- A new thing in a pool. -/
theorem pool_alloc {K : St → Prop} {N : Act → World → Prop} {d : Option Nat} {p : Nat} {u : Ty} {y : u.D} {cs : Array Value} {e : TypeId} (h : Ok w0 ρ s a w) (hr : Rd (Free w0 ρ s.hp w) w u cs.toList y)
    (hK : allocP s d p u y K) (hN : ∀ ρ' s' a' w', Ok w0 ρ' s' a' w' → K s' → N a' w') : N (a.put d (.pointer (some ⟨w.heap.size, 0, none⟩))) (w.alloc (.cells cs e)) := by
  have hm := More.alloc w (.cells cs e)
  have hnew := heap_alloc_new w (.cells cs e)
  have hto : ((w.heap.size : Int)).toNat = w.heap.size := Int.toNat_natCast _
  have hsv : ∀ c : Cx, SVc c (.one (.d (.ref p) (w.heap.size : Int))) (.pointer (some ⟨w.heap.size, 0, none⟩)) := fun c => SVc.of1 (p := .d (.ref p) (w.heap.size : Int)) rfl (.inr ⟨Int.natCast_nonneg _, by rw [hto]⟩)
  unfold allocP at hK
  split at hK
  · rename_i t m hk
    split at hK
    · rename_i m' hc
      obtain ⟨_, rfl, hc⟩ := castM_eq hc
      have hc : m = m' := hc
      subst hc
      have hp := h.heap _ _ hk
      have hno : mhas t m (w.heap.size : Int) = false := by
        cases hh : mhas t m (w.heap.size : Int) with
        | false => rfl
        | true =>
          have := (h.fresh _ _ w.heap.size hk ⟨_, mhas_mem hh, rfl⟩).2
          omega
      have hmp := mput_new (y := y) hno
      have hB : ∀ b, Bk (.pool t (mput t m (w.heap.size : Int) y)) (ρ (poolN p)) b → Bk (.pool t m) (ρ (poolN p)) b ∨ (w.heap.size ≤ b ∧ b < (w.alloc (.cells cs e)).heap.size) := fun b hb => by
        rw [hmp] at hb
        obtain ⟨c, hc, hcb⟩ := hb
        rcases List.mem_append.1 hc with hc | hc
        · exact .inl ⟨c, hc, hcb⟩
        · have : c = ((w.heap.size : Int), y) := by simpa using hc
          subst this
          have : w.heap.size = b := Int.ofNat_inj.1 hcb
          subst this
          exact .inr ⟨Nat.le_refl _, by simp⟩
      have hle := upd_le (he := .pool t (mput t m (w.heap.size : Int) y)) h hk hB hm.below.size (fun b hb _ => hm.old hb)
      have hok : Ok w0 ρ (s.upd (poolN p) (.pool t (mput t m (w.heap.size : Int) y))) a (w.alloc (.cells cs e)) := by
        refine h.upd hk hB (h.belowS hm.below) (fun b hb _ => hm.old hb) ⟨?_, fun c hc => ?_⟩
        · rw [hmp, List.map_append, List.nodup_append]
          refine ⟨hp.1, by simp, fun x hx z hz => ?_⟩
          have : z = (w.heap.size : Int) := by simpa using hz
          subst this
          intro e2
          subst e2
          obtain ⟨c, hc, hc2⟩ := List.mem_map.1 hx
          have := mhas_of_mem (t := t) ⟨c, hc, hc2⟩
          rw [hno] at this; cases this
        · rw [hmp] at hc
          rcases List.mem_append.1 hc with hc | hc
          · obtain ⟨g0, ty, cs', g1, g2⟩ := hp.2 c hc
            have g0 : 0 ≤ c.1 := g0
            refine ⟨g0, ty, cs', (hm.old ?_).trans g1, Rd.mono hle.keep g2⟩
            exact (h.fresh _ _ c.1.toNat hk ⟨c, hc, (Int.toNat_of_nonneg g0).symm⟩).2
          · have : c = ((w.heap.size : Int), y) := by simpa using hc
            subst this
            exact ⟨Int.natCast_nonneg _, e, cs, by show (w.alloc (.cells cs e)).heap[((w.heap.size : Int)).toNat]? = _; rw [hto]; exact hnew, Rd.mono hle.keep hr⟩
      exact hN _ _ _ _ (hok.put d (hsv _)) (hK _ (Int.natCast_nonneg _) hno)
    · exact hK.elim
  · rename_i hk
    cases hus : s.us (poolN p) with
    | true => rw [hus] at hK; exact hK.elim
    | false =>
      rw [hus] at hK
      have hle := new_le (he := .pool u [((w.heap.size : Int), y)]) (v := undef) h hus hm (fun b hb => by
        obtain ⟨c, hc, hcb⟩ := hb
        have : c = ((w.heap.size : Int), y) := by simpa using hc
        subst this
        have : w.heap.size = b := Int.ofNat_inj.1 hcb
        subst this
        exact ⟨Nat.le_refl _, by simp⟩)
      have hok := h.new (he := .pool u [((w.heap.size : Int), y)]) (v := undef) hus hm (fun b hb => by
        obtain ⟨c, hc, hcb⟩ := hb
        have : c = ((w.heap.size : Int), y) := by simpa using hc
        subst this
        have : w.heap.size = b := Int.ofNat_inj.1 hcb
        subst this
        exact ⟨Nat.le_refl _, by simp⟩) ⟨by simp, fun c hc => by
          have : c = ((w.heap.size : Int), y) := by simpa using hc
          subst this
          exact ⟨Int.natCast_nonneg _, e, cs, by show (w.alloc (.cells cs e)).heap[((w.heap.size : Int)).toNat]? = _; rw [hto]; exact hnew, Rd.mono hle.keep hr⟩⟩
      exact hN _ _ _ _ (hok.put d (hsv _)) (hK _ (Int.natCast_nonneg _))
  · exact hK.elim
theorem allocP_does {K : St → Prop} {N : Act → World → Prop} {p : Nat} {u : Ty} {y : u.D} (hE : EnvOk P X.E) (h : Ok w0 ρ s a w) (hc : allocP? X f s o = some (p, ⟨u, y⟩))
    (hK : allocP s o.dst p u y K) (hN : ∀ ρ' s' a' w', Ok w0 ρ' s' a' w' → K s' → N a' w') : Does P o a w N := by
  unfold allocP? at hc
  split at hc
  · cases hc
  · rename_i d hd
    split at hc
    · cases hc
    · rename_i q hq
      split at hc
      · rename_i e ho
        split at hc
        · rename_i sz by_ kd zs u' hti
          simp only [Option.some.injEq, Prod.mk.injEq] at hc
          obtain ⟨rfl, hc⟩ := hc
          cases hc
          have hT := hE e _ hti
          obtain ⟨z, h1, h2⟩ := hT.run_zero w
          obtain ⟨_, _, g1, g2⟩ := hT.ty
          refine .inl ⟨.pointer (some ⟨w.heap.size, 0, none⟩), w.alloc (.cells z.cells e), by simp only [execOp, ho, Instr.alloc, Sem.run_bind, h1, newVar_run, Result.andThen_ok, Sem.run_pure], ?_⟩
          refine pool_alloc h ?_ hK hN
          rw [h2, ← g2]
          exact cellsD_rd g1
        · cases hc
      · rename_i e x ho
        split at hc
        · rename_i ps sz by_ kd zs u' hps hti
          split at hc
          · rename_i y' hy
            simp only [Option.some.injEq, Prod.mk.injEq] at hc
            obtain ⟨rfl, hc⟩ := hc
            cases hc
            refine .inl ⟨.pointer (some ⟨w.heap.size, 0, none⟩), w.alloc (.cells (a.eval x).cells e), by simp only [execOp, ho, Instr.box, Sem.run_bind, newVar_run, Result.andThen_ok, Sem.run_pure], ?_⟩
            exact pool_alloc h (rdAll_c (c := cx w0 ρ s w) hy (SVparts_c (h.ev x) hps)) hK hN
          · cases hc
        · cases hc
      · cases hc
theorem MapC.get {c : Cx} {kk : IntKind} {t : Ty} : ∀ {es : List MapEntry} {xs : List (Int × t.D)} {i : Nat} {e : MapEntry}, MapC c kk t es xs → es[i]? = some e → ∃ x, xs[i]? = some x ∧ MapC c kk t [e] [x]
  | [], [], _, _, _, h => by simp at h
  | e :: es, x :: xs, 0, e', h, he => by
    have : e = e' := by simpa using he
    subst this
    exact ⟨x, rfl, h.1, trivial⟩
  | e :: es, x :: xs, i + 1, e', h, he => by
    obtain ⟨y, h1, h2⟩ := MapC.get h.2 (i := i) (by simpa using he)
    exact ⟨y, by simpa using h1, h2⟩
  | [], _ :: _, _, _, h, _ => h.elim
  | _ :: _, [], _, _, h, _ => h.elim
theorem MapC.erase {c : Cx} {kk : IntKind} {t : Ty} : ∀ {es : List MapEntry} {xs : List (Int × t.D)} {i : Nat}, MapC c kk t es xs → MapC c kk t (es.eraseIdx i) (xs.eraseIdx i)
  | [], [], _, h => h
  | _ :: _, _ :: _, 0, h => h.2
  | _ :: _, _ :: _, i + 1, h => ⟨h.1, MapC.erase h.2⟩
  | [], _ :: _, _, h => h.elim
  | _ :: _, [], _, h => h.elim
theorem left_nil (es : List MapEntry) : leftOf es #[] = es := by
  unfold leftOf
  rw [List.filter_eq_self]
  intro e _
  simp
theorem filter_born : ∀ {l : List MapEntry} {i : Nat} {e : MapEntry}, l.Pairwise (fun a b => a.born ≠ b.born) → l[i]? = some e → l.filter (fun x => !(x.born == e.born)) = l.eraseIdx i
  | [], _, _, _, h => by simp at h
  | c :: l, 0, e, hp, h => by
    have : c = e := by simpa using h
    subst this
    rw [List.pairwise_cons] at hp
    have h1 : l.filter (fun x => !(x.born == c.born)) = l := by
      rw [List.filter_eq_self]
      intro x hx
      have := hp.1 x hx
      simp only [Bool.not_eq_true', beq_eq_false_iff_ne]
      exact fun e => this e.symm
    simp [List.filter_cons, h1]
  | c :: l, i + 1, e, hp, h => by
    rw [List.pairwise_cons] at hp
    have he : l[i]? = some e := by simpa using h
    have hne := hp.1 e (List.mem_iff_getElem?.2 ⟨i, he⟩)
    have ih := filter_born hp.2 he
    have hb : (c.born == e.born) = false := by rw [beq_eq_false_iff_ne]; exact hne
    rw [List.filter_cons, hb]
    simp only [Bool.not_false, if_true, List.eraseIdx_cons_succ]
    rw [ih]
theorem left_push {es : List MapEntry} {seen : Array Nat} {clock i : Nat} {e : MapEntry} (h : BornOk es clock) (he : (leftOf es seen)[i]? = some e) : leftOf es (seen.push e.born) = (leftOf es seen).eraseIdx i := by
  have hp : (leftOf es seen).Pairwise (fun a b => a.born ≠ b.born) := h.2.sublist List.filter_sublist
  rw [← filter_born hp he]
  unfold leftOf
  rw [List.filter_filter]
  refine List.filter_congr fun x _ => ?_
  simp [Bool.and_comm]
  rfl
theorem left_arr (es : Array MapEntry) (seen : Array Nat) : (Go.leftOf es seen).toList = leftOf es.toList seen := by
  unfold Go.leftOf leftOf
  rw [Array.toList_filter]
theorem setBlock_below {B : Nat → Prop} {r : Nat} {ob : Obj} (h : ¬ B r) : BelowS B w (Go.ChangeMaps.setBlock w r ob) :=
  ⟨rfl, rfl, rfl, by simp [Go.ChangeMaps.setBlock], fun n hn => by
    show (w.heap.setIfInBounds r ob)[n]? = _
    rw [Array.getElem?_setIfInBounds_ne (fun e => h (by rw [e]; exact hn))]⟩
theorem setBlock_other {r b : Nat} {ob : Obj} (h : b ≠ r) : (Go.ChangeMaps.setBlock w r ob).heap[b]? = w.heap[b]? := by
  show (w.heap.setIfInBounds r ob)[b]? = _
  rw [Array.getElem?_setIfInBounds_ne (fun e => h e.symm)]
theorem setBlock_same {r : Nat} {o1 ob : Obj} (h : w.heap[r]? = some o1) : (Go.ChangeMaps.setBlock w r ob).heap[r]? = some ob := by
  show (w.heap.setIfInBounds r ob)[r]? = _
  have hlt := (Array.getElem?_eq_some_iff.1 h).1
  simp [hlt]
/-- An iteration begins. -/
theorem range_does {j : Nat} {kk : IntKind} {t : Ty} {xs : List (Int × t.D)} {N : Act → World → Prop} (hE : EnvOk P E) (h : Ok w0 ρ s a w) (hc : rangeM? E s o.op = some (j, kk, ⟨t, xs⟩))
    (hN : ∀ r, Up w0 ((s.upd j (.mapit kk t xs r xs none)).put o.dst (.one (.itr j r))) N) : Does P o a w N := by
  cases ho : o.op with
  | range ty x =>
    rw [ho] at hc
    unfold rangeM? at hc
    simp only at hc
    split at hc
    · rename_i kkei k hmt hx
      split at hc
      · rename_i kk' m hk
        simp only [Option.some.injEq, Prod.mk.injEq] at hc
        obtain ⟨rfl, rfl, hc⟩ := hc
        subst hc
        obtain ⟨kt, et, hu, _⟩ := mapTy_c hE hmt
        obtain ⟨h0, hk0, hB0, b, es, clock, hbk, hb, hmc, hbo⟩ := mapOf_c h hk
        have hv := h.ev x
        rw [hx] at hv
        obtain ⟨_, hv, _⟩ := SVc.one1 rfl (by simp) hv
        simp only [List.cons.injEq, and_true] at hv
        have hv : a.eval x = .map (some b) := hv.trans hbk
        have hrun : (Instr.range ty (a.eval x)).run P w = .ok (.pointer (some ⟨w.heap.size, 0, none⟩)) (w.alloc (.mapIter (some b) clock #[] clock)) := by
          unfold Instr.range
          rw [hv]
          simp only [Sem.run_bind, run_underlying hu, Result.andThen_ok, Go.MapKept.run_getObj_map hb, Sem.run_pure]
          rfl
        have hm := More.alloc w (.mapIter (some b) clock #[] clock)
        have hblt : b < w.heap.size := (Array.getElem?_eq_some_iff.1 hb).1
        have hB : ∀ b', Bk (.mapit kk' t xs w.heap.size xs none) (ρ k) b' → Bk h0 (ρ k) b' ∨ (w.heap.size ≤ b' ∧ b' < (w.alloc (.mapIter (some b) clock #[] clock)).heap.size) := fun b' hb' => by
          rcases hb' with hb' | rfl
          · exact .inl (hB0 _ _ hb')
          · exact .inr ⟨Nat.le_refl _, by simp⟩
        have hle := upd_le (he := .mapit kk' t xs w.heap.size xs none) h hk0 hB hm.below.size (fun b hb _ => hm.old hb)
        have hok : Ok w0 ρ (s.upd k (.mapit kk' t xs w.heap.size xs none)) a (w.alloc (.mapIter (some b) clock #[] clock)) :=
          h.upd hk0 hB (h.belowS hm.below) (fun b hb _ => hm.old hb) ⟨b, es, clock, #[], hbk, ⟨(hm.old hblt).trans hb, heap_alloc_new w _⟩, hmc.mono hle, hbo, by rw [left_nil]; exact hmc.mono hle, fun x hx => by cases hx⟩
        exact .inl ⟨_, _, by simp only [execOp, ho, Sem.run_bind, hrun, Result.andThen_ok, Sem.run_pure], hN w.heap.size _ _ _ (hok.put o.dst (SVc.of1 (p := .itr k w.heap.size) rfl rfl))⟩
      · cases hc
    · cases hc
  | _ => rw [ho] at hc; simp [rangeM?] at hc
/-- The next entry. -/
theorem next_does {j r r' : Nat} {kk : IntKind} {t : Ty} {xs rem : List (Int × t.D)} {K : St → Prop} {N : Act → World → Prop} (h : Ok w0 ρ s a w) (hc : nextM? s o.op = some (j, r, kk, ⟨t, xs, r', rem⟩))
    (hK : nextM s o.dst j r kk t xs r' rem K) (hN : ∀ ρ' s' a' w', Ok w0 ρ' s' a' w' → K s' → N a' w') : Does P o a w N := by
  cases ho : o.op with
  | next x str =>
    rw [ho] at hc
    unfold nextM? at hc
    cases str with
    | true => simp at hc
    | false =>
      simp only at hc
      split at hc
      · rename_i k q hx
        split at hc
        · rename_i kk' t' xs' q' rem' cur hk
          simp only [Option.some.injEq, Prod.mk.injEq] at hc
          obtain ⟨rfl, rfl, rfl, hc⟩ := hc
          cases hc
          obtain ⟨e1, hK1, hK2⟩ := hK
          subst e1
          have hv := h.ev x
          rw [hx] at hv
          have hv := SVc.one1 rfl (by simp) hv
          have hv : [a.eval x] = [.pointer (some ⟨q, 0, none⟩)] := hv
          simp only [List.cons.injEq, and_true] at hv
          obtain ⟨b, es, clock, seen, hbk, ⟨hb, hr⟩, hmc, hbo, hrem, _⟩ := h.heap k _ hk
          have hbk : ρ k = .map (some b) := hbk
          have hb : w.heap[b]? = some (.map es clock) := hb
          have hr : w.heap[q]? = some (.mapIter (some b) clock seen clock) := hr
          have hbq : b ≠ q := fun e => by rw [e, hr] at hb; cases hb
          have hfr := h.fresh k _ q hk (.inr rfl)
          have hex : ∀ {v w'}, (Instr.next (.pointer (some ⟨q, 0, none⟩)) false o.type).run P w = .ok v w' → (execOp a.eval o).run P w = .ok (.value v) w' := fun hrun => by
            simp only [execOp, ho, hv, Sem.run_bind, hrun, Result.andThen_ok, Sem.run_pure]
          rcases run_next_at (P := P) w o.type q b clock clock seen es clock hr hb hbo.1 (Nat.le_refl _) with ⟨h0, hrun⟩ | ⟨e, he, w1, hw1, hrun⟩
          · have hl : (leftOf es.toList seen).length = 0 := by rw [← left_arr]; simpa using h0
            have hrem0 : rem = [] := List.eq_nil_of_length_eq_zero (by rw [← hrem.len]; exact hl)
            have hok : Ok w0 ρ (s.upd k (.map kk' t xs)) a w := h.upd hk (fun b hb => .inl (.inl hb)) (BelowS.refl _ _) (fun _ _ _ => rfl)
              ⟨b, es, clock, hbk, hb, hmc.mono (upd_le (he := .map kk' t xs) h hk (fun b hb => .inl (.inl hb)) (Nat.le_refl _) (fun _ _ _ => rfl)), hbo⟩
            exact .inl ⟨_, _, hex hrun, hN _ _ _ _ (hok.put o.dst (v := .tup [(false, [.lit false])]) ⟨_, rfl, .bool false, [], rfl, PsC.single (p := .lit false) rfl, rfl⟩) (hK1 hrem0)⟩
          · rw [left_arr] at he
            obtain ⟨i, hi⟩ := List.mem_iff_getElem?.1 he
            obtain ⟨y, hy, hye⟩ := hrem.get hi
            have hmore : More w w1 := by
              rcases hw1 with e | e
              · rw [e]; exact More.refl _
              · rw [e]; exact More.drew _
            have hsame : ∀ n : Nat, w1.heap[n]? = w.heap[n]? := by
              rcases hw1 with e | e
              · rw [e]; exact fun _ => rfl
              · rw [e]; exact fun _ => rfl
            have hbel : BelowS w0.old w (Go.ChangeMaps.setBlock w1 q (.mapIter (some b) clock (seen.push e.born) clock)) := (h.belowS hmore.below).trans (setBlock_below hfr.1)
            have hB : ∀ b', Bk (.mapit kk' t xs q (rem.eraseIdx i) (some y)) (ρ k) b' → Bk (.mapit kk' t xs q rem cur) (ρ k) b' ∨ (w.heap.size ≤ b' ∧ b' < (Go.ChangeMaps.setBlock w1 q (.mapIter (some b) clock (seen.push e.born) clock)).heap.size) := fun b' hb' => .inl hb'
            have hold : ∀ b', b' < w.heap.size → ¬ Bk (.mapit kk' t xs q rem cur) (ρ k) b' → (Go.ChangeMaps.setBlock w1 q (.mapIter (some b) clock (seen.push e.born) clock)).heap[b']? = w.heap[b']? := fun b' _ hne => by
              rw [setBlock_other (fun e => hne (.inr e)), hsame]
            have hle := upd_le (he := .mapit kk' t xs q (rem.eraseIdx i) (some y)) h hk hB hbel.size hold
            have hok := h.upd (he := .mapit kk' t xs q (rem.eraseIdx i) (some y)) hk hB hbel hold ⟨b, es, clock, seen.push e.born, hbk, ⟨(setBlock_other hbq).trans ((hsame b).trans hb), setBlock_same ((hsame q).trans hr)⟩, hmc.mono hle, hbo, by
              rw [left_push hbo hi]
              exact hrem.erase.mono hle, fun x hx => by
                injection hx with hx
                subst hx
                exact ⟨e, (List.mem_filter.1 he).1, ⟨seen, rfl⟩, hye.mono hle⟩⟩
            have hye' := hye.mono hle
            refine .inl ⟨_, _, hex hrun, hN _ _ _ _ (hok.put o.dst (v := .tup [(false, [.lit true]), (false, [.d (.int kk') y.1]), (false, [.d t y.2])]) ⟨_, rfl, .bool true, _, rfl, PsC.single (p := .lit true) rfl, _, _, rfl, PsC.single (p := .d (.int kk') y.1) ?_, _, [], rfl, PsC.single (p := .d t y.2) ?_, rfl⟩) (hK2 i y hy)⟩
            · exact ⟨by rw [hye'.1.1], hye'.1.2.1⟩
            · exact hye'.1.2.2
        · cases hc
      · cases hc
  | _ => rw [ho] at hc; simp [nextM?] at hc
/-- The entry that it has come to. -/
theorem entry_does {r r' : Nat} {kk : IntKind} {t : Ty} {e : Int × t.D} {N : Act → World → Prop} (h : Ok w0 ρ s a w) (hc : entryM? s o.op = some (r, r', kk, ⟨t, e⟩)) (hr : r = r')
    (hN : Up w0 (s.put o.dst (.tup [(false, [.d (.int kk) e.1]), (false, [.d t e.2])])) N) : Does P o a w N := by
  cases ho : o.op with
  | entry x =>
    rw [ho] at hc
    unfold entryM? at hc
    simp only at hc
    split at hc
    · rename_i k q hx
      split at hc
      · rename_i kk' t' xs' q' rem' e' hk
        simp only [Option.some.injEq, Prod.mk.injEq] at hc
        obtain ⟨rfl, rfl, rfl, hc⟩ := hc
        cases hc
        subst hr
        have hv := h.ev x
        rw [hx] at hv
        have hv := SVc.one1 rfl (by simp) hv
        have hv : [a.eval x] = [.pointer (some ⟨q, 0, none⟩)] := hv
        simp only [List.cons.injEq, and_true] at hv
        obtain ⟨b, es, clock, seen, hbk, ⟨hb, hr⟩, hmc, hbo, hrem, hcur⟩ := h.heap k _ hk
        obtain ⟨me, hme, ⟨seen0, rfl⟩, hmc1⟩ := hcur _ rfl
        have hrun := run_entry_at (P := P) w q b clock seen0 es clock me hr hb hme (List.pairwise_map.2 hbo.2)
        refine does_value (m := Instr.entry (a.eval x)) h (by simp [execOp, ho]) (by rw [hv]; exact hrun) (sv := .tup [(false, [.d (.int kk') e.1]), (false, [.d t e.2])])
          ⟨_, rfl, _, _, rfl, PsC.single (p := .d (.int kk') e.1) ⟨by rw [hmc1.1.1], hmc1.1.2.1⟩, _, [], rfl, PsC.single (p := .d t e.2) hmc1.1.2.2, rfl⟩ hN
      · cases hc
    · cases hc
  | _ => rw [ho] at hc; simp [entryM?] at hc
/-- An array of slices of our own is where the parts tell. -/
theorem orwAt_c {c : Cx} {ps pre post : List PV} {off ko n : Nat} {g : Option (Nat × Nat)} {l : List Value} (ha : orwAt ps off = some (pre, ko, n, g, post)) (hl : PsC c ps l) :
    ps = pre ++ (.orp ko n g :: post) ∧ psSize pre = off ∧ ∃ hd q tl, l = hd ++ (q ++ tl) ∧ hd.length = off ∧ q.length = n ∧ PsC c pre hd ∧ PVc c (.orp ko n g) q ∧ PsC c post tl := by
  unfold orwAt at ha
  split at ha
  · rename_i pr k' n' h' po htk
    simp only [Option.some.injEq, Prod.mk.injEq] at ha
    obtain ⟨rfl, rfl, rfl, rfl, rfl⟩ := ha
    obtain ⟨he, hs⟩ := takeN_eq htk
    subst he
    obtain ⟨h1, h2⟩ := hl.split
    obtain ⟨q, tl, e, h3, h4⟩ := h2
    refine ⟨rfl, hs, l.take (psSize pr), q, tl, ?_, ?_, h3.len, h1, h3, h4⟩
    · rw [← e, List.take_append_drop]
    · rw [h1.len, hs]
  · cases ha
theorem RowC.mono {c c' : Cx} (h : c.le c') {t : Ty} {v : Value} {xs : List t.D} (hb : ∀ b, blkOf v = some b → c'.w.heap[b]? = c.w.heap[b]?) (hr : RowC c t v xs) : RowC c' t v xs := by
  rcases hr with hr | ⟨b, o, cp, cur, e, g1, g2, g3, g4, g5, g6⟩
  · exact .inl hr
  · exact .inr ⟨b, o, cp, cur, e, g1, (hb b (by rw [g1]; rfl)).trans g2, g3, g4, g5, fun i x hi => Rd.mono h.keep (g6 i x hi)⟩
def HeadsC (c : Cx) (u : Ty) (q : List Value) (xss : List (List u.D)) : Prop :=
  q.length = xss.length ∧ (∀ (i : Nat) v xs, q[i]? = some v → xss[i]? = some xs → RowC c u v xs) ∧ q.Pairwise fun v v' => ∀ b, blkOf v = some b → blkOf v' ≠ some b
theorem HeadsC.apart {c : Cx} {u : Ty} {q : List Value} {xss : List (List u.D)} (h : HeadsC c u q xss) {i j b : Nat} {v v' : Value} (hne : i ≠ j) (hi : q[i]? = some v) (hj : q[j]? = some v') (hb : blkOf v = some b) : blkOf v' ≠ some b := by
  obtain ⟨hil, rfl⟩ := List.getElem?_eq_some_iff.1 hi
  obtain ⟨hjl, rfl⟩ := List.getElem?_eq_some_iff.1 hj
  have hp := List.pairwise_iff_getElem.1 h.2.2
  rcases Nat.lt_or_gt_of_ne hne with hlt | hgt
  · exact hp i j hil hjl hlt b hb
  · intro hb'
    exact hp j i hjl hil hgt b hb' hb
theorem HeadsC.mk' {c : Cx} {u : Ty} {q : List Value} {xss : List (List u.D)} (hl : q.length = xss.length) (hr : ∀ (i : Nat) v xs, q[i]? = some v → xss[i]? = some xs → RowC c u v xs)
    (ha : ∀ (i j b : Nat) v v', i ≠ j → q[i]? = some v → q[j]? = some v' → blkOf v = some b → blkOf v' ≠ some b) : HeadsC c u q xss :=
  ⟨hl, hr, List.pairwise_iff_getElem.2 fun i j hi hj hlt b => ha i j b _ _ (by omega) (List.getElem?_eq_getElem hi) (List.getElem?_eq_getElem hj)⟩
theorem HeadsC.set {c : Cx} {u : Ty} {q : List Value} {xss : List (List u.D)} {i : Nat} {v : Value} {ys : List u.D} (h : HeadsC c u q xss) (hv : RowC c u v ys)
    (ha : ∀ (m b : Nat) v', m ≠ i → q[m]? = some v' → blkOf v = some b → blkOf v' ≠ some b) : HeadsC c u (q.set i v) (xss.set i ys) := by
  refine HeadsC.mk' (by simp [h.1]) (fun m x xs hx hxs => ?_) (fun m m' b x x' hne hx hx' hb => ?_)
  · by_cases e : i = m
    · subst e
      have hlt : i < q.length := by have := (List.getElem?_eq_some_iff.1 hx).1; simpa using this
      have hlt' : i < xss.length := by rw [← h.1]; exact hlt
      rw [List.getElem?_set_self hlt] at hx
      rw [List.getElem?_set_self hlt'] at hxs
      injection hx with hx
      injection hxs with hxs
      subst hx; subst hxs
      exact hv
    · rw [List.getElem?_set_ne e] at hx hxs
      exact h.2.1 m x xs hx hxs
  · by_cases e : i = m
    · subst e
      have hlt : i < q.length := by have := (List.getElem?_eq_some_iff.1 hx).1; simpa using this
      rw [List.getElem?_set_self hlt] at hx
      rw [List.getElem?_set_ne hne] at hx'
      injection hx with hx
      subst hx
      exact ha m' b x' (fun e => hne e.symm) hx' hb
    · rw [List.getElem?_set_ne e] at hx
      by_cases e' : i = m'
      · subst e'
        have hlt : i < q.length := by have := (List.getElem?_eq_some_iff.1 hx').1; simpa using this
        rw [List.getElem?_set_self hlt] at hx'
        injection hx' with hx'
        subst hx'
        intro hb'
        exact ha m b x hne hx hb' hb
      · rw [List.getElem?_set_ne e'] at hx'
        exact h.apart hne hx hx' hb
theorem HeadsC.mono {c c' : Cx} (h : c.le c') {u : Ty} {q : List Value} {xss : List (List u.D)} (hb : ∀ v ∈ q, ∀ b, blkOf v = some b → c'.w.heap[b]? = c.w.heap[b]?) (hq : HeadsC c u q xss) : HeadsC c' u q xss :=
  ⟨hq.1, fun i v xs hv hx => (hq.2.1 i v xs hv hx).mono h (hb v (List.mem_iff_getElem?.2 ⟨i, hv⟩)), hq.2.2⟩
theorem rowC_of (h : Ok w0 ρ s a w) {k : Nat} {u : Ty} {xs : List u.D} (hk : s.hp k = some (.row u xs)) : RowC (cx w0 ρ s w) u (ρ k) xs := h.heap k _ hk
/-- What an array of slices of our own holds, a slice that was taken out put back. -/
theorem orw_open (h : Ok w0 ρ s a w) {ko n : Nat} {u : Ty} {xss xss1 : List (List u.D)} {g : Option (Nat × Nat)} {q : List Value} {s1 : St} (hk : s.hp ko = some (.orw u xss)) (hq : PVc (cx w0 ρ s w) (.orp ko n g) q)
    (hb : orwBack s u xss g = some (s1, xss1)) : HeadsC (cx w0 ρ s w) u q xss1 ∧ q.length = n ∧ (∀ v ∈ q, v.oneCell' = true) ∧
      (∀ v ∈ q, ∀ b, blkOf v = some b → ∃ n0 h0, (n0 = ko ∨ ∃ i0, g = some (i0, n0)) ∧ s.hp n0 = some h0 ∧ Bk h0 (ρ n0) b) ∧
      s1 = (match g with | none => s | some (_, k0) => s.drop k0) ∧ ∀ i0 k0, g = some (i0, k0) → ∃ ys, s.hp k0 = some (.row u ys) := by
  have hq1 := PVc.one hq
  have hql := PVc.len hq
  obtain ⟨vs, hvs, hvl, hrow, hpw⟩ := h.heap ko _ hk
  have hvs : ρ ko = .tuple vs.toArray := hvs
  have hH : HeadsC (cx w0 ρ s w) u vs xss := ⟨hvl, hrow, hpw⟩
  have hvo : ∀ v ∈ vs, ∀ b, blkOf v = some b → Bk (.orw u xss) (ρ ko) b := fun v hv b hb => ⟨_, hvs, v, by simpa using hv, hb⟩
  obtain ⟨_, vs', hvs', ⟨hvl', _⟩, hg⟩ := hq
  have hvs' : ρ ko = .tuple vs'.toArray := hvs'
  have hee : vs = vs' := by
    rw [hvs] at hvs'
    injection hvs' with e
    simpa using congrArg Array.toList e
  subst hee
  cases g with
  | none =>
    simp only [orwBack, Option.some.injEq, Prod.mk.injEq] at hb
    obtain ⟨rfl, rfl⟩ := hb
    have hg : q = vs := hg
    subst hg
    exact ⟨hH, hvl', hq1, fun v hv b hb => ⟨ko, _, .inl rfl, hk, hvo v hv b hb⟩, rfl, fun _ _ e => by cases e⟩
  | some e =>
    obtain ⟨i0, k0⟩ := e
    simp only [orwBack] at hb
    split at hb
    · rename_i u0 ys hk0
      split at hb
      · rename_i ys' hc
        simp only [Option.some.injEq, Prod.mk.injEq] at hb
        obtain ⟨rfl, rfl⟩ := hb
        obtain ⟨e2, e3⟩ := castD_eq hc
        injection e2 with e2
        subst e2
        have e3 : ys = ys' := e3
        subst e3
        obtain ⟨⟨_, hi0⟩, _, hg⟩ := hg
        have hg : q = vs.set i0 (ρ k0) := hg
        subst hg
        have hr0 := rowC_of h hk0
        have hko : ko ≠ k0 := fun e => by rw [e, hk0] at hk; cases hk
        refine ⟨hH.set hr0 (fun m b v' hm hv' hb hb' => ?_), hql, hq1, fun v hv b hb => ?_, rfl, fun _ _ e => by cases e; exact ⟨ys, hk0⟩⟩
        · exact h.apart ko k0 _ _ b hko hk hk0 (hvo v' (List.mem_iff_getElem?.2 ⟨m, hv'⟩) b hb') hb
        · rcases List.mem_or_eq_of_mem_set hv with hv | hv
          · exact ⟨ko, _, .inl rfl, hk, hvo v hv b hb⟩
          · rw [hv] at hb
            exact ⟨k0, _, .inr ⟨i0, rfl⟩, hk0, hb⟩
      · cases hb
    · cases hb
theorem set_set_self {q : List Value} {i : Nat} {v x : Value} (h : q[i]? = some v) : (q.set i x).set i v = q := by
  rw [List.set_set]
  obtain ⟨hl, rfl⟩ := List.getElem?_eq_some_iff.1 h
  exact List.set_getElem_self hl
theorem sliceT_ti {t : TypeId} (hE : EnvOk P E) (h : isSliceT E t = true) : ∃ ti, TIok P t ti ∧ ti.kind.agg = false ∧ ti.size = 1 := by
  unfold isSliceT at h
  split at h
  · rename_i sz by_ e z ty hti
    have hT := hE t _ hti
    refine ⟨_, hT, rfl, ?_⟩
    rcases hT.one with h1 | h1
    · cases h1
    · exact h1
  · cases h
theorem elA_c {c : Cx} {x : SV} {v : Value} {kb off idx : Nat} (h : elA x = some (kb, off, idx)) (hv : SVc c x v) : ∃ b, c.ρ kb = .pointer (some ⟨b, 0, none⟩) ∧ v = .pointer (some ⟨b, off + idx, none⟩) := by
  unfold elA at h
  split at h
  · cases h
    obtain ⟨_, _, b, hb, hl⟩ := SVc.one1 rfl (by simp) hv
    simp only [List.cons.injEq, and_true] at hl
    exact ⟨b, hb, hl⟩
  · cases h
    obtain ⟨_, _, b, hb, hl⟩ := SVc.one1 rfl (by simp) hv
    simp only [List.cons.injEq, and_true] at hl
    exact ⟨b, hb, hl⟩
  · cases h
/-- A slice is taken out of an array of slices of our own. -/
theorem orwLoad_does {t : TypeId} {x : Operand} {k : Nat} {K : St → Prop} {N : Act → World → Prop} (h : Ok w0 ρ s a w) (ho : o.op = .load t x)
    (hE : EnvOk P E) (hK : orwLoad E t s k o.dst (ev s x) K) (hN : ∀ ρ' s' a' w', Ok w0 ρ' s' a' w' → K s' → N a' w') : Does P o a w N := by
  unfold orwLoad at hK
  cases hsl : isSliceT E t with
  | false => rw [hsl] at hK; exact hK.elim
  | true =>
  rw [hsl] at hK
  simp only [Bool.not_true, cond_false] at hK
  obtain ⟨ti, hT, hag, hsz⟩ := sliceT_ti hE hsl
  split at hK
  · rename_i kb off idx hx
    split at hK
    · rename_i ps hkb
      split at hK
      · rename_i pre ko n g post hat
        split at hK
        · rename_i u xss hko
          cases hus : (s.us k || s.us (k + 500000000) || Nat.beq u.size 0) with
          | true => rw [hus] at hK; exact hK.elim
          | false =>
            rw [hus] at hK
            simp only [cond_false] at hK
            simp only [Bool.or_eq_false_iff] at hus
            obtain ⟨⟨hus1, hus2⟩, _⟩ := hus
            split at hK
            · rename_i s1 xss1 hbk
              obtain ⟨hlt, hK⟩ := hK
              generalize hk1 : k + 500000000 = k1 at hK hus2
              have hkk1 : k ≠ k1 := by omega
              obtain ⟨b, hρb, hl⟩ := elA_c hx (h.ev x)
              obtain ⟨b', e, cs, hρb', hheap, hps⟩ := h.heap kb _ hkb
              have hρb : ρ kb = .pointer (some ⟨b, 0, none⟩) := hρb
              have hρb' : ρ kb = .pointer (some ⟨b', 0, none⟩) := hρb'
              have hbb : b' = b := by rw [hρb] at hρb'; injection hρb' with e; injection e with e; injection e with e; exact e.symm
              subst hbb
              have hheap : w.heap[b']? = some (.cells cs e (0, 0)) := hheap
              obtain ⟨hpse, hpre, hd, q, tl, hcs, hdl, hql, hp1, hp2, hp3⟩ := orwAt_c hat hps
              obtain ⟨hH, _, hq1, hown, hs1, hg0⟩ := orw_open h hko hp2 hbk
              have hqi : q[idx]? = some q[idx] := List.getElem?_eq_getElem (by omega)
              generalize q[idx] = v at hqi
              have hvm : v ∈ q := List.mem_iff_getElem?.2 ⟨idx, hqi⟩
              -- the load
              have hcell : w.cell? ⟨b', off + idx, none⟩ = some v := by
                rw [cell_of_block hheap]
                have : cs.toList[off + idx]? = some v := by
                  rw [hcs, List.getElem?_append_right (by omega), hdl, Nat.add_sub_cancel_left, List.getElem?_append_left (by omega)]
                  exact hqi
                simpa using this
              have hrun : (execOp a.eval o).run P w = .ok (.value v) w := by
                simp only [execOp, ho, hl, Sem.run_bind]
                have hat1 : At w b' (off + idx) [v] := fun m z hz => by
                  cases m with
                  | zero =>
                    have : v = z := by simpa using hz
                    rw [← this]; exact hcell
                  | succ m => simp at hz
                have := loadAt_run hT (w := w) hat1 (by rw [hsz]; rfl)
                rw [hag] at this
                rw [this]
                rfl
              -- names
              have hub := h.used kb _ hkb
              have huo := h.used ko _ hko
              have hkbk : kb ≠ k := fun e => by rw [e, hus1] at hub; cases hub
              have hkbk1 : kb ≠ k1 := fun e => by rw [e, hus2] at hub; cases hub
              have hkok : ko ≠ k := fun e => by rw [e, hus1] at huo; cases huo
              have hkok1 : ko ≠ k1 := fun e => by rw [e, hus2] at huo; cases huo
              have hkbo : kb ≠ ko := fun e => by rw [e, hko] at hkb; cases hkb
              have hk0 : ∀ i0 k0, g = some (i0, k0) → k0 ≠ k ∧ k0 ≠ k1 ∧ k0 ≠ kb ∧ k0 ≠ ko := fun i0 k0 hg => by
                obtain ⟨ys, hy⟩ := hg0 i0 k0 hg
                have hu0 := h.used k0 _ hy
                refine ⟨fun e => ?_, fun e => ?_, fun e => ?_, fun e => ?_⟩
                · rw [e, hus1] at hu0; cases hu0
                · rw [e, hus2] at hu0; cases hu0
                · rw [e, hkb] at hy; cases hy
                · rw [e, hko] at hy; cases hy
              have hg0' : ∀ i0 n0, g = some (i0, n0) → (s.drop n0).hp n0 = none := fun _ _ _ => drop_at
              have hs1hp : ∀ n0, (∀ i0, g ≠ some (i0, n0)) → s1.hp n0 = s.hp n0 := fun n0 hne => by
                rw [hs1]
                cases g with
                | none => rfl
                | some e => exact drop_hp (fun e2 => hne e.1 (by rw [e2]))
              have hs1k0 : ∀ i0 n0, g = some (i0, n0) → s1.hp n0 = none := fun i0 n0 hg => by
                subst hg
                rw [hs1]; exact drop_at
              have hs1us : s1.us = s.us := by rw [hs1]; cases g <;> rfl
              have hs1fr : s1.fr = s.fr := by rw [hs1]; cases g <;> rfl
              have hs1bk : s1.bk = s.bk := by rw [hs1]; cases g <;> rfl
              generalize hs' : ((((s1.drop ko).new k1 (.orw u (xss1.set idx []))).new k (.row u (xss1.getD idx []))).upd kb (.box (pre ++ (.orp k1 n (some (idx, k)) :: post)))) = s' at hK
              have ekb : s'.hp kb = some (.box (pre ++ (.orp k1 n (some (idx, k)) :: post))) := by rw [← hs']; exact upd_at
              have ek : s'.hp k = some (.row u (xss1.getD idx [])) := by rw [← hs', upd_hp (fun e => hkbk e.symm)]; exact new_at
              have ek1 : s'.hp k1 = some (.orw u (xss1.set idx [])) := by rw [← hs', upd_hp (fun e => hkbk1 e.symm), new_hp (fun e => hkk1 e.symm)]; exact new_at
              have eko : s'.hp ko = none := by rw [← hs', upd_hp (fun e => hkbo e.symm), new_hp hkok, new_hp hkok1]; exact drop_at
              have ek0 : ∀ i0 n0, g = some (i0, n0) → s'.hp n0 = none := fun i0 n0 hg => by
                obtain ⟨g1, g2, g3, g4⟩ := hk0 i0 n0 hg
                rw [← hs', upd_hp g3, new_hp g1, new_hp g2, drop_hp g4]; exact hs1k0 i0 n0 hg
              have esame : ∀ n0, ¬ (n0 = kb ∨ n0 = ko ∨ n0 = k ∨ n0 = k1 ∨ ∃ i0, g = some (i0, n0)) → s'.hp n0 = s.hp n0 := fun n0 hn => by
                rw [← hs', upd_hp (fun e => hn (.inl e)), new_hp (fun e => hn (.inr (.inr (.inl e)))), new_hp (fun e => hn (.inr (.inr (.inr (.inl e))))), drop_hp (fun e => hn (.inr (.inl e)))]
                exact hs1hp n0 (fun i0 e => hn (.inr (.inr (.inr (.inr ⟨i0, e⟩)))))
              have eus : ∀ n0, s.us n0 = true → s'.us n0 = true := fun n0 hn => by rw [← hs']; exact uset_of (uset_of (by show s1.us n0 = true; rw [hs1us]; exact hn))
              have eusk : s'.us k = true := by rw [← hs']; exact uset_same _ _
              have eusk1 : s'.us k1 = true := by rw [← hs']; exact uset_of (uset_same _ _)
              have efr : s'.fr = s.fr := by rw [← hs']; exact hs1fr
              have ebk : s'.bk = s.bk := by rw [← hs']; exact hs1bk
              generalize hρ' : rset (rset ρ k1 (.tuple (q.set idx (.slice none 0 0)).toArray)) k v = ρ'
              have rk : ρ' k = v := by rw [← hρ']; exact rset_same _ _ _
              have rk1 : ρ' k1 = .tuple (q.set idx (.slice none 0 0)).toArray := by rw [← hρ', rset_other _ _ (fun e => hkk1 e.symm)]; exact rset_same _ _ _
              have rold : ∀ n0, s.us n0 = true → ρ' n0 = ρ n0 := fun n0 hn => by
                rw [← hρ', rset_other _ _ (fun e => by rw [e, hus1] at hn; cases hn), rset_other _ _ (fun e => by rw [e, hus2] at hn; cases hn)]
              -- whose blocks they are
              have hset : ∀ z ∈ q.set idx (.slice none 0 0), ∀ b, blkOf z = some b → z ∈ q := fun z hz b hb => by
                rcases List.mem_or_eq_of_mem_set hz with hz | hz
                · exact hz
                · rw [hz] at hb; cases hb
              have hkbl : ∀ z ∈ q, ∀ b, blkOf z = some b → ¬ Bk (.box ps) (ρ kb) b := fun z hz b hb hB => by
                obtain ⟨n0, h0, hn0, g1, g2⟩ := hown z hz b hb
                refine h.apart kb n0 _ _ b (fun e => ?_) hkb g1 hB g2
                rcases hn0 with e2 | ⟨i0, e2⟩
                · exact hkbo (e.trans e2)
                · exact (hk0 i0 n0 e2).2.2.1 e.symm
              have hok : Ok w0 ρ' s' a w := by
                refine h.step (fun n0 => n0 = kb ∨ n0 = ko ∨ n0 = k ∨ n0 = k1 ∨ ∃ i0, g = some (i0, n0)) efr ebk eus rold (BelowS.refl _ _) esame (fun _ _ _ => rfl) ?_ ?_ ?_ ?_
                · intro n0 he b hT hn hB
                  refine .inl ?_
                  rcases hT with rfl | rfl | rfl | rfl | ⟨i0, hg⟩
                  · rw [ekb] at hn; injection hn with hn; subst hn
                    exact ⟨n0, _, .inl rfl, hkb, by rw [rold _ hub] at hB; exact hB⟩
                  · rw [eko] at hn; cases hn
                  · rw [ek] at hn; injection hn with hn; subst hn
                    rw [rk] at hB
                    obtain ⟨n1, h1, g0, g1, g2⟩ := hown v hvm b hB
                    exact ⟨n1, h1, g0.elim (fun e => .inr (.inl e)) (fun e => .inr (.inr (.inr (.inr e)))), g1, g2⟩
                  · rw [ek1] at hn; injection hn with hn; subst hn
                    obtain ⟨vs, hvs, z, hz, hzb⟩ := hB
                    rw [rk1] at hvs
                    injection hvs with hvs
                    subst hvs
                    have hz : z ∈ q.set idx (.slice none 0 0) := by simpa using hz
                    obtain ⟨n1, h1, g0, g1, g2⟩ := hown z (hset z hz b hzb) b hzb
                    exact ⟨n1, h1, g0.elim (fun e => .inr (.inl e)) (fun e => .inr (.inr (.inr (.inr e)))), g1, g2⟩
                  · rw [ek0 i0 n0 hg] at hn; cases hn
                · intro n0 he hT hn
                  rcases hT with rfl | rfl | rfl | rfl | ⟨i0, hg⟩
                  · exact eus _ hub
                  · exact eus _ huo
                  · exact eusk
                  · exact eusk1
                  · rw [ek0 i0 n0 hg] at hn; cases hn
                · have hkk : ∀ b, Bk (.row u (xss1.getD idx [])) (ρ' k) b → ¬ Bk (.orw u (xss1.set idx [])) (ρ' k1) b := fun b hB hB' => by
                    rw [rk] at hB
                    obtain ⟨vs, hvs, z, hz, hzb⟩ := hB'
                    rw [rk1] at hvs
                    injection hvs with hvs
                    subst hvs
                    have hz : z ∈ q.set idx (.slice none 0 0) := by simpa using hz
                    obtain ⟨m, hm⟩ := List.mem_iff_getElem?.1 hz
                    by_cases e : idx = m
                    · subst e
                      have hlt2 : idx < q.length := by omega
                      rw [List.getElem?_set_self hlt2] at hm
                      injection hm with hm
                      subst hm
                      cases hzb
                    · rw [List.getElem?_set_ne e] at hm
                      exact hH.apart e hqi hm hB hzb
                  have hbk1 : ∀ b, Bk (.box (pre ++ (.orp k1 n (some (idx, k)) :: post))) (ρ' kb) b → ¬ Bk (.orw u (xss1.set idx [])) (ρ' k1) b := fun b hB hB' => by
                    rw [rold _ hub] at hB
                    obtain ⟨vs, hvs, z, hz, hzb⟩ := hB'
                    rw [rk1] at hvs
                    injection hvs with hvs
                    subst hvs
                    have hz : z ∈ q.set idx (.slice none 0 0) := by simpa using hz
                    exact hkbl z (hset z hz b hzb) b hzb hB
                  have hbk2 : ∀ b, Bk (.box (pre ++ (.orp k1 n (some (idx, k)) :: post))) (ρ' kb) b → ¬ Bk (.row u (xss1.getD idx [])) (ρ' k) b := fun b hB hB' => by
                    rw [rold _ hub] at hB
                    rw [rk] at hB'
                    exact hkbl v hvm b hB' hB
                  intro n0 n1 he he' b hne hT hT' hn hn' hB hB'
                  rcases hT with rfl | rfl | rfl | rfl | ⟨i0, hg⟩
                  · rw [ekb] at hn; injection hn with hn; subst hn
                    rcases hT' with rfl | rfl | rfl | rfl | ⟨i0, hg⟩
                    · exact hne rfl
                    · rw [eko] at hn'; cases hn'
                    · rw [ek] at hn'; injection hn' with hn'; subst hn'; exact hbk2 b hB hB'
                    · rw [ek1] at hn'; injection hn' with hn'; subst hn'; exact hbk1 b hB hB'
                    · rw [ek0 i0 n1 hg] at hn'; cases hn'
                  · rw [eko] at hn; cases hn
                  · rw [ek] at hn; injection hn with hn; subst hn
                    rcases hT' with rfl | rfl | rfl | rfl | ⟨i0, hg⟩
                    · rw [ekb] at hn'; injection hn' with hn'; subst hn'; exact hbk2 b hB' hB
                    · rw [eko] at hn'; cases hn'
                    · exact hne rfl
                    · rw [ek1] at hn'; injection hn' with hn'; subst hn'; exact hkk b hB hB'
                    · rw [ek0 i0 n1 hg] at hn'; cases hn'
                  · rw [ek1] at hn; injection hn with hn; subst hn
                    rcases hT' with rfl | rfl | rfl | rfl | ⟨i0, hg⟩
                    · rw [ekb] at hn'; injection hn' with hn'; subst hn'; exact hbk1 b hB' hB
                    · rw [eko] at hn'; cases hn'
                    · rw [ek] at hn'; injection hn' with hn'; subst hn'; exact hkk b hB' hB
                    · exact hne rfl
                    · rw [ek0 i0 n1 hg] at hn'; cases hn'
                  · rw [ek0 i0 n0 hg] at hn; cases hn
                · intro n0 he hT hn hle
                  rcases hT with rfl | rfl | rfl | rfl | ⟨i0, hg⟩
                  · rw [ekb] at hn; injection hn with hn; subst hn
                    refine ⟨b', e, cs, by show ρ' n0 = _; rw [rold _ hub]; exact hρb, hheap, ?_⟩
                    rw [hcs]
                    refine (hp1.mono hle).append (ps := pre) (qs := .orp k1 n (some (idx, k)) :: post) ⟨q, tl, rfl, ?_, hp3.mono hle⟩
                    refine ⟨eusk1, q.set idx (.slice none 0 0), rk1, ⟨by rw [List.length_set]; exact hql, fun z hz => ?_⟩, ⟨eusk, hlt⟩, by show (ρ' k).oneCell' = true; rw [rk]; exact hq1 v hvm, ?_⟩
                    · rcases List.mem_or_eq_of_mem_set hz with hz | hz
                      · exact hq1 z hz
                      · rw [hz]; rfl
                    · show q = (q.set idx (.slice none 0 0)).set idx (ρ' k)
                      rw [rk, set_set_self hqi]
                  · rw [eko] at hn; cases hn
                  · rw [ek] at hn; injection hn with hn; subst hn
                    have hxi : idx < xss1.length := by rw [← hH.1]; omega
                    have hx1 : xss1[idx]? = some (xss1.getD idx []) := by simp [List.getD, hxi]
                    have := (hH.2.1 idx v _ hqi hx1).mono hle (fun _ _ => rfl)
                    show RowC _ u (ρ' n0) _
                    rw [rk]; exact this
                  · rw [ek1] at hn; injection hn with hn; subst hn
                    have hH2 := (hH.set (i := idx) (v := .slice none 0 0) (ys := []) (.inl ⟨rfl, rfl⟩) (fun m b v' _ _ hb => by cases hb)).mono hle (fun _ _ _ _ => rfl)
                    exact ⟨_, rk1, hH2⟩
                  · rw [ek0 i0 n0 hg] at hn; cases hn
              exact .inl ⟨v, w, hrun, hN _ _ _ _ (hok.put o.dst (SVc.of1 (p := .row k) rfl ⟨eusk, by show [v] = [ρ' k]; rw [rk], by show (ρ' k).oneCell' = true; rw [rk]; exact hq1 v hvm⟩)) hK⟩
            · exact hK.elim
        · exact hK.elim
      · exact hK.elim
    · exact hK.elim
  · exact hK.elim
/-- What is put in: its header, and what it holds. -/
theorem orwVal_c (h : Ok w0 ρ s a w) {u : Ty} {sv : SV} {v : Value} {ys : List u.D} {s1 : St} (hv : SVc (cx w0 ρ s w) sv v) (hx : orwVal s u sv = some (s1, ys)) :
    v.oneCell' = true ∧ RowC (cx w0 ρ s w) u v ys ∧ ((s1 = s ∧ blkOf v = none) ∨ ∃ kv, s1 = s.drop kv ∧ s.hp kv = some (.row u ys) ∧ ρ kv = v) := by
  unfold orwVal at hx
  split at hx
  · simp only [Option.some.injEq, Prod.mk.injEq] at hx
    obtain ⟨rfl, rfl⟩ := hx
    have hv := SVc.one1 rfl (by simp) hv
    have hv : [v] = [.slice none 0 0] := hv.1
    simp only [List.cons.injEq, and_true] at hv
    subst hv
    exact ⟨rfl, .inl ⟨rfl, rfl⟩, .inl ⟨rfl, rfl⟩⟩
  · rename_i kv
    split at hx
    · rename_i u2 ys0 hk
      split at hx
      · rename_i ys' hc
        simp only [Option.some.injEq, Prod.mk.injEq] at hx
        obtain ⟨rfl, rfl⟩ := hx
        obtain ⟨e2, e3⟩ := castD_eq hc
        injection e2 with e2
        subst e2
        have e3 : ys0 = ys' := e3
        subst e3
        obtain ⟨_, h1, h2⟩ := SVc.one1 rfl (by simp) hv
        simp only [List.cons.injEq, and_true] at h1
        have h1 : v = ρ kv := h1
        subst h1
        exact ⟨h2, rowC_of h hk, .inr ⟨kv, rfl, hk, rfl⟩⟩
      · cases hx
    · cases hx
  · cases hx
/-- And one is put in. -/
theorem orwStore_does {t : TypeId} {x y : Operand} {k : Nat} {K : St → Prop} {N : Act → World → Prop} (h : Ok w0 ρ s a w) (ho : o.op = .store t x y)
    (hE : EnvOk P E) (hK : orwStore E t s k (ev s x) (ev s y) (fun s => K (s.put o.dst (.one .any)))) (hN : ∀ ρ' s' a' w', Ok w0 ρ' s' a' w' → K s' → N a' w') : Does P o a w N := by
  unfold orwStore at hK
  cases hsl : isSliceT E t with
  | false => rw [hsl] at hK; exact hK.elim
  | true =>
  rw [hsl] at hK
  simp only [Bool.not_true, cond_false] at hK
  obtain ⟨ti, hT, hag, hsz⟩ := sliceT_ti hE hsl
  split at hK
  · rename_i kb off idx hx
    split at hK
    · rename_i ps hkb
      split at hK
      · rename_i pre ko n g post hat
        split at hK
        · rename_i u xss hko
          cases hus : (s.us k || Nat.beq u.size 0) with
          | true => rw [hus] at hK; exact hK.elim
          | false =>
            rw [hus] at hK
            simp only [cond_false] at hK
            simp only [Bool.or_eq_false_iff] at hus
            obtain ⟨hus1, _⟩ := hus
            split at hK
            · rename_i s1 ys hvv
              obtain ⟨hcond, hK⟩ := hK
              obtain ⟨b, hρb, hl⟩ := elA_c hx (h.ev x)
              obtain ⟨b', e, cs, hρb', hheap, hps⟩ := h.heap kb _ hkb
              have hρb : ρ kb = .pointer (some ⟨b, 0, none⟩) := hρb
              have hρb' : ρ kb = .pointer (some ⟨b', 0, none⟩) := hρb'
              have hbb : b' = b := by rw [hρb] at hρb'; injection hρb' with e; injection e with e; injection e with e; exact e.symm
              subst hbb
              have hheap : w.heap[b']? = some (.cells cs e (0, 0)) := hheap
              obtain ⟨hpse, hpre, hd, q, tl, hcs, hdl, hql, hp1, hp2, hp3⟩ := orwAt_c hat hps
              obtain ⟨vs, hvs, hH⟩ := h.heap ko _ hko
              have hvs : ρ ko = .tuple vs.toArray := hvs
              have hH : HeadsC (cx w0 ρ s w) u vs xss := hH
              obtain ⟨_, vs', hvs', ⟨hvl', hv1⟩, hg⟩ := hp2
              have hvs' : ρ ko = .tuple vs'.toArray := hvs'
              have hee : vs = vs' := by
                rw [hvs] at hvs'
                injection hvs' with e
                simpa using congrArg Array.toList e
              subst hee
              obtain ⟨hone, hrow, hwho⟩ := orwVal_c h (h.ev y) hvv
              generalize hval : a.eval y = v at hone hrow hwho
              -- the cells behind it
              have hqs : idx < n ∧ q.set idx v = vs.set idx v := by
                cases g with
                | none => exact ⟨hcond, by rw [show q = vs from hg]⟩
                | some e =>
                  obtain ⟨i0, k0⟩ := e
                  have hi : i0 = idx := hcond
                  subst hi
                  obtain ⟨⟨_, hi0⟩, _, hg⟩ := hg
                  exact ⟨hi0, by rw [show q = vs.set i0 _ from hg, List.set_set]⟩
              obtain ⟨hlt, hqs⟩ := hqs
              have hcells : v.cells.toList = [v] := by cases v <;> first | rfl | cases hone
              have hsplice : splice cs.toList (off + idx) [v] = hd ++ (vs.set idx v ++ tl) := by
                rw [← hqs, hcs]
                unfold splice
                rw [List.take_append, List.drop_append, hdl]
                have e1 : hd.take (off + idx) = hd := List.take_of_length_le (by omega)
                have e2 : hd.drop (off + idx + [v].length) = [] := List.drop_of_length_le (by simp; omega)
                rw [e1, e2, List.nil_append, show off + idx - off = idx by omega, show off + idx + [v].length - off = idx + 1 by simp; omega]
                rw [List.take_append_of_le_length (by omega), List.drop_append_of_le_length (by omega), List.append_assoc, List.set_eq_take_append_cons_drop, if_pos (by omega)]
                simp
              have hwn := setRow_heap w b' cs (splice cs.toList (off + idx) [v]).toArray e _ hheap
              have hother := fun bb (hne : bb ≠ b') => setRow_other w b' bb (splice cs.toList (off + idx) [v]).toArray hne
              have hcl : off + idx + 1 ≤ cs.size := by
                have : cs.toList.length = cs.size := by simp
                rw [← this, hcs, List.length_append, List.length_append, hdl, hql]
                omega
              have hrun0 := storeAt_run hT (w := w) (b := b') (q := off + idx) (v := v) hheap (by rw [hcells, hsz]; rfl) (by rw [hsz]; exact hcl) (by rw [hcells]; simpa using hone)
              rw [hcells] at hrun0
              generalize hw' : w.setRow b' (splice cs.toList (off + idx) [v]).toArray = w' at hrun0 hwn hother
              have hrun : (execOp a.eval o).run P w = .ok .skip w' := by
                simp only [execOp, ho, hl, hval, Sem.run_bind, hrun0, Result.andThen_ok, Sem.run_pure]
              have hub := h.used kb _ hkb
              have huo := h.used ko _ hko
              have hkbk : kb ≠ k := fun e => by rw [e, hus1] at hub; cases hub
              have hkok : ko ≠ k := fun e => by rw [e, hus1] at huo; cases huo
              have hkbo : kb ≠ ko := fun e => by rw [e, hko] at hkb; cases hkb
              have hbelow : BelowS w0.old w w' := by rw [← hw']; exact setRow_below w b' _ _ (h.fresh kb _ b' hkb (by show blkOf (ρ kb) = _; rw [hρb]; rfl)).1
              have hvo : ∀ z ∈ vs, ∀ bb, blkOf z = some bb → Bk (.orw u xss) (ρ ko) bb := fun z hz bb hb => ⟨_, hvs, z, by simpa using hz, hb⟩
              -- which row it is
              obtain ⟨V, hs1, hV, hVk⟩ : ∃ V : Nat → Prop, (∀ n0, (¬ V n0 → s1.hp n0 = s.hp n0) ∧ (V n0 → s1.hp n0 = none)) ∧ (s1.us = s.us ∧ s1.fr = s.fr ∧ s1.bk = s.bk) ∧
                  ((∀ n0, V n0 → ∃ ys, s.hp n0 = some (.row u ys) ∧ ρ n0 = v) ∧ ∀ bb, blkOf v = some bb → ∃ n0, V n0) := by
                rcases hwho with ⟨rfl, hb⟩ | ⟨kv, rfl, hkv, hρv⟩
                · exact ⟨fun _ => False, fun _ => ⟨fun _ => rfl, fun hf => hf.elim⟩, ⟨rfl, rfl, rfl⟩, fun _ hf => hf.elim, fun bb hbb => by rw [hb] at hbb; cases hbb⟩
                · exact ⟨fun n0 => n0 = kv, fun n0 => ⟨fun hn => drop_hp hn, fun e => by rw [e]; exact drop_at⟩, ⟨rfl, rfl, rfl⟩, fun n0 e => ⟨ys, by rw [e]; exact hkv, by rw [e]; exact hρv⟩, fun _ _ => ⟨kv, rfl⟩⟩
              obtain ⟨hs1us, hs1fr, hs1bk⟩ := hV
              obtain ⟨hVr, hVb⟩ := hVk
              have hVne : ∀ n0, V n0 → n0 ≠ kb ∧ n0 ≠ ko ∧ n0 ≠ k := fun n0 hn => by
                obtain ⟨ys', hy, _⟩ := hVr n0 hn
                have hu0 := h.used n0 _ hy
                refine ⟨fun e => ?_, fun e => ?_, fun e => ?_⟩
                · rw [e, hkb] at hy; cases hy
                · rw [e, hko] at hy; cases hy
                · rw [e, hus1] at hu0; cases hu0
              generalize hs' : (((s1.drop ko).new k (.orw u (xss.set idx ys))).upd kb (.box (pre ++ (.orp k n none :: post)))) = s' at hK
              have ekb : s'.hp kb = some (.box (pre ++ (.orp k n none :: post))) := by rw [← hs']; exact upd_at
              have ek : s'.hp k = some (.orw u (xss.set idx ys)) := by rw [← hs', upd_hp (fun e => hkbk e.symm)]; exact new_at
              have eko : s'.hp ko = none := by rw [← hs', upd_hp (fun e => hkbo e.symm), new_hp hkok]; exact drop_at
              have eV : ∀ n0, V n0 → s'.hp n0 = none := fun n0 hn => by
                obtain ⟨g1, g2, g3⟩ := hVne n0 hn
                rw [← hs', upd_hp g1, new_hp g3, drop_hp g2]; exact (hs1 n0).2 hn
              have esame : ∀ n0, ¬ (n0 = kb ∨ n0 = ko ∨ n0 = k ∨ V n0) → s'.hp n0 = s.hp n0 := fun n0 hn => by
                rw [← hs', upd_hp (fun e => hn (.inl e)), new_hp (fun e => hn (.inr (.inr (.inl e)))), drop_hp (fun e => hn (.inr (.inl e)))]
                exact (hs1 n0).1 (fun e => hn (.inr (.inr (.inr e))))
              have eus : ∀ n0, s.us n0 = true → s'.us n0 = true := fun n0 hn => by rw [← hs']; exact uset_of (by show s1.us n0 = true; rw [hs1us]; exact hn)
              have eusk : s'.us k = true := by rw [← hs']; exact uset_same _ _
              have efr : s'.fr = s.fr := by rw [← hs']; exact hs1fr
              have ebk : s'.bk = s.bk := by rw [← hs']; exact hs1bk
              generalize hρ' : rset ρ k (.tuple (vs.set idx v).toArray) = ρ'
              have rk : ρ' k = .tuple (vs.set idx v).toArray := by rw [← hρ']; exact rset_same _ _ _
              have rold : ∀ n0, s.us n0 = true → ρ' n0 = ρ n0 := fun n0 hn => by
                rw [← hρ', rset_other _ _ (fun e => by rw [e, hus1] at hn; cases hn)]
              have hown : ∀ z ∈ vs.set idx v, ∀ bb, blkOf z = some bb → ∃ n0 h0, (n0 = ko ∨ V n0) ∧ s.hp n0 = some h0 ∧ Bk h0 (ρ n0) bb := fun z hz bb hb => by
                rcases List.mem_or_eq_of_mem_set hz with hz | hz
                · exact ⟨ko, _, .inl rfl, hko, hvo z hz bb hb⟩
                · rw [hz] at hb
                  obtain ⟨n0, hn0⟩ := hVb bb hb
                  obtain ⟨ys', g1, g2⟩ := hVr n0 hn0
                  exact ⟨n0, _, .inr hn0, g1, by show blkOf (ρ n0) = _; rw [g2]; exact hb⟩
              have hapart : ∀ bb, Bk (.box (pre ++ (.orp k n none :: post))) (ρ' kb) bb → ¬ Bk (.orw u (xss.set idx ys)) (ρ' k) bb := fun bb hB hB' => by
                rw [rold _ hub] at hB
                obtain ⟨vs2, hvs2, z, hz, hzb⟩ := hB'
                rw [rk] at hvs2
                injection hvs2 with hvs2
                subst hvs2
                have hz : z ∈ vs.set idx v := by simpa using hz
                obtain ⟨n0, h0, hn0, g1, g2⟩ := hown z hz bb hzb
                refine h.apart kb n0 _ _ bb (fun e => ?_) hkb g1 hB g2
                rcases hn0 with e2 | e2
                · exact hkbo (e.trans e2)
                · exact (hVne n0 e2).1 e.symm
              have hH2 : HeadsC (cx w0 ρ s w) u (vs.set idx v) (xss.set idx ys) := hH.set hrow fun m bb v' hm hv' hb hb' => by
                obtain ⟨n0, hn0⟩ := hVb bb hb
                obtain ⟨ys', g1, g2⟩ := hVr n0 hn0
                exact h.apart n0 ko _ _ bb (hVne n0 hn0).2.1 g1 hko (by show blkOf (ρ n0) = _; rw [g2]; exact hb) (hvo v' (List.mem_iff_getElem?.2 ⟨m, hv'⟩) bb hb')
              have hok : Ok w0 ρ' s' a w' := by
                refine h.step (fun n0 => n0 = kb ∨ n0 = ko ∨ n0 = k ∨ V n0) efr ebk eus rold hbelow esame (fun bb _ hn => ?_) ?_ ?_ ?_ ?_
                · exact hother bb (fun e => hn kb _ (.inl rfl) hkb (by show blkOf (ρ kb) = _; rw [hρb, e]; rfl))
                · intro n0 he bb hT hn hB
                  refine .inl ?_
                  rcases hT with rfl | rfl | rfl | hT
                  · rw [ekb] at hn; injection hn with hn; subst hn
                    exact ⟨n0, _, .inl rfl, hkb, by rw [rold _ hub] at hB; exact hB⟩
                  · rw [eko] at hn; cases hn
                  · rw [ek] at hn; injection hn with hn; subst hn
                    obtain ⟨vs2, hvs2, z, hz, hzb⟩ := hB
                    rw [rk] at hvs2
                    injection hvs2 with hvs2
                    subst hvs2
                    have hz : z ∈ vs.set idx v := by simpa using hz
                    obtain ⟨n1, h1, g0, g1, g2⟩ := hown z hz bb hzb
                    exact ⟨n1, h1, g0.elim (fun e => .inr (.inl e)) (fun e => .inr (.inr (.inr e))), g1, g2⟩
                  · rw [eV n0 hT] at hn; cases hn
                · intro n0 he hT hn
                  rcases hT with rfl | rfl | rfl | hT
                  · exact eus _ hub
                  · exact eus _ huo
                  · exact eusk
                  · rw [eV n0 hT] at hn; cases hn
                · intro n0 n1 he he' bb hne hT hT' hn hn' hB hB'
                  rcases hT with rfl | rfl | rfl | hT
                  · rw [ekb] at hn; injection hn with hn; subst hn
                    rcases hT' with rfl | rfl | rfl | hT'
                    · exact hne rfl
                    · rw [eko] at hn'; cases hn'
                    · rw [ek] at hn'; injection hn' with hn'; subst hn'; exact hapart bb hB hB'
                    · rw [eV n1 hT'] at hn'; cases hn'
                  · rw [eko] at hn; cases hn
                  · rw [ek] at hn; injection hn with hn; subst hn
                    rcases hT' with rfl | rfl | rfl | hT'
                    · rw [ekb] at hn'; injection hn' with hn'; subst hn'; exact hapart bb hB' hB
                    · rw [eko] at hn'; cases hn'
                    · exact hne rfl
                    · rw [eV n1 hT'] at hn'; cases hn'
                  · rw [eV n0 hT] at hn; cases hn
                · intro n0 he hT hn hle
                  rcases hT with rfl | rfl | rfl | hT
                  · rw [ekb] at hn; injection hn with hn; subst hn
                    refine ⟨b', e, _, by show ρ' n0 = _; rw [rold _ hub]; exact hρb, hwn, ?_⟩
                    show PsC _ _ (splice cs.toList (off + idx) [v])
                    rw [hsplice]
                    refine (hp1.mono hle).append (ps := pre) (qs := .orp k n none :: post) ⟨vs.set idx v, tl, rfl, ?_, hp3.mono hle⟩
                    refine ⟨eusk, vs.set idx v, rk, ⟨by rw [List.length_set]; exact hvl', fun z hz => ?_⟩, rfl⟩
                    rcases List.mem_or_eq_of_mem_set hz with hz | hz
                    · exact hv1 z hz
                    · rw [hz]; exact hone
                  · rw [eko] at hn; cases hn
                  · rw [ek] at hn; injection hn with hn; subst hn
                    exact ⟨_, rk, hH2.mono hle (fun z hz bb hb => hother bb (fun e => by
                      obtain ⟨n1, h1, g0, g1, g2⟩ := hown z hz bb hb
                      refine h.apart kb n1 _ _ bb (fun e => ?_) hkb g1 (by show blkOf (ρ kb) = _; rw [hρb, e]; rfl) g2
                      rcases g0 with e2 | e2
                      · exact hkbo (e.trans e2)
                      · exact (hVne n1 e2).1 e.symm))⟩
                  · rw [eV n0 hT] at hn; cases hn
              exact .inr ⟨w', hrun, hN _ _ _ _ (hok.put o.dst (SVc_any _)) hK⟩
            · exact hK.elim
        · exact hK.elim
      · exact hK.elim
    · exact hK.elim
  · exact hK.elim
end
end Go.Sx
