/-
  Sx, part L: addresses of elements, slices of slices, and the small operations.
-/
import Derived.Test.YtpnmfoojmodnlaaSxK
set_option linter.unusedSimpArgs false
namespace Go.Sx
open Go.RowKit

section
variable {P : Program} {E : Env} {w0 : Base} {w : World} {ρ : Nat → Value} {s s' : St} {a : Act} {o : Oper}

theorem indexAt_arr {t e : TypeId} {n sz : Nat} {ei : TI} (hk : P.underlying t = some (.array n e)) (hT : TIok P e ei) (b q : Nat) (k : IntKind) (i : Int) (hi : 0 ≤ i ∧ i < (n : Int)) (hz : ei.size = sz) :
    (Instr.indexAt t (.pointer (some ⟨b, q, none⟩)) (.int k i)).run P w = .ok (.pointer (some ⟨b, q + i.toNat * sz, none⟩)) w := by
  unfold Instr.indexAt
  simp only [Sem.run_bind, asIntOf, Sem.run_pure, Result.andThen_ok, run_underlying hk, Instr.sureAddr, if_pos hi, hT.run_size, Addr.add_lit, hz]
theorem indexAt_sl {t e : TypeId} {n c sz : Nat} {ei : TI} (hk : P.underlying t = some (.slice e)) (hT : TIok P e ei) (b q : Nat) (k : IntKind) (i : Int) (hi : 0 ≤ i ∧ i < (n : Int)) (hz : ei.size = sz) :
    (Instr.indexAt t (.slice (some ⟨b, q, none⟩) n c) (.int k i)).run P w = .ok (.pointer (some ⟨b, q + i.toNat * sz, none⟩)) w := by
  unfold Instr.indexAt
  simp only [Sem.run_bind, asIntOf, Sem.run_pure, Result.andThen_ok, run_underlying hk, if_pos hi, hT.run_size, Addr.add_lit, hz]

theorem indexAddr_does {t : TypeId} {x y : Operand} {p : Option Prop} {R : Act → World → Prop} (hE : EnvOk P E) (h : Ok w0 ρ s a w) (ho : o.op = .indexAddr t x y)
    {lit : Bool} (hs : indexAddrS E lit s o.dst t (ev s x) (ev s y) = some (p, s')) (hp : vcP p) (hR : Up w0 s' R) : Does P o a w R := by
  have hx := h.ev x
  have hexec : execOp a.eval o = (do pure (.value (← Instr.indexAt t (a.eval x) (a.eval y)))) := by simp [execOp, ho]
  unfold indexAddrS at hs
  split at hs
  · rename_i sz by_ n e z ty k i hti hi
    have ey := asInt_c (h.ev y) hi
    have hk := (hE t _ hti).kind
    split at hs
    · rename_i ei kk off hei hxx
      rw [hxx] at hx
      obtain ⟨hu, b, hb, hl⟩ := SVc.one1 rfl (by simp) hx
      simp only [List.cons.injEq, and_true] at hl
      cases lit with
      | true =>
        simp only [cond_true, Option.some.injEq, Prod.mk.injEq] at hs
        obtain ⟨rfl, rfl⟩ := hs
        exact does_value h hexec (by rw [hl, ey]; exact indexAt_arr hk (hE e ei hei) b off k i hp rfl) (SVc.of1 (p := .ptr kk (off + i.toNat * ei.size)) rfl ⟨hu, b, hb, rfl⟩) hR
      | false =>
        simp only [cond_false, Option.some.injEq, Prod.mk.injEq] at hs
        obtain ⟨rfl, rfl⟩ := hs
        exact does_value h hexec (by rw [hl, ey]; exact indexAt_arr hk (hE e ei hei) b off k i hp rfl) (SVc.of1 (p := .pel kk off n ei.size i.toNat 0) rfl ⟨hu, by omega, b, hb, rfl⟩) hR
    · rename_i ei kk sz2 ix j2 hei hxx
      simp only [Option.some.injEq, Prod.mk.injEq] at hs
      obtain ⟨rfl, rfl⟩ := hs
      rw [hxx] at hx
      obtain ⟨hu, b, q, m, cp, hb, him, hl⟩ := SVc.one1 rfl (by simp) hx
      simp only [List.cons.injEq, and_true] at hl
      refine does_value h hexec (by rw [hl, ey]; exact indexAt_arr hk (hE e ei hei) b _ k i hp rfl) (SVc.of1 (p := .rea kk sz2 ix j2 n ei.size i.toNat 0) rfl ⟨hu, by omega, b, q, m, cp, hb, him, by simp [Nat.add_assoc]⟩) hR
    · rename_i ei pp aa off hei hxx
      rw [hxx] at hx
      obtain ⟨h0, hl⟩ := SVc.one1 rfl (by simp) hx
      simp only [List.cons.injEq, and_true] at hl
      cases lit with
      | true =>
        simp only [cond_true, Option.some.injEq, Prod.mk.injEq] at hs
        obtain ⟨rfl, rfl⟩ := hs
        exact does_value h hexec (by rw [hl, ey]; exact indexAt_arr hk (hE e ei hei) _ off k i hp rfl) (SVc.of1 (p := .opt pp aa (off + i.toNat * ei.size)) rfl ⟨h0, rfl⟩) hR
      | false =>
        simp only [cond_false, Option.some.injEq, Prod.mk.injEq] at hs
        obtain ⟨rfl, rfl⟩ := hs
        have hp : 0 ≤ i ∧ i < (n : Int) := hp
        exact does_value h hexec (by rw [hl, ey]; exact indexAt_arr hk (hE e ei hei) _ off k i hp rfl) (SVc.of1 (p := .oel pp aa off n ei.size i.toNat 0) rfl ⟨⟨h0, by omega⟩, rfl⟩) hR
    · rename_i ei pp aa hei hxx
      simp only [Option.some.injEq, Prod.mk.injEq] at hs
      obtain ⟨rfl, rfl⟩ := hs
      have hp : 0 ≤ (aa : Int) ∧ 0 ≤ i ∧ i < (n : Int) := hp
      rw [hxx] at hx
      have hl := ref_ptr hx hp.1
      exact does_value h hexec (by rw [hl, ey]; exact indexAt_arr hk (hE e ei hei) _ 0 k i hp.2 rfl) (SVc.of1 (p := .oel pp aa 0 n ei.size i.toNat 0) rfl ⟨⟨hp.1, by omega⟩, by simp⟩) hR
    · rename_i ei kk off m sz2 ix j2 hei hxx
      rw [hxx] at hx
      obtain ⟨hu, him, b, hb, hl⟩ := SVc.one1 rfl (by simp) hx
      simp only [List.cons.injEq, and_true] at hl
      cases lit with
      | false =>
        simp only [cond_false, Option.some.injEq, Prod.mk.injEq] at hs
        obtain ⟨rfl, rfl⟩ := hs
        exact does_value h hexec (by rw [hl, ey]; exact indexAt_arr hk (hE e ei hei) b _ k i hp rfl) (SVc.of1 (p := .pea kk off m sz2 ix j2 n ei.size i.toNat 0) rfl ⟨hu, ⟨him, by have hp : 0 ≤ i ∧ i < (n : Int) := hp; omega⟩, b, hb, by simp [Nat.add_assoc]⟩) hR
      | true =>
      simp only [cond_true, Option.some.injEq, Prod.mk.injEq] at hs
      obtain ⟨rfl, rfl⟩ := hs
      exact does_value h hexec (by rw [hl, ey]; exact indexAt_arr hk (hE e ei hei) b _ k i hp rfl) (SVc.of1 (p := .pel kk off m sz2 ix (j2 + i.toNat * ei.size)) rfl ⟨hu, him, b, hb, by simp [Nat.add_assoc]⟩) hR
    · cases hs
  · rename_i sz by_ e z ty k i hti hi
    have ey := asInt_c (h.ev y) hi
    have hk := (hE t _ hti).kind
    split at hs
    · rename_i ei kk hei hxx
      split at hs
      · rename_i u xs hkk
        cases hz : Nat.beq u.size ei.size with
        | false => rw [hz] at hs; cases hs
        | true =>
          rw [hz] at hs
          simp only [cond_true, Option.some.injEq, Prod.mk.injEq] at hs
          obtain ⟨rfl, rfl⟩ := hs
          rw [hxx] at hx
          obtain ⟨hu, h1, _⟩ := SVc.one1 rfl (by simp) hx
          simp only [List.cons.injEq, and_true] at h1
          rcases h.heap kk _ hkk with ⟨_, rfl⟩ | ⟨b, q, cp, cur, e', h2, hh, h3, h4, h5, h6⟩
          · simp only [List.length_nil] at hp; omega
          · rw [h2] at h1
            refine does_value h hexec (by rw [h1, ey]; exact indexAt_sl hk (hE e ei hei) b q k i hp rfl) (SVc.of1 (p := .rel kk ei.size i.toNat 0) rfl ⟨hu, b, q, xs.length, cp, h2, by omega, rfl⟩) hR
      · cases hs
    · rename_i ei u xs hei hxx
      cases hz : Nat.beq u.size ei.size with
      | false => rw [hz] at hs; cases hs
      | true =>
        rw [hz] at hs
        simp only [cond_true, Option.some.injEq, Prod.mk.injEq] at hs
        obtain ⟨rfl, rfl⟩ := hs
        have e2 := Nat.eq_of_beq_eq_true hz
        rw [hxx] at hx
        obtain ⟨A, c, h1, h2, h3, h4⟩ := SVc.one1 rfl (by simp) hx
        simp only [List.cons.injEq, and_true] at h1
        obtain ⟨b, q, rfl, hS, hr⟩ := h4 (by omega)
        obtain ⟨l, hl, hr'⟩ := hr i.toNat (nth u xs i.toNat) (nth_some (by omega))
        refine does_value h hexec (by rw [h1, ey]; exact indexAt_sl hk (hE e ei hei) b q k i hp rfl) (SVc.of1 (p := .dpl u (nth u xs i.toNat)) rfl ⟨b, q + i.toNat * ei.size, l, rfl, hS, hr', fun j v hv => ?_⟩) hR
        rw [← e2, Nat.add_assoc]
        exact hl j v hv
    · rename_i ei kk kk' sz x1 x2 hei hxx
      cases hz : Nat.beq sz ei.size with
      | false => rw [hz] at hs; cases hs
      | true =>
        rw [hz] at hs
        simp only [cond_true, Option.some.injEq, Prod.mk.injEq] at hs
        obtain ⟨rfl, rfl⟩ := hs
        have e2 := Nat.eq_of_beq_eq_true hz
        subst e2
        have hp : 0 ≤ i ∧ i < ((x2 - x1 : Nat) : Int) := hp
        rw [hxx] at hx
        obtain ⟨hu, _, h1, A, m, cp, h2, ⟨hm0, hmc⟩, ⟨hxy, hyn⟩, h3⟩ := SVc.one1 rfl (by simp) hx
        simp only [List.cons.injEq, and_true] at h1
        rw [h3] at h1
        rcases hm0 with hm0 | ⟨b, q, rfl⟩
        · omega
        · have hne : ¬ cp = x1 := by omega
          rw [if_neg hne] at h1
          simp only [Option.map_some, Addr.add_lit] at h1
          exact does_value h hexec (by rw [h1, ey]; exact indexAt_sl hk (hE e ei hei) b _ k i hp rfl) (SVc.of1 (p := .rel kk ei.size (x1 + i.toNat) 0) rfl ⟨hu, b, q, m, cp, h2, by omega, by rw [Nat.add_mul, Nat.add_assoc]; rfl⟩) hR
    · rename_i ei kk off n sz hei hxx
      cases hz : Nat.beq sz ei.size with
      | false => rw [hz] at hs; cases hs
      | true =>
        rw [hz] at hs
        simp only [cond_true, Option.some.injEq, Prod.mk.injEq] at hs
        obtain ⟨rfl, rfl⟩ := hs
        have e2 := Nat.eq_of_beq_eq_true hz
        subst e2
        rw [hxx] at hx
        obtain ⟨hu, b, hb, hl⟩ := SVc.one1 rfl (by simp) hx
        simp only [List.cons.injEq, and_true] at hl
        exact does_value h hexec (by rw [hl, ey]; exact indexAt_sl hk (hE e ei hei) b off k i hp rfl) (SVc.of1 (p := .pel kk off n ei.size i.toNat 0) rfl ⟨hu, by omega, b, hb, rfl⟩) hR
    · cases hs
  · cases hs

theorem sliceBound_run (k : IntKind) (i : Int) (y : Nat) (code : BoundsCode) (hi : 0 ≤ i ∧ i ≤ (y : Int)) : (Instr.sliceBound (.int k i) y code).run P w = .ok i.toNat w := by
  unfold Instr.sliceBound
  simp only [Sem.run_bind, asIntOf, Sem.run_pure, Result.andThen_ok, if_pos hi]

theorem bounds_run {lo hi : Option Operand} {n c : Nat} {l h : Int} (h0 : Ok w0 ρ s a w) (hl : boundOf 0 (lo.map (ev s)) = some l) (hh : boundOf (n : Int) (hi.map (ev s)) = some h)
    (hb : (0 ≤ l ∧ l ≤ h) ∧ h ≤ (n : Int)) (hc : n ≤ c) : (Instr.sliceBounds true n c (lo.map a.eval) (hi.map a.eval) none).run P w = .ok (l.toNat, h.toNat, c) w := by
  unfold Instr.sliceBounds
  have hb1 : ∀ x, boundOf (n : Int) ((some x : Option Operand).map (ev s)) = some h → ∃ k, a.eval x = .int k h := fun x e => by
    simp only [Option.map_some, boundOf] at e
    split at e
    · rename_i k i e1
      injection e with e
      subst e
      exact ⟨k, asInt_c (h0.ev x) e1⟩
    · cases e
  have hb2 : ∀ x, boundOf 0 ((some x : Option Operand).map (ev s)) = some l → ∃ k, a.eval x = .int k l := fun x e => by
    simp only [Option.map_some, boundOf] at e
    split at e
    · rename_i k i e1
      injection e with e
      subst e
      exact ⟨k, asInt_c (h0.ev x) e1⟩
    · cases e
  cases hi with
  | none =>
    simp only [Option.map_none, boundOf, Option.some.injEq] at hh
    subst hh
    cases lo with
    | none =>
      simp only [Option.map_none, boundOf, Option.some.injEq] at hl
      subst hl
      simp
    | some x =>
      obtain ⟨k, ex⟩ := hb2 x hl
      simp only [Option.map_some, Option.map_none, ex, Sem.run_bind, Sem.run_pure, Result.andThen_ok]
      rw [sliceBound_run k l n _ (by omega)]
      simp
  | some y =>
    obtain ⟨k, ey⟩ := hb1 y hh
    cases lo with
    | none =>
      simp only [Option.map_none, boundOf, Option.some.injEq] at hl
      subst hl
      simp only [Option.map_some, Option.map_none, ey, Sem.run_bind, Sem.run_pure, Result.andThen_ok]
      rw [sliceBound_run k h c _ (by omega)]
      simp
    | some x =>
      obtain ⟨k', ex⟩ := hb2 x hl
      simp only [Option.map_some, ex, ey, Sem.run_bind, Sem.run_pure, Result.andThen_ok]
      rw [sliceBound_run k h c _ (by omega)]
      simp only [Result.andThen_ok]
      rw [sliceBound_run k' l h.toNat _ (by omega)]
      simp

theorem bounds_run_str {lo hi : Option Operand} {n : Nat} {l h : Int} (h0 : Ok w0 ρ s a w) (hl : boundOf 0 (lo.map (ev s)) = some l) (hh : boundOf (n : Int) (hi.map (ev s)) = some h)
    (hb : (0 ≤ l ∧ l ≤ h) ∧ h ≤ (n : Int)) : (Instr.sliceBounds false n n (lo.map a.eval) (hi.map a.eval) none).run P w = .ok (l.toNat, h.toNat, n) w := by
  unfold Instr.sliceBounds
  have hb1 : ∀ x, boundOf (n : Int) ((some x : Option Operand).map (ev s)) = some h → ∃ k, a.eval x = .int k h := fun x e => by
    simp only [Option.map_some, boundOf] at e
    split at e
    · rename_i k i e1
      injection e with e
      subst e
      exact ⟨k, asInt_c (h0.ev x) e1⟩
    · cases e
  have hb2 : ∀ x, boundOf 0 ((some x : Option Operand).map (ev s)) = some l → ∃ k, a.eval x = .int k l := fun x e => by
    simp only [Option.map_some, boundOf] at e
    split at e
    · rename_i k i e1
      injection e with e
      subst e
      exact ⟨k, asInt_c (h0.ev x) e1⟩
    · cases e
  cases hi with
  | none =>
    simp only [Option.map_none, boundOf, Option.some.injEq] at hh
    subst hh
    cases lo with
    | none =>
      simp only [Option.map_none, boundOf, Option.some.injEq] at hl
      subst hl
      simp
    | some x =>
      obtain ⟨k, ex⟩ := hb2 x hl
      simp only [Option.map_some, Option.map_none, ex, Sem.run_bind, Sem.run_pure, Result.andThen_ok]
      rw [sliceBound_run k l n _ (by omega)]
      simp
  | some y =>
    obtain ⟨k, ey⟩ := hb1 y hh
    cases lo with
    | none =>
      simp only [Option.map_none, boundOf, Option.some.injEq] at hl
      subst hl
      simp only [Option.map_some, Option.map_none, ey, Sem.run_bind, Sem.run_pure, Result.andThen_ok]
      rw [sliceBound_run k h n _ (by omega)]
      simp
    | some x =>
      obtain ⟨k', ex⟩ := hb2 x hl
      simp only [Option.map_some, ex, ey, Sem.run_bind, Sem.run_pure, Result.andThen_ok]
      rw [sliceBound_run k h n _ (by omega)]
      simp only [Result.andThen_ok]
      rw [sliceBound_run k' l h.toNat _ (by omega)]
      simp

theorem sliceAt_run {t e : TypeId} {ei : TI} {A : Option Addr} {lo hi : Option Operand} {n c : Nat} {l h : Int} {x : Value} (h0 : Ok w0 ρ s a w) (hk : P.underlying t = some (.slice e)) (hT : TIok P e ei)
    (hx : x = .slice A n c) (hl : boundOf 0 (lo.map (ev s)) = some l) (hh : boundOf (n : Int) (hi.map (ev s)) = some h)
    (hb : (0 ≤ l ∧ l ≤ h) ∧ h ≤ (n : Int)) (hc : n ≤ c) :
    (Instr.sliceAt t x (lo.map a.eval) (hi.map a.eval) none).run P w = .ok (.slice (if c = l.toNat then A else A.map (·.add (l.toNat * ei.size))) (h.toNat - l.toNat) (c - l.toNat)) w := by
  subst hx
  unfold Instr.sliceAt
  simp only [Sem.run_bind, run_underlying hk, Result.andThen_ok]
  unfold Instr.slice
  simp only [Sem.run_bind, run_underlying hk, Result.andThen_ok, bounds_run h0 hl hh hb hc, hT.run_size, Sem.run_pure]

theorem sliceOf_c {ty : TypeId} {t : Ty} (hE : EnvOk P E) (h : sliceOf E ty t = true) : ∃ e ei, P.underlying ty = some (.slice e) ∧ TIok P e ei ∧ t.size = ei.size := by
  unfold sliceOf at h
  split at h
  · rename_i e'
    split at h
    · rename_i ei hei
      exact ⟨_, ei, (hE _ _ e').kind, hE _ _ hei, Nat.eq_of_beq_eq_true h⟩
    · cases h
  · cases h

theorem getElem?_window {α : Type} (xs : List α) (l h i : Nat) (x : α) (e : ((xs.take h).drop l)[i]? = some x) : xs[l + i]? = some x := by
  rw [List.getElem?_drop, List.getElem?_take] at e
  split at e
  · exact e
  · cases e

theorem slice_does {t : TypeId} {x : Operand} {lo hi : Option Operand} {k : Nat} {p : Option Prop} {R : Act → World → Prop} (hE : EnvOk P E) (h : Ok w0 ρ s a w) (ho : o.op = .slice t x lo hi none)
    (hs : sliceS E s k o.dst t (ev s x) (lo.map (ev s)) (hi.map (ev s)) = some (p, s')) (hp : vcP p) (hR : Up w0 s' R) : Does P o a w R := by
  have hexec : execOp a.eval o = (do pure (.value (← Instr.sliceAt t (a.eval x) (lo.map a.eval) (hi.map a.eval) none))) := by simp [execOp, ho]
  unfold sliceS at hs
  split at hs
  · rename_i xs hl
    obtain ⟨ex, bx⟩ := asStr_c (h.ev x) hl
    cases hT : isStrT E t with
    | false => rw [hT] at hs; cases hs
    | true =>
      rw [hT] at hs
      simp only [cond_true] at hs
      split at hs
      · rename_i l hh hl0 hh0
        simp only [Option.some.injEq, Prod.mk.injEq] at hs
        obtain ⟨rfl, rfl⟩ := hs
        have hp : (0 ≤ l ∧ l ≤ hh) ∧ hh ≤ (xs.length : Int) := hp
        have hbd := bounds_run_str (lo := lo) (hi := hi) (n := xs.length) (P := P) h hl0 hh0 hp
        refine does_value (sv := .one (.d .str ((xs.take hh.toNat).drop l.toNat))) (v := .string (mkStr ((xs.take hh.toNat).drop l.toNat))) h hexec ?_ (sv_str ⟨?_, ?_⟩) hR
        · rw [ex]
          unfold Instr.sliceAt
          simp only [Sem.run_bind, run_underlying (isStrT_c hE hT), Result.andThen_ok]
          unfold Instr.slice
          simp only [Sem.run_bind, run_underlying (isStrT_c hE hT), Result.andThen_ok, mkStr_size, hbd, Sem.run_pure]
          have : (mkStr xs).extract l.toNat hh.toNat = mkStr ((xs.take hh.toNat).drop l.toNat) := by
            apply Go.WideShapes.bytes_inj
            simp [mkStr, ByteArray.data_extract, List.extract_eq_take_drop, List.map_take, List.map_drop, List.drop_take]
          simp [hbd, this]
        · have := bx.1
          rw [List.length_drop, List.length_take]; omega
        · exact fun b hb => bx.2 b (List.mem_of_mem_take (List.mem_of_mem_drop hb))
      · cases hs
  rename_i hnl
  split at hs
  · rename_i u xs hd
    cases hso : sliceOf E t u with
    | false => rw [hso] at hs; cases hs
    | true =>
    rw [hso] at hs
    simp only [Bool.not_true, cond_false] at hs
    obtain ⟨e, ei, hk, hT, hz⟩ := sliceOf_c hE hso
    split at hs
    · rename_i l hh hl0 hh0
      split at hs
      · rename_i kk hxx
        cases hus : s.us k with
        | true => rw [hus] at hs; cases hs
        | false =>
          rw [hus] at hs
          simp only [cond_false, Option.some.injEq, Prod.mk.injEq] at hs
          obtain ⟨rfl, rfl⟩ := hs
          rw [hxx] at hd
          have hd' := hd
          simp only [slD] at hd'
          split at hd'
          · rename_i t' xs' hkk
            simp only [Option.some.injEq, Sigma.mk.injEq] at hd'
            obtain ⟨rfl, hd'⟩ := hd'
            have hd' := eq_of_heq hd'
            subst hd'
            have hx := h.ev x
            rw [hxx] at hx
            obtain ⟨hu, h1, _⟩ := SVc.one1 rfl (by simp) hx
            simp only [List.cons.injEq, and_true] at h1
            have hdrop := h.drop kk
            have hlen : ((xs'.take hh.toNat).drop l.toNat).length = hh.toNat - l.toNat := by
              rw [List.length_drop, List.length_take]; omega
            have huk : (s.drop kk).us k = false := hus
            rcases h.heap kk _ hkk with ⟨h2, rfl⟩ | ⟨b, q, cp, cur, e', h2, hheap, h3, h4, h5, h6⟩
            · have hl : l.toNat = 0 := by simp only [List.length_nil] at hp; omega
              have hh' : hh.toNat = 0 := by simp only [List.length_nil] at hp; omega
              have hrun := sliceAt_run (lo := lo) (hi := hi) h hk hT (A := none) (n := 0) (c := 0) (x := a.eval x) (by rw [h1]; exact h2) hl0 (by simpa using hh0) (by simpa using hp) (Nat.le_refl _)
              rw [hl, hh'] at hrun
              simp only [if_true, Nat.sub_self] at hrun
              have hok := hdrop.new (k := k) (he := .row t' (([].take hh.toNat).drop l.toNat)) (v := .slice none 0 0) huk (More.refl w) (fun b e => by cases e)
                (.inl ⟨rset_same _ _ _, by simp⟩)
              have e3 : rset ρ k (.slice none 0 0) k = .slice none 0 0 := rset_same _ _ _
              exact .inl ⟨.slice none 0 0, w, by rw [hexec]; simp only [Sem.run_bind, hrun, Result.andThen_ok, Sem.run_pure],
                hR _ _ _ (hok.put o.dst (SVc.of1 (p := .row k) rfl ⟨uset_same _ _, by show [_] = [rset ρ k _ k]; rw [e3], by show (rset ρ k _ k).oneCell' = true; rw [e3]; rfl⟩))⟩
            · have hrun := sliceAt_run (lo := lo) (hi := hi) h hk hT (A := some ⟨b, q, none⟩) (n := xs'.length) (c := cp) (x := a.eval x) (by rw [h1]; exact h2) hl0 hh0 hp h3
              have hle : l.toNat ≤ cp := by omega
              have hmul : (cp - l.toNat) * t'.size + l.toNat * t'.size = cp * t'.size := by rw [← Nat.add_mul]; congr 1; omega
              -- where it lies
              obtain ⟨q', hq', hqv⟩ : ∃ q', (if cp = l.toNat then some (⟨b, q, none⟩ : Addr) else (some ⟨b, q, none⟩ : Option Addr).map (·.add (l.toNat * ei.size))) = some ⟨b, q', none⟩ ∧
                  q' + (cp - l.toNat) * t'.size ≤ cur.size ∧ (l.toNat < cp → q' = q + l.toNat * t'.size) := by
                by_cases e4 : cp = l.toNat
                · exact ⟨q, by rw [if_pos e4], by rw [e4, Nat.sub_self, Nat.zero_mul]; have : q ≤ q + cp * t'.size := Nat.le_add_right _ _; omega, fun hlt => by omega⟩
                · exact ⟨q + l.toNat * t'.size, by rw [if_neg e4, hz]; simp [Addr.add_lit], by omega, fun _ => rfl⟩
              rw [hq'] at hrun
              have hbk : blkOf (ρ kk) = some b := by rw [show ρ kk = _ from h2]; rfl
              have hok := Ok.renew h hkk rfl rfl hbk (k' := k) (he := .row t' ((xs'.take hh.toNat).drop l.toNat)) (v := .slice (some ⟨b, q', none⟩) (hh.toNat - l.toNat) (cp - l.toNat)) hus rfl
                (BelowS.refl _ _) (fun _ _ _ => rfl) (fun c' hc' hw' e3 => .inr ⟨b, q', cp - l.toNat, cur, e', by rw [e3, hlen], by rw [hw']; exact hheap, by rw [hlen]; omega, by omega, hqv.1, fun i x hx => by
                  have hx2 := getElem?_window _ _ _ _ _ hx
                  have hi3 : l.toNat + i < xs'.length := (List.getElem?_eq_some_iff.1 hx2).1
                  rw [hqv.2 (by omega), Nat.add_assoc, ← Nat.add_mul]
                  exact Rd.mono hc'.keep (h6 _ _ hx2)⟩)
              have e3 : rset ρ k (.slice (some ⟨b, q', none⟩) (hh.toNat - l.toNat) (cp - l.toNat)) k = .slice (some ⟨b, q', none⟩) (hh.toNat - l.toNat) (cp - l.toNat) := rset_same _ _ _
              exact .inl ⟨.slice (some ⟨b, q', none⟩) (hh.toNat - l.toNat) (cp - l.toNat), w, by rw [hexec]; simp only [Sem.run_bind, hrun, Result.andThen_ok, Sem.run_pure],
                hR _ _ _ (hok.put o.dst (SVc.of1 (p := .row k) rfl ⟨uset_same _ _, by show [_] = [rset ρ k _ k]; rw [e3], by show (rset ρ k _ k).oneCell' = true; rw [e3]; rfl⟩))⟩
          · cases hd'
      · rename_i t1 z1 hnr
        simp only [Option.some.injEq, Prod.mk.injEq] at hs
        obtain ⟨rfl, rfl⟩ := hs
        -- data
        have hx := h.ev x
        have hxx : ev s x = .one (.d (.sl u) xs) := by
          rw [hnr] at hd ⊢
          cases t1 with
          | sl u1 =>
            simp only [slD, Option.some.injEq, Sigma.mk.injEq] at hd
            obtain ⟨rfl, hd⟩ := hd
            have hd := eq_of_heq hd
            subst hd
            rfl
          | _ => cases hd
        rw [hxx] at hx
        obtain ⟨A, c, h1, h2, h3, h4⟩ := SVc.one1 rfl (by simp) hx
        simp only [List.cons.injEq, and_true] at h1
        have hrun := sliceAt_run (lo := lo) (hi := hi) h hk hT h1 hl0 hh0 hp h2
        have hlen : ((xs.take hh.toNat).drop l.toNat).length = hh.toNat - l.toNat := by
          rw [List.length_drop, List.length_take]; omega
        refine does_value h hexec hrun (SVc.of1 (p := .d (.sl u) ((xs.take hh.toNat).drop l.toNat)) rfl ⟨_, c - l.toNat, by rw [hlen], by rw [hlen]; omega, by omega, fun hpos => ?_⟩) hR
        rw [hlen] at hpos
        obtain ⟨b, q, rfl, hS, hr⟩ := h4 (by omega)
        refine ⟨b, q + l.toNat * u.size, by rw [if_neg (by omega)]; simp [Addr.add_lit, hz], hS, fun i x hx => ?_⟩
        obtain ⟨ll, hl1, hl2⟩ := hr (l.toNat + i) x (getElem?_window _ _ _ _ _ hx)
        refine ⟨ll, fun j v hv => ?_, hl2⟩
        have := hl1 j v hv
        rw [Nat.add_mul] at this
        rw [show q + l.toNat * u.size + (i * u.size + j) = q + (l.toNat * u.size + i * u.size + j) by omega]
        exact this
      · cases hs
    · cases hs
  · cases hs
/-- A slicing that is a view. -/
theorem sub_does {t : TypeId} {x : Operand} {lo hi : Option Operand} {k : Nat} {p : Option Prop} {R : Act → World → Prop} (hE : EnvOk P E) (h : Ok w0 ρ s a w) (ho : o.op = .slice t x lo hi none)
    (hs : subS E s k o.dst t (ev s x) (lo.map (ev s)) (hi.map (ev s)) = some (p, s')) (hp : vcP p) (hR : Up w0 s' R) : Does P o a w R := by
  have hexec : execOp a.eval o = (do pure (.value (← Instr.sliceAt t (a.eval x) (lo.map a.eval) (hi.map a.eval) none))) := by simp [execOp, ho]
  unfold subS at hs
  split at hs
  · rename_i kk hxx
    split at hs
    · rename_i t' xs' hkk
      cases hg : (!(sliceOf E t t') || s.us k) with
      | true => rw [hg] at hs; cases hs
      | false =>
        rw [hg] at hs
        simp only [cond_false] at hs
        simp only [Bool.or_eq_false_iff, Bool.not_eq_false'] at hg
        obtain ⟨e, ei, hk, hT, hz⟩ := sliceOf_c hE hg.1
        split at hs
        · rename_i l hh hl0 hh0
          simp only [Option.some.injEq, Prod.mk.injEq] at hs
          obtain ⟨rfl, rfl⟩ := hs
          have hp : (0 ≤ l ∧ l ≤ hh) ∧ hh ≤ (xs'.length : Int) := hp
          have hx := h.ev x
          rw [hxx] at hx
          obtain ⟨hu, h1, _⟩ := SVc.one1 rfl (by simp) hx
          simp only [List.cons.injEq, and_true] at h1
          have key : ∃ A n cp, ρ kk = .slice A n cp ∧ n = xs'.length ∧ n ≤ cp ∧ (n = 0 ∨ ∃ bl o, A = some ⟨bl, o, none⟩) := by
            rcases h.heap kk _ hkk with ⟨h2, rfl⟩ | ⟨b, q, cp, cur, e', h2, hheap, h3, h4, h5, h6⟩
            · exact ⟨none, 0, 0, h2, rfl, Nat.le_refl _, .inl rfl⟩
            · exact ⟨_, _, _, h2, rfl, h3, .inr ⟨b, q, rfl⟩⟩
          obtain ⟨A, n, cp, h2, hn, hnc, hA⟩ := key
          have hrun := sliceAt_run (lo := lo) (hi := hi) h hk hT (A := A) (n := n) (c := cp) (x := a.eval x) (by rw [h1]; exact h2) hl0 (by rw [hn]; exact hh0) (by rw [hn]; exact hp) hnc
          have hne : kk ≠ k := fun e => by have hu : s.us kk = true := hu; rw [e, hg.2] at hu; cases hu
          generalize hv : Value.slice (if cp = l.toNat then A else A.map (·.add (l.toNat * ei.size))) (hh.toNat - l.toNat) (cp - l.toNat) = v at hrun
          have e3 : rset ρ k v k = v := rset_same _ _ _
          have e4 : rset ρ k v kk = .slice A n cp := by rw [rset_other _ _ hne]; exact h2
          exact .inl ⟨v, w, by rw [hexec]; simp only [Sem.run_bind, hrun, Result.andThen_ok, Sem.run_pure], hR _ _ _ ((h.use (k := k) (v := v) hg.2).put o.dst (SVc.of1 (p := .sub kk k t'.size l.toNat hh.toNat) rfl
            ⟨uset_of hu, uset_same _ _, by show [v] = [rset ρ k v k]; rw [e3], A, n, cp, e4, ⟨hA, hnc⟩, ⟨by omega, by omega⟩, by show rset ρ k v k = _; rw [e3, ← hv, hz]⟩))⟩
        · cases hs
    · cases hs
  · cases hs
/-- A slice of an array in a box of our own. -/
theorem bsl_does {t : TypeId} {x : Operand} {lo hi : Option Operand} {p : Option Prop} {R : Act → World → Prop} (hE : EnvOk P E) (h : Ok w0 ρ s a w) (ho : o.op = .slice t x lo hi none)
    (hs : bslS E s o.dst t (ev s x) (lo.map (ev s)) (hi.map (ev s)) = some (p, s')) (hR : Up w0 s' R) : Does P o a w R := by
  have hexec : execOp a.eval o = (do pure (.value (← Instr.sliceAt t (a.eval x) (lo.map a.eval) (hi.map a.eval) none))) := by simp [execOp, ho]
  unfold bslS at hs
  split at hs
  · rename_i sz by_ n e z ty kk off hti hxx hlo hhi
    split at hs
    · rename_i ei hei
      simp only [ok, Option.some.injEq, Prod.mk.injEq] at hs
      obtain ⟨rfl, rfl⟩ := hs
      have hlo' : lo = none := by cases lo with | none => rfl | some _ => cases hlo
      have hhi' : hi = none := by cases hi with | none => rfl | some _ => cases hhi
      subst hlo'; subst hhi'
      have hx := h.ev x
      rw [hxx] at hx
      obtain ⟨hu, b, hb, hl⟩ := SVc.one1 rfl (by simp) hx
      simp only [List.cons.injEq, and_true] at hl
      have hk := (hE t _ hti).kind
      refine does_value (v := .slice (some ⟨b, off, none⟩) n n) h hexec ?_ (SVc.of1 (p := .bsl kk off n ei.size) rfl ⟨hu, b, hb, rfl⟩) hR
      rw [hl]
      unfold Instr.sliceAt
      simp only [Sem.run_bind, run_underlying hk, Result.andThen_ok, Instr.sureAddr, Sem.run_pure, Instr.sliceBounds, Option.map_none, (hE e ei hei).run_size, Nat.zero_mul, Addr.add_lit, Nat.add_zero, Nat.sub_zero, ite_self]
    · cases hs
  · cases hs
theorem bounds3_run {lo : Option Operand} {hi mx : Operand} {n c : Nat} {l h m : Int} {kh km : IntKind} (h0 : Ok w0 ρ s a w) (hl : boundOf 0 (lo.map (ev s)) = some l) (hh : a.eval hi = .int kh h) (hm : a.eval mx = .int km m)
    (hb : ((0 ≤ l ∧ l ≤ h) ∧ h ≤ m) ∧ m ≤ (n : Int)) (hc : n ≤ c) : (Instr.sliceBounds true n c (lo.map a.eval) (some (a.eval hi)) (some (a.eval mx))).run P w = .ok (l.toNat, h.toNat, m.toNat) w := by
  unfold Instr.sliceBounds
  simp only [hm, hh, Sem.run_bind]
  rw [sliceBound_run km m c _ (by omega)]
  simp only [Result.andThen_ok]
  rw [sliceBound_run kh h m.toNat _ (by omega)]
  simp only [Result.andThen_ok]
  cases lo with
  | none =>
    simp only [Option.map_none, boundOf, Option.some.injEq] at hl
    subst hl
    simp
  | some x =>
    simp only [Option.map_some, boundOf] at hl
    split at hl
    · rename_i k i e1
      injection hl with hl
      subst hl
      have ex := asInt_c (h0.ev x) e1
      simp only [Option.map_some, ex, Sem.run_bind]
      rw [sliceBound_run k i h.toNat _ (by omega)]
      simp
    · cases hl
theorem slice3_does {t : TypeId} {x : Operand} {lo hi : Option Operand} {mx : Operand} {p : Option Prop} {R : Act → World → Prop} (hE : EnvOk P E) (h : Ok w0 ρ s a w) (ho : o.op = .slice t x lo hi (some mx))
    (hs : slice3S E s o.dst t (ev s x) (lo.map (ev s)) (hi.map (ev s)) (ev s mx) = some (p, s')) (hp : vcP p) (hR : Up w0 s' R) : Does P o a w R := by
  have hexec : execOp a.eval o = (do pure (.value (← Instr.sliceAt t (a.eval x) (lo.map a.eval) (hi.map a.eval) (some (a.eval mx))))) := by simp [execOp, ho]
  unfold slice3S at hs
  split at hs
  · rename_i u xs hxx
    cases hso : sliceOf E t u with
    | false => rw [hso] at hs; cases hs
    | true =>
    rw [hso] at hs
    simp only [Bool.not_true, cond_false] at hs
    obtain ⟨e, ei, hk, hT, hz⟩ := sliceOf_c hE hso
    split at hs
    · rename_i l kh hh km m hl0 hh0 hm0
      cases hi with
      | none => cases hh0
      | some hi =>
      simp only [Option.map_some] at hh0
      simp only [Option.some.injEq, Prod.mk.injEq] at hs
      obtain ⟨rfl, rfl⟩ := hs
      have hp : ((0 ≤ l ∧ l ≤ hh) ∧ hh ≤ m) ∧ m ≤ (xs.length : Int) := hp
      have ehi := asInt_c (h.ev hi) hh0
      have emx := asInt_c (h.ev mx) hm0
      have hx := h.ev x
      rw [hxx] at hx
      obtain ⟨A, c, h1, h2, h3, h4⟩ := SVc.one1 rfl (by simp) hx
      simp only [List.cons.injEq, and_true] at h1
      have hbd := bounds3_run (P := P) (lo := lo) (hi := hi) (mx := mx) (n := xs.length) (c := c) h hl0 ehi emx hp h2
      have hrun : (Instr.sliceAt t (a.eval x) (lo.map a.eval) ((some hi).map a.eval) (some (a.eval mx))).run P w = .ok (.slice (if m.toNat = l.toNat then A else A.map (·.add (l.toNat * ei.size))) (hh.toNat - l.toNat) (m.toNat - l.toNat)) w := by
        rw [h1]
        unfold Instr.sliceAt
        simp only [Sem.run_bind, run_underlying hk, Result.andThen_ok, Option.map_some]
        unfold Instr.slice
        simp only [Sem.run_bind, run_underlying hk, Result.andThen_ok, hbd, hT.run_size, Sem.run_pure]
      have hlen : ((xs.take hh.toNat).drop l.toNat).length = hh.toNat - l.toNat := by
        rw [List.length_drop, List.length_take]; omega
      refine does_value h hexec hrun (SVc.of1 (p := .d (.sl u) ((xs.take hh.toNat).drop l.toNat)) rfl ⟨_, m.toNat - l.toNat, by rw [hlen], by rw [hlen]; omega, by omega, fun hpos => ?_⟩) hR
      rw [hlen] at hpos
      obtain ⟨b, q, rfl, hS, hr⟩ := h4 (by omega)
      refine ⟨b, q + l.toNat * u.size, by rw [if_neg (by omega)]; simp [Addr.add_lit, hz], hS, fun i x hx => ?_⟩
      obtain ⟨ll, hl1, hl2⟩ := hr (l.toNat + i) x (getElem?_window _ _ _ _ _ hx)
      refine ⟨ll, fun j v hv => ?_, hl2⟩
      have := hl1 j v hv
      rw [Nat.add_mul] at this
      rw [show q + l.toNat * u.size + (i * u.size + j) = q + (l.toNat * u.size + i * u.size + j) by omega]
      exact this
    · cases hs
  · cases hs
end
end Go.Sx
