/-
  Sx, part F: each operation does what the executor says: moves, numbers, truth values, addresses.
-/
import Derived.Test.YtollphjlheabdaaSxE
namespace Go.Sx
open Go.RowKit

section
variable {P : Program} {E : Env} {w0 : Base} {w : World} {ρ : Nat → Value} {s s' : St} {a : Act} {o : Oper}

/-- R holds of every frame and world that are as the state says. -/
def Up (w0 : Base) (s : St) (R : Act → World → Prop) : Prop := ∀ ρ a w, Ok w0 ρ s a w → R a w

theorem does_value {m : Sem Value} {v : Value} {sv : SV} {R : Act → World → Prop} (h : Ok w0 ρ s a w) (he : execOp a.eval o = (do pure (.value (← m))))
    (hm : m.run P w = .ok v w) (hv : SVc (cx w0 ρ s w) sv v) (hR : Up w0 (s.put o.dst sv) R) : Does P o a w R :=
  Does.value he hm (hR ρ _ _ (h.put o.dst hv))

theorem sv_int {c : Cx} (k : IntKind) (n : Int) : SVc c (.one (.d (.int k) n)) (.int k n) := SVc.of1 rfl (show Rd _ _ _ _ _ from rfl)
theorem sv_bool {c : Cx} (b : Bool) : SVc c (.one (.d .bool b)) (.bool b) := SVc.of1 rfl (show Rd _ _ _ _ _ from rfl)
theorem sv_lit {c : Cx} (b : Bool) : SVc c (.one (.lit b)) (.bool b) := SVc.of1 rfl (show PVc c (.lit b) _ from rfl)

theorem move_does {x : Operand} {R : Act → World → Prop} (h : Ok w0 ρ s a w) (ho : o.op = .move x ∨ o.op = .assign x) (hR : Up w0 (s.put o.dst (ev s x)) R) : Does P o a w R := by
  refine .inl ⟨a.eval x, w, ?_, hR ρ _ _ (h.put o.dst (h.ev x))⟩
  rcases ho with ho | ho <;> simp [execOp, ho]

theorem run_eqGuard_int (op : BinOp) (t : TypeId) (x y : Operand) (k j : IntKind) (m n : Int) :
    (eqGuard op t x y (.int k m) (.int j n)).run P w = .ok () w := by
  unfold eqGuard; cases op <;> rfl
theorem run_eqGuard_bool (op : BinOp) (t : TypeId) (x y : Operand) (m n : Bool) :
    (eqGuard op t x y (.bool m) (.bool n)).run P w = .ok () w := by
  unfold eqGuard; cases op <;> rfl

theorem exec_bin {op : BinOp} {t t' : TypeId} {x y : Operand} (ho : o.op = .binOp op t x y t') :
    execOp a.eval o = (do pure (.value (← (do eqGuard op t x y (a.eval x) (a.eval y); binOp op t (a.eval x) (a.eval y))))) := by
  simp [execOp, ho]

theorem cmp_run {op : BinOp} {k : IntKind} {t : TypeId} {m n : Int} {b : Bool} (h : cmpB op m n = some b) :
    (binOp op t (.int k m) (.int k n)).run P w = .ok (.bool b) w := by
  cases op <;> simp only [cmpB, Option.some.injEq, reduceCtorEq] at h <;> subst h <;> simp [binOp, Op.intCmp]

theorem arith_run {wr : Bool} {op : BinOp} {k : IntKind} {t : TypeId} {m n r : Int} {p : Option Prop} (h : arith wr op k m n = some (p, r)) (hp : vcP p) :
    (binOp op t (.int k m) (.int k n)).run P w = .ok (.int k r) w := by
  cases op <;> simp only [arith, Option.some.injEq, reduceCtorEq] at h
  case add =>
    cases wr <;> simp only [cond_true, cond_false, Prod.mk.injEq] at h <;> obtain ⟨rfl, rfl⟩ := h
    · have hp : IR k _ := hp
      simp [binOp, Op.intArith, wrap_in hp]
    · simp [binOp, Op.intArith]
  case sub =>
    cases wr <;> simp only [cond_true, cond_false, Prod.mk.injEq] at h <;> obtain ⟨rfl, rfl⟩ := h
    · have hp : IR k _ := hp
      simp [binOp, Op.intArith, wrap_in hp]
    · simp [binOp, Op.intArith]
  case mul =>
    cases wr <;> simp only [cond_true, cond_false, Prod.mk.injEq] at h <;> obtain ⟨rfl, rfl⟩ := h
    · have hp : IR k _ := hp
      simp [binOp, Op.intArith, wrap_in hp]
    · simp [binOp, Op.intArith]
  case quo =>
    simp only [Prod.mk.injEq] at h
    obtain ⟨rfl, rfl⟩ := h
    obtain ⟨⟨h0, h1⟩, h2⟩ := hp
    have hne : n ≠ 0 := by omega
    simp [binOp, Op.intDiv, hne, Int.tdiv_eq_ediv_of_nonneg h0, wrap_in h2]
  case rem =>
    simp only [Prod.mk.injEq] at h
    obtain ⟨rfl, rfl⟩ := h
    obtain ⟨⟨h0, h1⟩, h2⟩ := hp
    have hne : n ≠ 0 := by omega
    simp [binOp, Op.intDiv, hne, Int.tmod_eq_emod_of_nonneg h0]
  case and => simp only [Prod.mk.injEq] at h; obtain ⟨rfl, rfl⟩ := h; simp [binOp, Op.intBits, bits]
  case or => simp only [Prod.mk.injEq] at h; obtain ⟨rfl, rfl⟩ := h; simp [binOp, Op.intBits, bits]
  case xor => simp only [Prod.mk.injEq] at h; obtain ⟨rfl, rfl⟩ := h; simp [binOp, Op.intBits, bits]
  case andNot => simp only [Prod.mk.injEq] at h; obtain ⟨rfl, rfl⟩ := h; simp [binOp, Op.intBits, bits]

theorem isBoolT_ok {t : TypeId} (hE : EnvOk P E) (h : isBoolT E t = true) : P.underlying t = some .bool := by
  unfold isBoolT at h
  split at h
  · rename_i e
    exact (hE _ _ e).kind.1
  · cases h

theorem equalIn_bool {t : TypeId} (hu : P.underlying t = some .bool) (d : Nat) (b c : Bool) : (Op.equalIn (d + 1) t (.bool b) (.bool c)).run P w = .ok (b == c) w := by
  simp [Op.equalIn, run_underlying hu]
theorem equal_bool {t : TypeId} (hu : P.underlying t = some .bool) (b c : Bool) : (Op.equal t (.bool b) (.bool c)).run P w = .ok (b == c) w := equalIn_bool hu 9999 b c
theorem boolOp_run {op : BinOp} {t : TypeId} {b c r : Bool} (hu : P.underlying t = some .bool) (h : boolOp op b c = some r) :
    (binOp op t (.bool b) (.bool c)).run P w = .ok (.bool r) w := by
  cases op <;> simp only [boolOp, Option.some.injEq, reduceCtorEq] at h <;> subst h <;> simp only [binOp] <;>
    simp only [Sem.run_bind, equal_bool hu, Result.andThen_ok, Sem.run_pure]
  rfl

theorem bin_does {op : BinOp} {t t' : TypeId} {x y : Operand} {wr : Bool} {p : Option Prop} {R : Act → World → Prop} (hE : EnvOk P E) (h : Ok w0 ρ s a w) (ho : o.op = .binOp op t x y t')
    (hs : binS E wr s o.dst op t (ev s x) (ev s y) = some (p, s')) (hp : vcP p) (hR : Up w0 s' R) : Does P o a w R := by
  unfold binS at hs
  split at hs
  · rename_i k m k' n hx hy
    have ex := asInt_c (h.ev x) hx
    have ey := asInt_c (h.ev y) hy
    split at hs
    · rename_i hk
      subst hk
      split at hs
      · rename_i r hr
        simp only [ok, Option.some.injEq, Prod.mk.injEq] at hs
        obtain ⟨_, rfl⟩ := hs
        refine does_value h (exec_bin ho) ?_ (sv_bool r) hR
        rw [ex, ey]
        simp only [Sem.run_bind, run_eqGuard_int, Result.andThen_ok, cmp_run hr]
      · split at hs
        · rename_i q r hr
          simp only [Option.some.injEq, Prod.mk.injEq] at hs
          obtain ⟨rfl, rfl⟩ := hs
          refine does_value h (exec_bin ho) ?_ (sv_int k r) hR
          rw [ex, ey]
          simp only [Sem.run_bind, run_eqGuard_int, Result.andThen_ok, arith_run hr hp]
        · cases hs
    · cases hs
  · split at hs
    · rename_i b c hx hy
      have ex := asBool_c (h.ev x) hx
      have ey := asBool_c (h.ev y) hy
      cases hb : isBoolT E t with
      | false => rw [hb] at hs; cases hs
      | true =>
        rw [hb] at hs
        simp only [Bool.not_true, cond_false] at hs
        split at hs
        · rename_i r hr
          simp only [ok, Option.some.injEq, Prod.mk.injEq] at hs
          obtain ⟨_, rfl⟩ := hs
          refine does_value h (exec_bin ho) ?_ (sv_bool r) hR
          have hu := isBoolT_ok hE hb
          rw [ex, ey]
          simp only [Sem.run_bind, run_eqGuard_bool, Result.andThen_ok, boolOp_run hu hr]
        · cases hs
    · cases hs
end
end Go.Sx
