/-
  Sx, part F: each operation does what the executor says: moves, numbers, truth values, addresses.
-/
import Derived.Test.YtpnmfoojmodnlaaSxE
import Derived.OpenShut
namespace Go.Sx
open Go.RowKit

section
variable {P : Program} {E : Env} {w0 : Base} {w : World} {ρ : Nat → Value} {s s' : St} {a : Act} {o : Oper}

/-- R holds of every frame and world that are as the state says. -/
def Up (w0 : Base) (s : St) (R : Act → World → Prop) : Prop := ∀ ρ a w, Ok w0 ρ s a w → R a w

theorem does_value {m : Sem Value} {v : Value} {sv : SV} {R : Act → World → Prop} (h : Ok w0 ρ s a w) (he : execOp a.eval o = (do pure (.value (← m))))
    (hm : m.run P w = .ok v w) (hv : SVc (cx w0 ρ s w) sv v) (hR : Up w0 (s.put o.dst sv) R) : Does P o a w R :=
  Does.value he hm (hR ρ _ _ (h.put o.dst hv))

theorem sv_int {c : Cx} {k : IntKind} {n : Int} (h : IR k n) : SVc c (.one (.d (.int k) n)) (.int k n) := SVc.of1 rfl (show Rd _ _ _ _ _ from ⟨rfl, h⟩)
theorem sv_bool {c : Cx} (b : Bool) : SVc c (.one (.d .bool b)) (.bool b) := SVc.of1 rfl (show Rd _ _ _ _ _ from rfl)
theorem sv_lit {c : Cx} (b : Bool) : SVc c (.one (.lit b)) (.bool b) := SVc.of1 rfl (show PVc c (.lit b) _ from rfl)

theorem move_does {x : Operand} {R : Act → World → Prop} (h : Ok w0 ρ s a w) (ho : o.op = .move x ∨ o.op = .assign x) (hR : Up w0 (s.put o.dst (ev s x)) R) : Does P o a w R := by
  refine .inl ⟨a.eval x, w, ?_, hR ρ _ _ (h.put o.dst (h.ev x))⟩
  rcases ho with ho | ho <;> simp [execOp, ho]

theorem run_eqGuard_int (op : BinOp) (t : TypeId) (x y : Operand) (k j : IntKind) (m n : Int) :
    (eqGuard op t x y (.int k m) (.int j n)).run P w = .ok () w := by
  unfold eqGuard; cases op <;> rfl
theorem run_eqGuard_bool (op : BinOp) (t : TypeId) (x y : Operand) (m n : Bool) :
    (eqGuard op t x y (.bool m) (.bool n)).run P w = .ok () w := by
  unfold eqGuard; cases op <;> rfl

theorem exec_bin {op : BinOp} {t t' : TypeId} {x y : Operand} (ho : o.op = .binOp op t x y t') :
    execOp a.eval o = (do pure (.value (← (do eqGuard op t x y (a.eval x) (a.eval y); binOp op t (a.eval x) (a.eval y))))) := by
  simp [execOp, ho]

theorem cmp_run {op : BinOp} {k : IntKind} {t : TypeId} {m n : Int} {b : Bool} (h : cmpB op m n = some b) :
    (binOp op t (.int k m) (.int k n)).run P w = .ok (.bool b) w := by
  cases op <;> simp only [cmpB, Option.some.injEq, reduceCtorEq] at h <;> subst h <;> simp [binOp, Op.intCmp]

theorem IR_quo {k : IntKind} {m n : Int} (hm : IR k m) (h0 : 0 ≤ m) (h1 : 0 < n) : IR k (m / n) := by
  have a1 : 0 ≤ m / n := Int.ediv_nonneg h0 (by omega)
  have a2 : m / n ≤ m := Int.ediv_le_self n h0
  cases k <;> simp only [IR] at hm ⊢ <;> omega
theorem IR_rem {k : IntKind} {m n : Int} (hn : IR k n) (h1 : 0 < n) : IR k (m % n) := by
  have a1 : 0 ≤ m % n := Int.emod_nonneg m (by omega)
  have a2 : m % n < n := Int.emod_lt_of_pos m h1
  cases k <;> simp only [IR] at hn ⊢ <;> omega
theorem IR_wf {k : IntKind} {n : Int} (h : (Lit.int k n).wf = true) : IR k n := by
  simp only [Lit.wf, Bool.and_eq_true, decide_eq_true_eq] at h
  cases k <;> simp only [IntKind.min, IntKind.max, IntKind.bits, IntKind.signed] at h <;> simp at h <;> simp only [IR] <;> omega
theorem IR_bits (op : BinOp) (k : IntKind) (x y : Int) : IR k (bits op k x y) := IR_wf (wf_bits op k x y)
/-- What arithmetic gives fits. -/
theorem arith_in {wr : Bool} {op : BinOp} {k : IntKind} {m n r : Int} {p : Option Prop} (hm : IR k m) (hn : IR k n) (h : arith wr op k m n = some (p, r)) (hp : vcP p) : IR k r := by
  cases op <;> simp only [arith, Option.some.injEq, reduceCtorEq] at h
  case quo => simp only [Prod.mk.injEq] at h; obtain ⟨rfl, rfl⟩ := h; exact IR_quo hm hp.1 hp.2
  case rem => simp only [Prod.mk.injEq] at h; obtain ⟨rfl, rfl⟩ := h; exact IR_rem hn hp.2
  case and => simp only [Prod.mk.injEq] at h; obtain ⟨rfl, rfl⟩ := h; exact IR_bits ..
  case or => simp only [Prod.mk.injEq] at h; obtain ⟨rfl, rfl⟩ := h; exact IR_bits ..
  case xor => simp only [Prod.mk.injEq] at h; obtain ⟨rfl, rfl⟩ := h; exact IR_bits ..
  case andNot => simp only [Prod.mk.injEq] at h; obtain ⟨rfl, rfl⟩ := h; exact IR_bits ..
  all_goals
    cases wr <;> simp only [cond_true, cond_false, Prod.mk.injEq] at h <;> obtain ⟨rfl, rfl⟩ := h
    · exact hp
    · exact IR_wrap ..
theorem arith_run {wr : Bool} {op : BinOp} {k : IntKind} {t : TypeId} {m n r : Int} {p : Option Prop} (hm : IR k m) (h : arith wr op k m n = some (p, r)) (hp : vcP p) :
    (binOp op t (.int k m) (.int k n)).run P w = .ok (.int k r) w := by
  cases op <;> simp only [arith, Option.some.injEq, reduceCtorEq] at h
  case add =>
    cases wr <;> simp only [cond_true, cond_false, Prod.mk.injEq] at h <;> obtain ⟨rfl, rfl⟩ := h
    · have hp : IR k _ := hp
      simp [binOp, Op.intArith, wrap_in hp]
    · simp [binOp, Op.intArith]
  case sub =>
    cases wr <;> simp only [cond_true, cond_false, Prod.mk.injEq] at h <;> obtain ⟨rfl, rfl⟩ := h
    · have hp : IR k _ := hp
      simp [binOp, Op.intArith, wrap_in hp]
    · simp [binOp, Op.intArith]
  case mul =>
    cases wr <;> simp only [cond_true, cond_false, Prod.mk.injEq] at h <;> obtain ⟨rfl, rfl⟩ := h
    · have hp : IR k _ := hp
      simp [binOp, Op.intArith, wrap_in hp]
    · simp [binOp, Op.intArith]
  case quo =>
    simp only [Prod.mk.injEq] at h
    obtain ⟨rfl, rfl⟩ := h
    obtain ⟨h0, h1⟩ := hp
    have hne : n ≠ 0 := by omega
    simp [binOp, Op.intDiv, hne, Int.tdiv_eq_ediv_of_nonneg h0, wrap_in (IR_quo hm h0 h1)]
  case rem =>
    simp only [Prod.mk.injEq] at h
    obtain ⟨rfl, rfl⟩ := h
    obtain ⟨h0, h1⟩ := hp
    have hne : n ≠ 0 := by omega
    simp [binOp, Op.intDiv, hne, Int.tmod_eq_emod_of_nonneg h0]
  case and => simp only [Prod.mk.injEq] at h; obtain ⟨rfl, rfl⟩ := h; simp [binOp, Op.intBits, bits]
  case or => simp only [Prod.mk.injEq] at h; obtain ⟨rfl, rfl⟩ := h; simp [binOp, Op.intBits, bits]
  case xor => simp only [Prod.mk.injEq] at h; obtain ⟨rfl, rfl⟩ := h; simp [binOp, Op.intBits, bits]
  case andNot => simp only [Prod.mk.injEq] at h; obtain ⟨rfl, rfl⟩ := h; simp [binOp, Op.intBits, bits]

theorem isBoolT_ok {t : TypeId} (hE : EnvOk P E) (h : isBoolT E t = true) : P.underlying t = some .bool := by
  unfold isBoolT at h
  split at h
  · rename_i e
    exact (hE _ _ e).kind.1
  · cases h

theorem equalIn_bool {t : TypeId} (hu : P.underlying t = some .bool) (d : Nat) (b c : Bool) : (Op.equalIn (d + 1) t (.bool b) (.bool c)).run P w = .ok (b == c) w := by
  simp [Op.equalIn, run_underlying hu]
theorem equal_bool {t : TypeId} (hu : P.underlying t = some .bool) (b c : Bool) : (Op.equal t (.bool b) (.bool c)).run P w = .ok (b == c) w := equalIn_bool hu 9999 b c
theorem boolOp_run {op : BinOp} {t : TypeId} {b c r : Bool} (hu : P.underlying t = some .bool) (h : boolOp op b c = some r) :
    (binOp op t (.bool b) (.bool c)).run P w = .ok (.bool r) w := by
  cases op <;> simp only [boolOp, Option.some.injEq, reduceCtorEq] at h <;> subst h <;> simp only [binOp] <;>
    simp only [Sem.run_bind, equal_bool hu, Result.andThen_ok, Sem.run_pure]
  rfl

end
end Go.Sx
