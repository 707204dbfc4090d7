/-
  Sx, part GA: operators: shifts, strings, aggregates compared.
-/
import Derived.Test.YtpnmfoojmodnlaaSxG
namespace Go.Sx
open Go.RowKit

section
variable {P : Program} {E : Env} {w0 : Base} {w : World} {ρ : Nat → Value} {s s' : St} {a : Act} {o : Oper}

theorem shift_run {op : BinOp} {k k' : IntKind} {t : TypeId} {m n r : Int} {p : Option Prop} (h : shiftV op k m n = some (p, r)) (hp : vcP p) :
    (binOp op t (.int k m) (.int k' n)).run P w = .ok (.int k r) w := by
  have hpos : ∀ j : Nat, (0 : Int) ≤ 2 ^ j := fun j => Int.le_of_lt (Int.pow_pos (by omega))
  cases op <;> simp only [shiftV, Option.some.injEq, reduceCtorEq, Prod.mk.injEq] at h
  · obtain ⟨rfl, rfl⟩ := h
    have hp : 0 ≤ n := hp
    simp only [binOp, Op.shift, if_neg (show ¬ n < 0 by omega)]
    rfl
  · obtain ⟨rfl, rfl⟩ := h
    have hp : 0 ≤ n := hp
    simp only [binOp, Op.shift, if_neg (show ¬ n < 0 by omega)]
    rw [Int.fdiv_eq_ediv_of_nonneg _ (hpos _)]
    rfl
theorem shift_in {op : BinOp} {k : IntKind} {m n r : Int} {p : Option Prop} (hm : IR k m) (h : shiftV op k m n = some (p, r)) : IR k r := by
  cases op <;> simp only [shiftV, Option.some.injEq, reduceCtorEq, Prod.mk.injEq] at h
  · obtain ⟨_, rfl⟩ := h; exact IR_wrap ..
  · obtain ⟨_, rfl⟩ := h
    have hpos : (0 : Int) < 2 ^ (min n.toNat k.bits) := Int.pow_pos (by omega)
    generalize (2 : Int) ^ (min n.toNat k.bits) = d at hpos
    have a1 : 0 ≤ m → 0 ≤ m / d ∧ m / d ≤ m := fun h => ⟨Int.ediv_nonneg h (by omega), Int.ediv_le_self d h⟩
    have a2 : m < 0 → m ≤ m / d ∧ m / d < 0 := fun h => by
      refine ⟨(Int.le_ediv_iff_mul_le hpos).2 ?_, Int.ediv_neg_of_neg_of_pos h hpos⟩
      have := Int.mul_le_mul_of_nonpos_left (show m ≤ 0 by omega) (show (1 : Int) ≤ d by omega)
      omega
    rcases Int.lt_or_le m 0 with h | h
    · have := a2 h; cases k <;> simp only [IR] at hm ⊢ <;> omega
    · have := a1 h; cases k <;> simp only [IR] at hm ⊢ <;> omega
theorem run_eqGuard_str (op : BinOp) (t : TypeId) (x y : Operand) (m n : ByteArray) :
    (eqGuard op t x y (.string m) (.string n)).run P w = .ok () w := by
  unfold eqGuard; cases op <;> rfl
theorem bytes_beq (a b : List Int) (ha : isBytes a) (hb : isBytes b) : ((mkStr a).toList == (mkStr b).toList) = decide (a = b) := by
  rw [Bool.eq_iff_iff, beq_iff_eq, decide_eq_true_eq, ByteArray.toList_eq, ByteArray.toList_eq]
  constructor
  · intro h
    exact mkStr_inj ha hb (Go.WideShapes.bytes_inj h)
  · intro h; rw [h]
theorem mkStr_append (a b : List Int) : mkStr a ++ mkStr b = mkStr (a ++ b) := by
  apply Go.WideShapes.bytes_inj
  simp [mkStr]
theorem isBytes_append {a b : List Int} (ha : isBytes a) (hb : isBytes b) (h : a.length + b.length ≤ 9223372036854775807) : isBytes (a ++ b) :=
  ⟨by simpa using h, fun x hx => by exact (List.mem_append.1 hx).elim (ha.2 x) (hb.2 x)⟩
theorem sv_str {c : Cx} {l : List Int} (h : isBytes l) : SVc c (.one (.d .str l)) (.string (mkStr l)) := SVc.of1 rfl (show Rd _ _ _ _ _ from ⟨rfl, h⟩)
theorem str_run {c : Cx} {op : BinOp} {t : TypeId} {a b : List Int} {p : Option Prop} {q : PV} (ha : isBytes a) (hb : isBytes b) (h : strBin op a b = some (p, q)) (hp : vcP p) :
    ∃ v, (binOp op t (.string (mkStr a)) (.string (mkStr b))).run P w = .ok v w ∧ SVc c (.one q) v := by
  cases op <;> simp only [strBin, Option.some.injEq, reduceCtorEq, Prod.mk.injEq] at h
  · obtain ⟨rfl, rfl⟩ := h
    have hp : a.length + b.length ≤ 9223372036854775807 := hp
    refine ⟨.string (mkStr (a ++ b)), ?_, sv_str (isBytes_append ha hb hp)⟩
    simp only [binOp, Op.stringOp, mkStr_size]
    rw [if_neg (by simp only [IntKind.max, IntKind.bits, IntKind.signed]; simp; omega), mkStr_append]
    rfl
  · obtain ⟨rfl, rfl⟩ := h
    refine ⟨_, ?_, sv_bool (decide (a = b))⟩
    simp only [binOp, Op.stringOp, bytes_beq a b ha hb]; rfl
  · obtain ⟨rfl, rfl⟩ := h
    refine ⟨_, ?_, sv_bool (!(decide (a = b)))⟩
    simp only [binOp, Op.stringOp, bytes_beq a b ha hb]; rfl
theorem isAgg_c' {c : Cx} {x : SV} {v : Value} (h : SVc c x v) (hx : x.isAgg = true) : ∃ cs, v = .agg cs := by
  cases x with
  | one p =>
    cases p with
    | d t y =>
      have hg : t.agg = true := hx
      have h : aggC c t.agg [.d t y] v := h
      rw [hg] at h
      obtain ⟨cs, e, _⟩ := h
      exact ⟨cs, e⟩
    | orp k n g =>
      have h : aggC c true [.orp k n g] v := h
      obtain ⟨cs, e, _⟩ := h
      exact ⟨cs, e⟩
    | _ => cases hx
  | agg ps => obtain ⟨cs, e, _⟩ := h; exact ⟨cs, e⟩
  | tup es => cases hx
  | cnd b p => cases hx
theorem eq_agg_run {op : BinOp} {t : TypeId} {x y : SV} {v v' : Value} {b : Bool} {c : Cx} {o1 o2 : Operand} {E : Env} (hE : EnvOk P E) (hw : c.w = w) (hx : SVc c x v) (hy : SVc c y v') (h : eqS E op t x y = some b) :
    ((do eqGuard op t o1 o2 v v'; binOp op t v v') : Sem Value).run P w = .ok (.bool b) w := by
  unfold eqS at h
  split at h
  · rename_i u hu
    cases hg : x.isAgg && y.isAgg with
    | false => rw [hg] at h; cases h
    | true =>
      rw [hg] at h
      simp only [cond_true] at h
      simp only [Bool.and_eq_true] at hg
      split at h
      · rename_i ps qs hps hqs
        split at h
        · rename_i a b' ha hb
          have T := hE.eq t u hu
          obtain ⟨cs, rfl⟩ := isAgg_c' hx hg.1
          obtain ⟨ds, rfl⟩ := isAgg_c' hy hg.2
          have r1 := rdAll_c ha (SVparts_c hx hps)
          have r2 := rdAll_c hb (SVparts_c hy hqs)
          subst hw
          have hrun := equal_run (cs := cs) (ds := ds) T.is T.flat T.key (by omega) T.agg r1 r2
          have hgd : (eqGuard op t o1 o2 (.agg cs) (.agg ds)).run P c.w = .ok () c.w := by
            unfold eqGuard
            cases op <;> simp [T.guard]
          cases op <;> simp only [Option.some.injEq, reduceCtorEq] at h
          · subst h
            simp only [Sem.run_bind, hgd, Result.andThen_ok, binOp, hrun, Sem.run_pure]
          · subst h
            simp only [Sem.run_bind, hgd, Result.andThen_ok, binOp, hrun, Sem.run_pure]
        · cases h
      · cases h
  · cases h

theorem isPtr_c {c : Cx} {p : PV} {v : Value} {b : Bool} (hb : isPtr p = some b) (h : SVc c (.one p) v) : ∃ A, v = .pointer A ∧ A.isNone = b := by
  have hn : p ≠ .any := fun e => by subst e; cases hb
  have ha : p.agg = false := by cases p <;> first | rfl | cases hb
  have h1 := SVc.one1 ha hn h
  unfold isPtr at hb
  split at hb
  · cases hb; exact ⟨none, by simpa using h1.1, rfl⟩
  · cases hb; obtain ⟨_, b, _, e⟩ := h1; exact ⟨_, by simpa using e, rfl⟩
  · cases hb; obtain ⟨_, _, b, _, e⟩ := h1; exact ⟨_, by simpa using e, rfl⟩
  · cases hb; obtain ⟨_, b, o, n, cp, _, _, e⟩ := h1; exact ⟨_, by simpa using e, rfl⟩
  · cases hb; obtain ⟨_, _, b, o, n, cp, _, _, e⟩ := h1; exact ⟨_, by simpa using e, rfl⟩
  · cases hb; obtain ⟨_, _, b, _, e⟩ := h1; exact ⟨_, by simpa using e, rfl⟩
  · cases hb; obtain ⟨b, o, cs, e, _⟩ := h1; exact ⟨_, by simpa using e, rfl⟩
  · cases hb; obtain ⟨_, e⟩ := h1; exact ⟨_, by simpa using e, rfl⟩
  · cases hb; obtain ⟨_, e⟩ := h1; exact ⟨_, by simpa using e, rfl⟩
  · cases hb
theorem ptrNil_run {c : Cx} {op : BinOp} {t : TypeId} {x y : Operand} {sx sy : SV} {vx vy : Value} {b : Bool} (hE : EnvOk P E) (hx : SVc c sx vx) (hy : SVc c sy vy) (hb : ptrNil E op t sx sy = some b) :
    (do eqGuard op t x y vx vy; binOp op t vx vy : Sem Value).run P w = .ok (.bool b) w := by
  unfold ptrNil at hb
  split at hb
  · rename_i sz by_ e z ty p hti
    obtain ⟨hu, _⟩ := (hE t _ hti).kind
    obtain ⟨hy1, _⟩ := SVc.one1 rfl (by simp) hy
    simp only [List.cons.injEq, and_true] at hy1
    subst hy1
    split at hb
    · rename_i q hq
      obtain ⟨A, rfl, hA⟩ := isPtr_c hq hx
      cases hb
      have hg : (eqGuard .eql t x y (.pointer A) (.pointer none)).run P w = .ok () w := by unfold eqGuard; rfl
      have he : (Op.equal t (.pointer A) (.pointer none)).run P w = .ok A.isNone w := by
        unfold Op.equal Op.maxDepth Op.equalIn
        simp only [Sem.run_bind, run_underlying hu, Result.andThen_ok]
        cases A <;> rfl
      simp only [Sem.run_bind, hg, Result.andThen_ok, binOp, he, Sem.run_pure, hA]
    · rename_i q hq
      obtain ⟨A, rfl, hA⟩ := isPtr_c hq hx
      cases hb
      have hg : (eqGuard .neq t x y (.pointer A) (.pointer none)).run P w = .ok () w := by unfold eqGuard; rfl
      have he : (Op.equal t (.pointer A) (.pointer none)).run P w = .ok A.isNone w := by
        unfold Op.equal Op.maxDepth Op.equalIn
        simp only [Sem.run_bind, run_underlying hu, Result.andThen_ok]
        cases A <;> rfl
      simp only [Sem.run_bind, hg, Result.andThen_ok, binOp, he, Sem.run_pure, hA]
    · cases hb
  · cases hb
theorem refNil_run {c : Cx} {op : BinOp} {t : TypeId} {x y : Operand} {sx sy : SV} {vx vy : Value} {b : Bool} (hE : EnvOk P E) (hx : SVc c sx vx) (hy : SVc c sy vy) (hb : refNil E op t sx sy = some b) :
    (do eqGuard op t x y vx vy; binOp op t vx vy : Sem Value).run P w = .ok (.bool b) w := by
  unfold refNil at hb
  split at hb
  · rename_i sz by_ e z ty p a hti
    obtain ⟨hu, _⟩ := (hE t _ hti).kind
    obtain ⟨hy1, _⟩ := SVc.one1 rfl (by simp) hy
    simp only [List.cons.injEq, and_true] at hy1
    subst hy1
    have hA : ∃ A, vx = .pointer A ∧ A.isNone = decide ((a : Int) < 0) := by
      rcases (SVc.one1 rfl (by simp) hx : Rd _ _ (.ref p) [vx] a) with ⟨h1, h2⟩ | ⟨h1, h2⟩
      · have h1 : (a : Int) = -1 := h1
        exact ⟨none, by simpa using h2, by rw [h1]; rfl⟩
      · exact ⟨_, by simpa using h2, by
          have h1 : (0 : Int) ≤ a := h1
          have : ¬ (a : Int) < 0 := Int.not_lt.mpr h1
          simp [this]⟩
    obtain ⟨A, rfl, hA⟩ := hA
    have hg : ∀ op, (eqGuard op t x y (.pointer A) (.pointer none)).run P w = .ok () w := fun op => by unfold eqGuard; cases op <;> rfl
    have he : (Op.equal t (.pointer A) (.pointer none)).run P w = .ok A.isNone w := by
      unfold Op.equal Op.maxDepth Op.equalIn
      simp only [Sem.run_bind, run_underlying hu, Result.andThen_ok]
      cases A <;> rfl
    split at hb
    · cases hb
      simp only [Sem.run_bind, hg, Result.andThen_ok, binOp, he, Sem.run_pure, hA]
    · cases hb
      simp only [Sem.run_bind, hg, Result.andThen_ok, binOp, he, Sem.run_pure, hA]
    · cases hb
  · cases hb
theorem errNil_does {op : BinOp} {t t' : TypeId} {x y : Operand} {b : Bool} {R : Act → World → Prop} (hE : EnvOk P E) (h : Ok w0 ρ s a w) (ho : o.op = .binOp op t x y t')
    (hb : errNil E op t (ev s x) y = some b) (hR : Up w0 (s.put o.dst (.one (.d .bool b))) R) : Does P o a w R := by
  unfold errNil at hb
  split at hb
  · rename_i sz by_ ms z ty e hti hxx
    obtain ⟨hu, _⟩ := (hE t _ hti).kind
    have hx := h.ev x
    rw [hxx] at hx
    have hy : a.eval (.const .nilIface) = .nilIface := rfl
    have hg : ∀ op v, (eqGuard op t x (.const .nilIface) v .nilIface).run P w = .ok () w := fun op v => by unfold eqGuard; cases op <;> cases v <;> first | rfl | simp
    have he : (Op.equal t (a.eval x) .nilIface).run P w = .ok (!(e : Bool)) w := by
      unfold Op.equal Op.maxDepth Op.equalIn
      simp only [Sem.run_bind, run_underlying hu, Result.andThen_ok]
      rcases (SVc.one1 rfl (by simp) hx : Rd _ _ .err [a.eval x] e) with ⟨h1, h2⟩ | ⟨h1, u, v, h2⟩
      · have h2 : a.eval x = .nilIface := by simpa using h2
        have h1 : (e : Bool) = false := h1
        rw [h2, h1]; rfl
      · have h2 : a.eval x = .iface u v := by simpa using h2
        have h1 : (e : Bool) = true := h1
        rw [h2, h1]; rfl
    have hv : ∀ u v, binOp .eql t (.iface u v) .nilIface = (do pure (.bool (← Op.equal t (.iface u v) .nilIface))) ∧ binOp .neq t (.iface u v) .nilIface = (do pure (.bool (!(← Op.equal t (.iface u v) .nilIface)))) := fun u v => ⟨rfl, rfl⟩
    have hn : binOp .eql t .nilIface .nilIface = (do pure (.bool (← Op.equal t .nilIface .nilIface))) ∧ binOp .neq t .nilIface .nilIface = (do pure (.bool (!(← Op.equal t .nilIface .nilIface)))) := ⟨rfl, rfl⟩
    have hbin : binOp .eql t (a.eval x) .nilIface = (do pure (.bool (← Op.equal t (a.eval x) .nilIface))) ∧ binOp .neq t (a.eval x) .nilIface = (do pure (.bool (!(← Op.equal t (a.eval x) .nilIface)))) := by
      rcases (SVc.one1 rfl (by simp) hx : Rd _ _ .err [a.eval x] e) with ⟨h1, h2⟩ | ⟨h1, u, v, h2⟩
      · rw [show a.eval x = .nilIface by simpa using h2]; exact hn
      · rw [show a.eval x = .iface u v by simpa using h2]; exact hv u v
    split at hb
    · cases hb
      refine does_value h (exec_bin ho) ?_ (sv_bool _) hR
      rw [hy, hbin.1]
      simp only [Sem.run_bind, hg, Result.andThen_ok, he, Sem.run_pure]
    · cases hb
      refine does_value h (exec_bin ho) ?_ (sv_bool _) hR
      rw [hy, hbin.2]
      simp only [Sem.run_bind, hg, Result.andThen_ok, he, Sem.run_pure, Bool.not_not]
    · cases hb
  · cases hb
theorem bin_does {op : BinOp} {t t' : TypeId} {x y : Operand} {wr : Bool} {p : Option Prop} {R : Act → World → Prop} (hE : EnvOk P E) (h : Ok w0 ρ s a w) (ho : o.op = .binOp op t x y t')
    (hs : binS E wr s o.dst op t (ev s x) (ev s y) = some (p, s')) (hp : vcP p) (hR : Up w0 s' R) : Does P o a w R := by
  unfold binS at hs
  split at hs
  · rename_i k m k' n hx hy
    have ex := asInt_c (h.ev x) hx
    have ey := asInt_c (h.ev y) hy
    split at hs
    · rename_i q r hr
      simp only [Option.some.injEq, Prod.mk.injEq] at hs
      obtain ⟨rfl, rfl⟩ := hs
      refine does_value h (exec_bin ho) ?_ (sv_int (shift_in (asInt_ir (h.ev x) hx) hr)) hR
      rw [ex, ey]
      simp only [Sem.run_bind, run_eqGuard_int, Result.andThen_ok, shift_run hr hp]
    · split at hs
      · rename_i hk
        subst hk
        split at hs
        · rename_i r hr
          simp only [ok, Option.some.injEq, Prod.mk.injEq] at hs
          obtain ⟨_, rfl⟩ := hs
          refine does_value h (exec_bin ho) ?_ (sv_bool r) hR
          rw [ex, ey]
          simp only [Sem.run_bind, run_eqGuard_int, Result.andThen_ok, cmp_run hr]
        · split at hs
          · rename_i q r hr
            simp only [Option.some.injEq, Prod.mk.injEq] at hs
            obtain ⟨rfl, rfl⟩ := hs
            refine does_value h (exec_bin ho) ?_ (sv_int (arith_in (asInt_ir (h.ev x) hx) (asInt_ir (h.ev y) hy) hr hp)) hR
            rw [ex, ey]
            simp only [Sem.run_bind, run_eqGuard_int, Result.andThen_ok, arith_run (asInt_ir (h.ev x) hx) hr hp]
          · cases hs
      · cases hs
  · split at hs
    · rename_i b c hx hy
      have ex := asBool_c (h.ev x) hx
      have ey := asBool_c (h.ev y) hy
      cases hb : isBoolT E t with
      | false => rw [hb] at hs; cases hs
      | true =>
        rw [hb] at hs
        simp only [Bool.not_true, cond_false] at hs
        split at hs
        · rename_i r hr
          simp only [ok, Option.some.injEq, Prod.mk.injEq] at hs
          obtain ⟨_, rfl⟩ := hs
          refine does_value h (exec_bin ho) ?_ (sv_bool r) hR
          have hu := isBoolT_ok hE hb
          rw [ex, ey]
          simp only [Sem.run_bind, run_eqGuard_bool, Result.andThen_ok, boolOp_run hu hr]
        · cases hs
    · split at hs
      · rename_i l m hx hy
        obtain ⟨ex, bx⟩ := asStr_c (h.ev x) hx
        obtain ⟨ey, by'⟩ := asStr_c (h.ev y) hy
        split at hs
        · rename_i q v hr
          simp only [Option.some.injEq, Prod.mk.injEq] at hs
          obtain ⟨rfl, rfl⟩ := hs
          obtain ⟨u, hu, hv⟩ := str_run (P := P) (w := w) (c := cx w0 ρ s w) (t := t) bx by' hr hp
          refine does_value h (exec_bin ho) ?_ hv hR
          rw [ex, ey]
          simp only [Sem.run_bind, run_eqGuard_str, Result.andThen_ok, hu]
        · cases hs
      · split at hs
        · rename_i b hb
          simp only [ok, Option.some.injEq, Prod.mk.injEq] at hs
          obtain ⟨_, rfl⟩ := hs
          exact does_value h (exec_bin ho) (eq_agg_run (c := cx w0 ρ s w) hE rfl (h.ev x) (h.ev y) hb) (sv_bool b) hR
        · split at hs
          · rename_i b hb
            simp only [ok, Option.some.injEq, Prod.mk.injEq] at hs
            obtain ⟨_, rfl⟩ := hs
            exact does_value h (exec_bin ho) (ptrNil_run hE (h.ev x) (h.ev y) hb) (sv_lit b) hR
          · split at hs
            · rename_i b hb
              simp only [ok, Option.some.injEq, Prod.mk.injEq] at hs
              obtain ⟨_, rfl⟩ := hs
              exact does_value h (exec_bin ho) (refNil_run hE (h.ev x) (h.ev y) hb) (sv_bool b) hR
            · cases hs
end
end Go.Sx
