/-
  Sx, part E: each operation does what the executor says (loads, stores, addresses, arithmetic).
-/
import Derived.Test.YtpnmfoojmodnlaaSxD
namespace Go.Sx
open Go.RowKit

/-- The cells of data in which no slice lies but the nil slice. -/
def cellsD : (t : Ty) → t.D → List Value
  | .int k, x => [.int k x]
  | .bool, x => [.bool x]
  | .str, x => [.string (mkStr x)]
  | .sl _, _ => [.slice none 0 0]
  | .arr _ t, xs => (xs.map (cellsD t)).flatten
  | .pair a b, x => cellsD a x.1 ++ cellsD b x.2
  | .ref _, _ => [.pointer none]
  | .err, _ => [.nilIface]
  | .mp _ _, _ => [.map none]
def cellsP : PV → List Value
  | .d t x => cellsD t x
  | .lit b => [.bool b]
  | .con v => [v]
  | _ => []
def cellsPs : List PV → List Value
  | [] => []
  | p :: ps => cellsP p ++ cellsPs ps
/-- Data in which all slices are empty. -/
def flatD : (t : Ty) → t.D → Bool
  | .int k, n => irB k n
  | .bool, _ => true
  | .str, x => x.isEmpty
  | .sl _, xs => xs.isEmpty
  | .arr n t, xs => Nat.beq xs.length n && xs.all (flatD t)
  | .pair a b, x => flatD a x.1 && flatD b x.2
  | .ref _, x => decide ((x : Int) = -1)
  | .err, x => !(x : Bool)
  | .mp _ _, x => x.isEmpty
def flatP : PV → Bool
  | .d t x => flatD t x
  | .lit _ => true
  | .con v => v.oneCell'
  | _ => false

theorem flatten_piece {α : Type} (n : Nat) : ∀ (ls : List (List α)) (i : Nat) (l : List α), (∀ x ∈ ls, x.length = n) → ls[i]? = some l → (ls.flatten.drop (i * n)).take n = l
  | [], i, l, _, h => by simp at h
  | x :: ls, 0, l, hn, h => by
    have hx : x.length = n := hn x (by simp)
    simp at h; subst h
    simp [List.flatten_cons, ← hx]
  | x :: ls, i + 1, l, hn, h => by
    have hx : x.length = n := hn x (by simp)
    have ih := flatten_piece n ls i l (fun y hy => hn y (by simp [hy])) (by simpa using h)
    rw [List.flatten_cons, Nat.add_mul, Nat.one_mul, Nat.add_comm, ← List.drop_drop]
    rw [show (x ++ ls.flatten).drop n = ls.flatten by rw [← hx]; simp]
    exact ih
theorem cellsD_len : ∀ {t : Ty} {x : t.D}, flatD t x = true → (cellsD t x).length = t.size
  | .int _, _, _ => rfl
  | .bool, _, _ => rfl
  | .str, _, _ => rfl
  | .sl _, _, _ => rfl
  | .ref _, _, _ => rfl
  | .err, _, _ => rfl
  | .mp _ _, _, _ => rfl
  | .pair a b, x, h => by
    simp only [flatD, Bool.and_eq_true] at h
    simp [cellsD, cellsD_len h.1, cellsD_len h.2, Ty.size]
  | .arr n t, xs, h => by
    simp only [flatD, Bool.and_eq_true, List.all_eq_true] at h
    have hn : xs.length = n := Nat.eq_of_beq_eq_true h.1
    have : ∀ (l : List t.D), (∀ x ∈ l, flatD t x = true) → ((l.map (cellsD t)).flatten).length = l.length * t.size := by
      intro l hl
      induction l with
      | nil => simp
      | cons y l ih =>
        simp only [List.map_cons, List.flatten_cons, List.length_append, List.length_cons]
        rw [cellsD_len (hl y (by simp)), ih (fun x hx => hl x (by simp [hx])), Nat.add_mul, Nat.one_mul, Nat.add_comm]
    simp only [cellsD, Ty.size]
    rw [this xs h.2, hn]
theorem cellsD_rd {S : Nat → Prop} {w : World} : ∀ {t : Ty} {x : t.D}, flatD t x = true → Rd S w t (cellsD t x) x
  | .int _, _, h => ⟨rfl, irB_ok h⟩
  | .bool, _, _ => rfl
  | .str, x, h => by
    have hx : x = [] := by simpa [flatD] using h
    subst hx
    exact ⟨rfl, by simp, fun b hb => by cases hb⟩
  | .sl _, xs, h => by
    have hx : xs = [] := by simpa [flatD] using h
    subst hx
    exact ⟨none, 0, rfl, Nat.le_refl _, by simp [maxLen], fun h => absurd h (by simp)⟩
  | .ref _, x, h => .inl ⟨of_decide_eq_true h, rfl⟩
  | .err, x, h => .inl ⟨by simpa [flatD] using h, rfl⟩
  | .mp _ _, x, h => .inl ⟨by simpa [flatD] using h, rfl⟩
  | .pair a b, x, h => by
    simp only [flatD, Bool.and_eq_true] at h
    exact ⟨_, _, rfl, cellsD_rd h.1, cellsD_rd h.2⟩
  | .arr n t, xs, h => by
    have hlen := cellsD_len (t := .arr n t) (x := xs) h
    simp only [flatD, Bool.and_eq_true, List.all_eq_true] at h
    have hn : xs.length = n := Nat.eq_of_beq_eq_true h.1
    refine ⟨hn, by rw [hlen]; rfl, fun i x hx => ?_⟩
    have hm : x ∈ xs := List.mem_of_getElem? hx
    have := flatten_piece t.size (xs.map (cellsD t)) i (cellsD t x)
      (fun l hl => by obtain ⟨y, hy, rfl⟩ := List.mem_map.1 hl; exact cellsD_len (h.2 y hy)) (by simp [hx])
    show Rd S w t (((xs.map (cellsD t)).flatten.drop (i * t.size)).take t.size) x
    rw [this]
    exact cellsD_rd (h.2 x hm)
theorem cellsP_c {c : Cx} {p : PV} (h : flatP p = true) : PVc c p (cellsP p) := by
  cases p with
  | d t x => exact cellsD_rd h
  | lit b => rfl
  | con v => exact ⟨rfl, h⟩
  | _ => simp [flatP] at h
theorem cellsPs_c {c : Cx} : ∀ {ps : List PV}, ps.all flatP = true → PsC c ps (cellsPs ps)
  | [], _ => rfl
  | p :: ps, h => by
    simp only [List.all_cons, Bool.and_eq_true] at h
    exact ⟨_, _, rfl, cellsP_c h.1, cellsPs_c h.2⟩

/-- A row of the environment is as the program says. -/
structure TIok (P : Program) (t : TypeId) (ti : TI) : Prop where
  info : ∃ i z, P.info? t = some i ∧ i.size = ti.size ∧ i.bytes = ti.bytes ∧ i.zero = some z ∧ z = (bif ti.kind.agg then .agg (cellsPs ti.zero).toArray else (cellsPs ti.zero).headD undef)
  flat : ti.zero.all flatP = true
  size : (cellsPs ti.zero).length = ti.size
  one : ti.kind.agg = true ∨ ti.size = 1
  kind : match ti.kind with
    | .scalar d => P.underlying t = some d ∧ (match d with | .struct _ => False | .array _ _ => False | _ => True)
    | .slice e => P.underlying t = some (.slice e)
    | .arr n e => P.underlying t = some (.array n e)
    | .struct fs => ∃ F : Array Field, P.underlying t = some (.struct F) ∧ F.toList.map (fun f => (f.offset, f.type)) = fs
  ty : match ti.ty with
    | none => True
    | some u => u.size = ti.size ∧ u.agg = ti.kind.agg ∧ flatD u u.zero = true ∧ cellsD u u.zero = cellsPs ti.zero
/-- A type whose data may be compared. -/
structure EqTy (P : Program) (t : TypeId) (u : Ty) : Prop where
  is : tyIs P u t
  flat : flatTy u = true
  agg : u.agg = true
  key : P.keyTypeAt 100 t = true
  guard : P.eqGuardType P.depth t = false
structure EnvOk (P : Program) (E : Env) : Prop where
  ty : ∀ t ti, E.info t = some ti → TIok P t ti
  eq : ∀ t u, E.eq? t = some u → EqTy P t u
instance {P : Program} {E : Env} : CoeFun (EnvOk P E) (fun _ => ∀ t ti, E.info t = some ti → TIok P t ti) := ⟨EnvOk.ty⟩

theorem TIok.mk1 {P : Program} {t : TypeId} {ti : TI}
    (h : (P.info? t).map (fun i => (i.zero, i.size, i.bytes)) = some (some (bif ti.kind.agg then .agg (cellsPs ti.zero).toArray else (cellsPs ti.zero).headD undef), ti.size, ti.bytes))
    (flat : ti.zero.all flatP = true) (size : (cellsPs ti.zero).length = ti.size) (one : ti.kind.agg = true ∨ ti.size = 1)
    (kind : match ti.kind with
      | .scalar d => P.underlying t = some d ∧ (match d with | .struct _ => False | .array _ _ => False | _ => True)
      | .slice e => P.underlying t = some (.slice e)
      | .arr n e => P.underlying t = some (.array n e)
      | .struct fs => ∃ F : Array Field, P.underlying t = some (.struct F) ∧ F.toList.map (fun f => (f.offset, f.type)) = fs)
    (ty : match ti.ty with
      | none => True
      | some u => u.size = ti.size ∧ u.agg = ti.kind.agg ∧ flatD u u.zero = true ∧ cellsD u u.zero = cellsPs ti.zero) : TIok P t ti := by
  obtain ⟨i, hi, hz⟩ := Option.map_eq_some_iff.1 h
  simp only [Prod.mk.injEq] at hz
  exact ⟨⟨i, _, hi, hz.2.1, hz.2.2, hz.1, rfl⟩, flat, size, one, kind, ty⟩
def allOk (P : Program) : List (Nat × TI) → Prop
  | [] => True
  | (t, i) :: r => TIok P t i ∧ allOk P r
def eqsOk (P : Program) : List (Nat × Ty) → Prop
  | [] => True
  | (t, i) :: r => EqTy P t i ∧ eqsOk P r
theorem tysOk_of_all {P : Program} : ∀ {L : List (Nat × TI)}, allOk P L → ∀ t ti, tiAt L t = some ti → TIok P t ti
  | [], _, t, ti, h => by cases h
  | (k, i) :: r, h, t, ti, e => by
    unfold tiAt at e
    cases hb : Nat.beq k t with
    | true =>
      rw [hb] at e
      simp only [cond_true, Option.some.injEq] at e
      subst e
      have := Nat.eq_of_beq_eq_true hb
      subst this
      exact h.1
    | false =>
      rw [hb] at e
      exact tysOk_of_all h.2 t ti e
theorem eqsOk_of_all {P : Program} : ∀ {L : List (Nat × Ty)}, eqsOk P L → ∀ t u, tyAt L t = some u → EqTy P t u
  | [], _, t, ti, h => by cases h
  | (k, i) :: r, h, t, ti, e => by
    unfold tyAt at e
    cases hb : Nat.beq k t with
    | true =>
      rw [hb] at e
      simp only [cond_true, Option.some.injEq] at e
      subst e
      have := Nat.eq_of_beq_eq_true hb
      subst this
      exact h.1
    | false =>
      rw [hb] at e
      exact eqsOk_of_all h.2 t ti e
theorem envOk_of_all {P : Program} {E : Env} (h : allOk P E.tys) (h' : eqsOk P E.eqs) : EnvOk P E := ⟨tysOk_of_all h, eqsOk_of_all h'⟩

section
variable {P : Program} {t : TypeId} {ti : TI} (w : World)
theorem TIok.run_agg (h : TIok P t ti) : (isAgg t).run P w = .ok ti.kind.agg w := by
  have hk := h.kind
  cases e : ti.kind with
  | scalar d =>
    rw [e] at hk
    obtain ⟨hd, hn⟩ := hk
    unfold isAgg
    simp only [Sem.run_bind, run_underlying hd, Result.andThen_ok]
    cases d <;> first | rfl | exact hn.elim
  | slice e' => rw [e] at hk; unfold isAgg; simp only [Sem.run_bind, run_underlying hk, Result.andThen_ok]; rfl
  | arr n e' => rw [e] at hk; unfold isAgg; simp only [Sem.run_bind, run_underlying hk, Result.andThen_ok]; rfl
  | struct fs =>
    rw [e] at hk
    obtain ⟨F, hF, _⟩ := hk
    unfold isAgg; simp only [Sem.run_bind, run_underlying hF, Result.andThen_ok]; rfl
theorem TIok.run_info (h : TIok P t ti) : ∃ i, (typeInfo t).run P w = .ok i w ∧ i.size = ti.size ∧ i.bytes = ti.bytes := by
  obtain ⟨i, z, h1, h2, h3, _⟩ := h.info
  exact ⟨i, by simp [typeInfo, h1], h2, h3⟩
theorem TIok.run_size (h : TIok P t ti) : (sizeOf t).run P w = .ok ti.size w := by
  obtain ⟨i, h1, h2, _⟩ := h.run_info w
  unfold sizeOf
  simp only [Sem.run_bind, h1, Result.andThen_ok, Sem.run_pure, h2]
end

/-- What an operation does: it gives a value, or none, and R holds of the frame and the world behind it. -/
def Does (P : Program) (o : Oper) (a : Act) (w : World) (R : Act → World → Prop) : Prop :=
  (∃ v w', (execOp a.eval o).run P w = .ok (.value v) w' ∧ R (a.put o.dst v) w') ∨ (∃ w', (execOp a.eval o).run P w = .ok .skip w' ∧ R (a.put o.dst undef) w')
theorem Does.wp {P : Program} {o : Oper} {a : Act} {w : World} {R : Act → World → Prop} {Q : Exit → Act → World → Prop} (h : Does P o a w R) : o.wp P a w R Q := by
  unfold Oper.wp
  rcases h with ⟨v, w', h, hr⟩ | ⟨w', h, hr⟩ <;> rw [h] <;> exact hr
theorem Does.value {P : Program} {o : Oper} {a : Act} {w : World} {R : Act → World → Prop} {v : Value} {w' : World} {m : Sem Value}
    (he : execOp a.eval o = (do pure (.value (← m)))) (hm : m.run P w = .ok v w') (hr : R (a.put o.dst v) w') : Does P o a w R :=
  .inl ⟨v, w', by rw [he]; simp only [Sem.run_bind, hm, Result.andThen_ok, Sem.run_pure], hr⟩

section
variable {P : Program} {E : Env} {w0 : Base} {w : World} {ρ : Nat → Value} {s s' : St} {a : Act}

theorem str_self {S : Nat → Prop} {w : World} (z : ByteArray) (h : z.size ≤ 9223372036854775807) : Rd S w .str [.string z] (ofStr z) := ⟨by rw [mkStr_ofStr], isBytes_ofStr z h⟩
theorem constSV_c {c : Cx} (v : Value) : SVc c (constSV v) v := by
  cases v
  case int k n =>
    show SVc c (bif irB k n then .one (.d (.int k) n) else .one .any) (.int k n)
    cases h : irB k n with
    | true => exact PsC.single (show PVc c (.d (.int k) n) _ from ⟨rfl, irB_ok h⟩)
    | false => exact trivial
  case string z =>
    show SVc c (bif Nat.ble z.size 9223372036854775807 then .one (.d .str (ofStr z)) else .one .any) (.string z)
    cases h : Nat.ble z.size 9223372036854775807 with
    | true => exact PsC.single (show PVc c (.d .str (ofStr z)) _ from str_self (S := c.S) (w := c.w) z (Nat.le_of_ble_eq_true h))
    | false => exact trivial
  all_goals first
    | exact trivial
    | exact PsC.single (show PVc c (.con _) _ from ⟨rfl, rfl⟩)
    | exact PsC.single (show PVc c (.lit _) _ from rfl)
theorem Ok.ev (h : Ok w0 ρ s a w) (x : Operand) : SVc (cx w0 ρ s w) (ev s x) (a.eval x) := by
  cases x with
  | tmp t => exact h.frame t
  | const v => exact constSV_c v
  | global g => exact trivial
  | func f => exact PsC.single (show PVc (cx w0 ρ s w) (.con _) _ from ⟨rfl, rfl⟩)

/-- A slot that is one value that is no aggregate. -/
theorem SVc.one1 {c : Cx} {p : PV} {v : Value} (hp : p.agg = false) (hn : p ≠ .any) (h : SVc c (.one p) v) : PVc c p [v] := by
  have h' : aggC c p.agg [p] v := by cases p <;> first | exact absurd rfl hn | exact h
  rw [hp] at h'
  obtain ⟨x, y, e, h1, h2⟩ := h'
  have hy : y = [] := h2
  subst hy
  rw [List.append_nil] at e
  rw [e]; exact h1
theorem SVc.of1 {c : Cx} {p : PV} {v : Value} (hp : p.agg = false) (h : PVc c p [v]) : SVc c (.one p) v := by
  cases p with
  | any => trivial
  | d t x =>
    show aggC c t.agg [.d t x] v
    rw [show t.agg = false from hp]
    exact PsC.single h
  | lit b => exact PsC.single h
  | con u => exact PsC.single h
  | row k => exact PsC.single h
  | ptr k o => exact PsC.single h
  | pel k o n sz i j => exact PsC.single h
  | rel k sz i j => exact PsC.single h
  | rea k sz i j n' sz' i' j' => exact PsC.single h
  | pea k off n sz i j n' sz' i' j' => exact PsC.single h
  | dpl t x => exact PsC.single h
  | clo k => exact PsC.single h
  | sub k k' sz a b => exact PsC.single h
  | bsl k off n sz => exact PsC.single h
  | itr k r => exact PsC.single h
  | opt p a off => exact PsC.single h
  | oel p a off n sz i j => exact PsC.single h
  | orp k n g => cases hp

theorem asInt_c {c : Cx} {x : SV} {v : Value} {k : IntKind} {n : Int} (h : SVc c x v) (e : asInt? x = some (k, n)) : v = .int k n := by
  unfold asInt? at e
  split at e
  · rename_i k' n'
    simp only [Option.some.injEq, Prod.mk.injEq] at e
    obtain ⟨rfl, rfl⟩ := e
    have h2 : [v] = [.int k' n'] := (SVc.one1 rfl (by simp) h).1
    simpa using h2
  · cases e
theorem asInt_ir {c : Cx} {x : SV} {v : Value} {k : IntKind} {n : Int} (h : SVc c x v) (e : asInt? x = some (k, n)) : IR k n := by
  unfold asInt? at e
  split at e
  · rename_i k' n'
    simp only [Option.some.injEq, Prod.mk.injEq] at e
    obtain ⟨rfl, rfl⟩ := e
    exact (SVc.one1 rfl (by simp) h).2
  · cases e
theorem asStr_c {c : Cx} {x : SV} {v : Value} {l : List Int} (h : SVc c x v) (e : asStr? x = some l) : v = .string (mkStr l) ∧ isBytes l := by
  unfold asStr? at e
  split at e
  · simp only [Option.some.injEq] at e
    subst e
    have h2 := SVc.one1 rfl (by simp) h
    refine ⟨?_, h2.2⟩
    have h3 : [v] = [.string (mkStr _)] := h2.1
    simpa using h3
  · cases e
theorem isStrT_c {P : Program} {E : Env} {t : TypeId} (hE : EnvOk P E) (h : isStrT E t = true) : P.underlying t = some .string := by
  unfold isStrT at h
  split at h
  · rename_i e; exact (hE _ _ e).kind.1
  · cases h
theorem asBool_c {c : Cx} {x : SV} {v : Value} {b : Bool} (h : SVc c x v) (e : asBool? x = some b) : v = .bool b := by
  unfold asBool? at e
  split at e
  · simp only [Option.some.injEq] at e
    subst e
    have h2 : [v] = [.bool _] := SVc.one1 rfl (by simp) h
    simpa using h2
  · simp only [Option.some.injEq] at e
    subst e
    have h2 : [v] = [.bool _] := SVc.one1 rfl (by simp) h
    simpa using h2
  · cases e

theorem IR_wrap (k : IntKind) (n : Int) : IR k (k.wrap n) := by
  cases k <;> simp only [IR] <;> simp only [IntKind.wrap, IntKind.bits, IntKind.signed] <;> simp <;> omega
theorem wrap_in {k : IntKind} {n : Int} (h : IR k n) : k.wrap n = n := by
  cases k <;> simp only [IR] at h <;> simp only [IntKind.wrap, IntKind.bits, IntKind.signed] <;> simp <;> omega
end
end Go.Sx
