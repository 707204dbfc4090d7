/-
  Sx, part O: the executor for code: regions, calls, branches, loops.
-/
import Derived.Test.YtpnmfoojmodnlaaSxN
import Derived.Test.YtpnmfoojmodnlaaSxS
namespace Go.Sx

/-- Several data, one behind the other. -/
@[reducible] def HL : List Ty → Type
  | [] => Unit
  | t :: ts => t.D × HL ts

/-- A contract of a function that only reads what it is given: for arguments that read as x, with pre x, it gives back f x. -/
structure Ctr where
  as : List Ty
  rs : List Ty
  pre : HL as → Prop
  f : HL as → HL rs
  own : Bool

/-- A side condition of a call. -/
structure Holds (p : Prop) : Prop where
  out : p

/-- A loop's or a cut's invariant: what is kept of the state, for each ghost. -/
structure Inv where
  slots : List (Nat × SV)
  heap : List (Nat × HE)
  nx : Nat
structure Ann where
  G : Type
  ok : St → G → Prop
  m : St → G → Nat
  inv : St → G → Inv
  pick : St → St → Option G
  lens : G → Prop
  told : ∀ (w0 : Base) (ρ : Nat → Value) (s0 s : St) (a : Act) (w : World) (g : G), Ok w0 ρ s a w → pick s0 s = some g → lens g

/-- A contract of a function that changes memory of ours which it is given: for arguments and memory as inv x tells them, with pre x, that memory is behind it as inv (f x).1 tells, and it gives back (f x).2. -/
structure Prc where
  n : Nat
  G : Type
  inv : G → Inv
  pick : St → Option G
  lens : G → Prop
  told : ∀ (w0 : Base) (ρ : Nat → Value) (s : St) (a : Act) (w : World) (g : G), Ok w0 ρ s a w → pick s = some g → lens g
  pre : G → Prop
  rs : List Ty
  f : G → G × HL rs
/-- What the executor is given: the types, where arithmetic may go round, the contracts, the functions, the invariants. -/
structure Fx where
  E : Env
  wr : Nat → Nat → Bool
  K : Nat → Option Ctr
  KF : Nat → Nat → Option Ctr
  fn : Nat → Option Func
  loops : Nat → Nat → Option Ann
  cuts : Nat → Nat → List Ann
  PR : Nat → Option Prc
  KN : Nat → Option Ctr := fun _ => none
  KC : Nat → Nat → List Nat → Option Ctr := fun _ _ _ => none
  PO : Nat → Option (Prc × Nat) := fun _ => none

inductive AEx where
  | normal
  | exit (id : Nat)
  | ret

def noSl : Ty → Bool
  | .sl _ => false
  | .arr _ t => noSl t
  | .pair a b => noSl a && noSl b
  | .mp _ _ => false
  | _ => true

/-- A name of our own, read as data. -/
def PV.res (s : St) : PV → PV
  | .row k => (match s.hp k with
    | some (.row t xs) => .d (.sl t) xs
    | some (.map kk t xs) => .d (.mp kk t) xs
    | _ => .row k)
  | .sub k k' sz a b => (match slD s (.one (.sub k k' sz a b)) with
    | some ⟨t, xs⟩ => .d (.sl t) xs
    | none => .sub k k' sz a b)
  | .bsl k off n sz => (match slD s (.one (.bsl k off n sz)) with
    | some ⟨t, xs⟩ => .d (.sl t) xs
    | none => .bsl k off n sz)
  | p => p
def rdArg (s : St) (bor : Bool) (t : Ty) (v : SV) : Option t.D :=
  match v.parts with
  | some ps => bif Bool.xor v.isAgg t.agg then none else rdAll t (bif bor then ps.map (PV.res s) else ps)
  | none => none
def rdArgs (s : St) (bor : Bool) : (as : List Ty) → List SV → Option (HL as)
  | [], [] => some ()
  | t :: ts, v :: vs => (match rdArg s bor t v with
    | some x => (match rdArgs s bor ts vs with
      | some y => some (x, y)
      | none => none)
    | none => none)
  | _, _ => none
def tupR : (rs : List Ty) → HL rs → List (Bool × List PV)
  | [], _ => []
  | t :: ts, x => (t.agg, [.d t x.1]) :: tupR ts x.2
def resR : (rs : List Ty) → HL rs → SV
  | [t], x => .one (.d t x.1)
  | rs, x => .tup (tupR rs x)

def PV.frz (k : Nat) (t : Ty) (xs : List t.D) : PV → PV
  | .row k' => bif Nat.beq k' k then .d (.sl t) xs else .row k'
  | p => p
def SV.frz (k : Nat) (t : Ty) (xs : List t.D) : SV → SV
  | .one p => .one (p.frz k t xs)
  | .agg ps => .agg (ps.map (PV.frz k t xs))
  | .tup es => .tup (es.map fun e => (e.1, e.2.map (PV.frz k t xs)))
  | .cnd b p => .cnd b (p.frz k t xs)
def HE.frz (k : Nat) (t : Ty) (xs : List t.D) : HE → HE
  | .box ps => .box (ps.map (PV.frz k t xs))
  | .clo f ps => .clo f (ps.map (PV.frz k t xs))
  | h => h
/-- A slice of our own becomes data for good. -/
def St.frz (s : St) (k : Nat) : St :=
  match s.hp k with
  | some (.row t xs) => { s with fr := s.fr.map (SV.frz k t xs), bk := s.bk.map (SV.frz k t xs), hp := fun n => bif Nat.beq n k then none else (match s.hp n with
      | some h => some (h.frz k t xs)
      | none => none) }
  | _ => s
/-! ### A view of a slice of our own takes its place. -/
def PV.rot (k : Nat) : PV → PV
  | .sub j k' sz a b => bif Nat.beq k' k then .row k' else .sub j k' sz a b
  | p => p
def SV.rot (k : Nat) : SV → SV
  | .one p => .one (p.rot k)
  | .agg ps => .agg (ps.map (PV.rot k))
  | .tup es => .tup (es.map fun e => (e.1, e.2.map (PV.rot k)))
  | .cnd b p => .cnd b (p.rot k)
def HE.rot (k : Nat) : HE → HE
  | .box ps => .box (ps.map (PV.rot k))
  | .clo f ps => .clo f (ps.map (PV.rot k))
  | h => h
def St.rot (s : St) (k : Nat) : St :=
  { s with fr := s.fr.map (SV.rot k), bk := s.bk.map (SV.rot k), hp := fun n => (match s.hp n with
      | some h => some (h.rot k)
      | none => none) }
def freeN (s : St) (k : Nat) : Bool := s.us k && (match s.hp k with
  | none => true
  | some _ => false)
def root1 (s : St) (k k' sz a b : Nat) : St :=
  match s.hp k with
  | some (.row t xs) => bif Nat.beq t.size sz && freeN s k' then St.rot ((s.drop k).upd k' (.row t ((xs.take b).drop a))) k' else s
  | _ => s
def rootL (sk : Nat → Bool) : Nat → List SV → St → St
  | _, [], s => s
  | i, .one (.sub k k' sz a b) :: r, s => rootL sk (i + 1) r (bif sk i then s else root1 s k k' sz a b)
  | i, _ :: r, s => rootL sk (i + 1) r s
def rootAll (sk : Nat → Bool) (s : St) : St := rootL sk 0 s.fr s

def rowsOf : List PV → List Nat
  | [] => []
  | .row k :: r => k :: rowsOf r
  | _ :: r => rowsOf r
def rowsOfArgs : List SV → List Nat
  | [] => []
  | v :: r => (match v.parts with
    | some ps => rowsOf ps ++ rowsOfArgs r
    | none => rowsOfArgs r)

/-- Results of which the first is a slice that the call has made, and that is ours. -/
def ownOk : List Ty → Bool
  | .sl _ :: _ => true
  | _ => false
/-- Its elements, and the other results, hold no slices. -/
def ownFl : List Ty → Bool
  | .sl t :: r => noSl t && r.all noSl
  | _ => true
def ownR (k : Nat) : (rs : List Ty) → HL rs → Option (SV × HE)
  | [.sl t], x => some (.one (.row k), .row t x.1)
  | .sl t :: u :: r, x => some (.tup ((false, [.row k]) :: tupR (u :: r) x.2), .row t x.1)
  | _, _ => none
/-- A call by its contract; 'k': the name of what it makes. -/
def ctrS (c : Ctr) (k : Nat) (s : St) (args : List SV) (K : SV → St → Prop) : Prop :=
  bif c.own then
    bif ownOk c.rs && !(s.us k) then
      bif ownFl c.rs then (match rdArgs s true c.as args with
      | some x => (match ownR k c.rs (c.f x) with
        | some (v, he) => Holds (c.pre x) ∧ K v (s.new k he)
        | none => False)
      | none => False)
      else (match rowsOfArgs args with
      | [] => (match rdArgs s false c.as args with
        | some x => (match ownR k c.rs (c.f x) with
          | some (v, he) => Holds (c.pre x) ∧ K v (s.new k he)
          | none => False)
        | none => False)
      | _ => False)
    else False
  else bif c.rs.all noSl then
    (match rdArgs s true c.as args with
    | some x => Holds (c.pre x) ∧ K (resR c.rs (c.f x)) s
    | none => False)
  else
    (match rowsOfArgs args with
    | [] => (match rdArgs s false c.as args with
      | some x => Holds (c.pre x) ∧ K (resR c.rs (c.f x)) s
      | none => False)
    | _ => False)

/-- The function that an operation calls, and with what. -/
def callee? (s : St) : Op → Option (Nat × List SV)
  | .call c => (match c.callee with
    | .value x => (match ev s x with
      | .one (.con (.func (.func f) fs cs)) => bif fs.isEmpty && cs.isEmpty then some (f, c.args.toList.map (ev s)) else none
      | .one (.clo k) => (match s.hp k with
        | some (.clo f ps) => some (f, c.args.toList.map (ev s) ++ ps.map SV.one)
        | _ => none)
      | _ => none)
    | _ => none)
  | _ => none

/-- A call by its contract, as a step. -/
def ctrD (c : Ctr) (k : Nat) (s : St) (args : List SV) (d : Option Nat) : Res :=
  bif c.own then
    bif ownOk c.rs && !(s.us k) then
      bif ownFl c.rs then (match rdArgs s true c.as args with
      | some x => (match ownR k c.rs (c.f x) with
        | some (v, he) => some (some (Holds (c.pre x)), (s.new k he).put d v)
        | none => none)
      | none => none)
      else (match rowsOfArgs args with
      | [] => (match rdArgs s false c.as args with
        | some x => (match ownR k c.rs (c.f x) with
          | some (v, he) => some (some (Holds (c.pre x)), (s.new k he).put d v)
          | none => none)
        | none => none)
      | _ => none)
    else none
  else bif c.rs.all noSl then
    (match rdArgs s true c.as args with
    | some x => some (some (Holds (c.pre x)), s.put d (resR c.rs (c.f x)))
    | none => none)
  else
    (match rowsOfArgs args with
    | [] => (match rdArgs s false c.as args with
      | some x => some (some (Holds (c.pre x)), s.put d (resR c.rs (c.f x)))
      | none => none)
    | _ => none)
def callee1 (s : St) : Op → Option (Nat × List SV)
  | .call c => (match c.callee with
    | .value x => (match ev s x with
      | .one (.con (.func (.func g) fs cs)) => bif fs.isEmpty && cs.isEmpty then some (g, c.args.toList.map (ev s)) else none
      | _ => none)
    | _ => none)
  | _ => none
theorem callee1_some {s : St} {op : Op} {g : Nat} {args : List SV} (h : callee1 s op = some (g, args)) :
    ∃ c x, op = .call c ∧ c.callee = .value x ∧ args = c.args.toList.map (ev s) ∧ callee? s op = some (g, args) := by
  cases op with
  | call c =>
    simp only [callee1] at h
    cases hc : c.callee with
    | value x =>
      rw [hc] at h
      simp only [] at h
      split at h
      · rename_i g' fs cs hx
        cases hb : (fs.isEmpty && cs.isEmpty) with
        | false => rw [hb] at h; cases h
        | true =>
          rw [hb] at h
          simp only [cond_true, Option.some.injEq, Prod.mk.injEq] at h
          obtain ⟨rfl, rfl⟩ := h
          refine ⟨c, x, rfl, hc, rfl, ?_⟩
          simp only [callee?, hc, hx, hb, cond_true]
      · cases h
    | _ => rw [hc] at h; cases h
  | _ => simp [callee1] at h
/-- The arguments ahead of the last one, which is a function of the program. -/
def lastF : List SV → Option (Nat × List SV)
  | [] => none
  | x :: r => (match r with
    | [] => (match x with
      | .one (.con (.func (.func h) fs cs)) => bif fs.isEmpty && cs.isEmpty then some (h, []) else none
      | _ => none)
    | _ :: _ => (match lastF r with
      | some (h, l) => some (h, x :: l)
      | none => none))
def splitF (X : Fx) (g : Nat) (args : List SV) : Option (Ctr × List SV) := match lastF args with
  | some (h, l) => (match X.KF g h with
    | some c => some (c, l)
    | none => none)
  | none => none
/-- A slicing ahead of which a slice of our own becomes data. -/
def frzF (X : Fx) (f : Nat) (o : Oper) : Bool :=
  match o.op, o.dst with
  | .slice _ _ _ _ _, some d => X.wr f d
  | .move _, some d => X.wr f (23000000 + d)
  | _, _ => false
/-- What is made in a pool: its name. -/
def poolMark (X : Fx) (f : Nat) (d : Nat) : Option Nat :=
  bif X.wr f (20000000 + d) then some 0 else bif X.wr f (21000000 + d) then some 1 else bif X.wr f (22000000 + d) then some 2 else none
def poolM (X : Fx) (f : Nat) (o : Oper) : Bool := match o.dst with
  | some d => (poolMark X f d).isSome
  | none => false
def stepD (X : Fx) (f : Nat) (s : St) (k : Nat) (o : Oper) : Res :=
  match callee1 s o.op with
  | some (g, args) => (match X.K g with
    | some c => ctrD c k s args o.dst
    | none => (match splitF X g args with
      | some (c, l) => ctrD c k s l o.dst
      | none => none))
  | none => bif frzF X f o || poolM X f o then none else opS X.E (X.wr f) s k o

/-! ### What is done under a condition, without parting the way: its result is there only where the condition is true. -/
def gateV (want : Bool) : SV → Option Bool
  | .one (.d .bool b) => some (bif want then b else !b)
  | .cnd b1 (.d .bool u) => some (b1 && (bif want then u else !u))
  | _ => none
def andO : Option Prop → Option Prop → Option Prop
  | none, q => q
  | some p, none => some p
  | some p, some q => some (p ∧ q)
/-- The operands that are there only under conditions, taken as there. -/
def openS (s : St) : List Operand → St × Option Prop
  | [] => (s, none)
  | .tmp t :: r => (match lget s.fr t with
    | .cnd b p => (match openS (s.put (some t) (.one p)) r with
      | (s', C) => (s', andO (some (b = true)) C))
    | _ => openS s r)
  | _ :: r => openS s r
/-- It changes no name. -/
def lightO (X : Fx) (s : St) (k : Nat) (o : Oper) : Bool :=
  match callee1 s o.op with
  | some (g, _) => (match X.K g with
    | some c => !(c.own)
    | none => false)
  | none => (opW false s k o.op).isEmpty
def needOf : Op → List Operand
  | .pick c _ _ => [c]
  | o => opsOf o
def gop (X : Fx) (f : Nat) (s : St) (k : Nat) (o : Oper) (gb : Bool) : Option (Option Prop × St) :=
  match o.dst with
  | some d => (match openS s (needOf o.op) with
    | (s1, C) => bif lightO X s1 k o then (match stepD X f s1 k o with
      | some (p, s2) => (match lget s2.fr d with
        | .one q => (match andO C p with
          | some p => some (some (gb = true → p), s.put (some d) (.cnd gb q))
          | none => some (none, s.put (some d) (.cnd gb q)))
        | _ => none)
      | none => none) else none)
  | none => none

section
variable (X : Fx) (callK : Nat → Nat → List SV → St → (SV → St → Prop) → Prop) (f : Nat)

/-- x == nil, x != nil, of a slice: who knows? But nil has no elements. -/
def nilCmp? (E : Env) (s : St) : Op → Option (Bool × ((t : Ty) × List t.D))
  | .binOp op t x y _ => (match ev s y with
    | .one (.con (.slice none 0 0)) => bif isSliceT E t then (match op with
      | .eql => (match slD s (ev s x) with
        | some d => some (false, d)
        | none => none)
      | .neq => (match slD s (ev s x) with
        | some d => some (true, d)
        | none => none)
      | _ => none) else none
    | _ => none)
  | _ => none
/-- And what it holds at first. -/
def allocP? (s : St) (o : Oper) : Option (Nat × ((u : Ty) × u.D)) :=
  match o.dst with
  | none => none
  | some d => (match poolMark X f d with
    | none => none
    | some p => (match o.op with
      | .alloc e => (match X.E.info e with
        | some ⟨_, _, _, _, some u⟩ => some (p, ⟨u, u.zero⟩)
        | _ => none)
      | .box _ x => (match (ev s x).parts, X.E.info (match o.op with | .box e _ => e | _ => 0) with
        | some ps, some ⟨_, _, _, _, some u⟩ => (match rdAll u ps with
          | some y => some (p, ⟨u, y⟩)
          | none => none)
        | _, _ => none)
      | _ => none))
def castM (kk : IntKind) (t : Ty) (kk' : IntKind) (u : Ty) (xs : List (Int × t.D)) : Option (List (Int × u.D)) := if h : kk = kk' ∧ t = u then some (h.2 ▸ xs) else none
/-- It comes to lie wherever there is nothing of the pool yet. -/
def allocP (s : St) (d : Option Nat) (p : Nat) (u : Ty) (y : u.D) (K : St → Prop) : Prop :=
  match s.hp (poolN p) with
  | some (.pool t m) => (match castM .i64 t .i64 u m with
    | some m => ∀ a : Int, 0 ≤ a → mhas u m a = false → K ((s.upd (poolN p) (.pool u (mput u m a y))).put d (.one (.d (.ref p) a)))
    | none => False)
  | none => bif s.us (poolN p) then False else ∀ a : Int, 0 ≤ a → K ((s.new (poolN p) (.pool u [(a, y)])).put d (.one (.d (.ref p) a)))
  | _ => False
/-- An iteration over a map of our own begins. -/
def rangeM? (E : Env) (s : St) : Op → Option (Nat × IntKind × ((t : Ty) × List (Int × t.D)))
  | .range t x => (match mapTy? E t, ev s x with
    | some _, .one (.row k) => (match mapOf (s.hp k) with
      | some (kk, m) => some (k, kk, m)
      | none => none)
    | _, _ => none)
  | _ => none
/-- The next entry: whichever of those that are left. -/
def nextM? (s : St) : Op → Option (Nat × Nat × IntKind × ((t : Ty) × List (Int × t.D) × Nat × List (Int × t.D)))
  | .next x false => (match ev s x with
    | .one (.itr k r) => (match s.hp k with
      | some (.mapit kk t xs r' rem _) => some (k, r, kk, ⟨t, xs, r', rem⟩)
      | _ => none)
    | _ => none)
  | _ => none
def nextM (s : St) (d : Option Nat) (k r : Nat) (kk : IntKind) (t : Ty) (xs : List (Int × t.D)) (r' : Nat) (rem : List (Int × t.D)) (K : St → Prop) : Prop :=
  r = r' ∧ (rem = [] → K ((s.upd k (.map kk t xs)).put d (.tup [(false, [.lit false])]))) ∧
    ∀ (i : Nat) (e : Int × t.D), rem[i]? = some e → K ((s.upd k (.mapit kk t xs r' (rem.eraseIdx i) (some e))).put d (.tup [(false, [.lit true]), (false, [.d (.int kk) e.1]), (false, [.d t e.2])]))
/-- The entry that the iteration has come to. -/
def entryM? (s : St) : Op → Option (Nat × Nat × IntKind × ((t : Ty) × (Int × t.D)))
  | .entry x => (match ev s x with
    | .one (.itr k r) => (match s.hp k with
      | some (.mapit kk t _ r' _ (some e)) => some (r, r', kk, ⟨t, e⟩)
      | _ => none)
    | _ => none)
  | _ => none
/-- A slice of an array of slices of our own is taken out. -/
def orwAt (ps : List PV) (off : Nat) : Option (List PV × Nat × Nat × Option (Nat × Nat) × List PV) :=
  match takeN ps off with
  | some (pre, .orp ko n h :: post) => some (pre, ko, n, h, post)
  | _ => none
def orwBack (s : St) (u : Ty) (xss : List (List u.D)) : Option (Nat × Nat) → Option (St × List (List u.D))
  | none => some (s, xss)
  | some (i0, k0) => (match s.hp k0 with
    | some (.row u0 ys) => (match castD (.sl u0) (.sl u) ys with
      | some ys => some (s.drop k0, xss.set i0 ys)
      | none => none)
    | _ => none)
/-- The block, the array's place in it, and which cell of the array: of a pointer to an element, or to an element of an element. -/
def elA : SV → Option (Nat × Nat × Nat)
  | .one (.pel kb off _ sz i j) => some (kb, off, i * sz + j)
  | .one (.pea kb off _ sz i j _ sz' i' j') => some (kb, off, i * sz + (j + (i' * sz' + j')))
  | _ => none
def orwLoad (E : Env) (t : TypeId) (s : St) (k : Nat) (d : Option Nat) (x : SV) (K : St → Prop) : Prop :=
  bif !(isSliceT E t) then False else match elA x with
  | some (kb, off, idx) => (match s.hp kb with
    | some (.box ps) => (match orwAt ps off with
      | some (pre, ko, n, h, post) => (match s.hp ko with
        | some (.orw u xss) => bif s.us k || s.us (k + 500000000) || Nat.beq u.size 0 then False else (match orwBack s u xss h with
          | some (s1, xss1) => idx < n ∧
              K (((((s1.drop ko).new (k + 500000000) (.orw u (xss1.set (idx) []))).new k (.row u (xss1.getD (idx) []))).upd kb
                (.box (pre ++ (.orp (k + 500000000) n (some (idx, k)) :: post)))).put d (.one (.row k)))
          | none => False)
        | _ => False)
      | none => False)
    | _ => False)
  | none => False
/-- And one is put in. -/
def orwVal (s : St) (u : Ty) : SV → Option (St × List u.D)
  | .one (.con (.slice none 0 0)) => some (s, [])
  | .one (.row kv) => (match s.hp kv with
    | some (.row u2 ys) => (match castD (.sl u2) (.sl u) ys with
      | some ys => some (s.drop kv, ys)
      | none => none)
    | _ => none)
  | _ => none
def orwStore (E : Env) (t : TypeId) (s : St) (k : Nat) (x v : SV) (K : St → Prop) : Prop :=
  bif !(isSliceT E t) then False else match elA x with
  | some (kb, off, idx) => (match s.hp kb with
    | some (.box ps) => (match orwAt ps off with
      | some (pre, ko, n, h, post) => (match s.hp ko with
        | some (.orw u xss) => bif s.us k || Nat.beq u.size 0 then False else (match orwVal s u v with
          | some (s1, ys) => (match h with
              | none => idx < n
              | some (i0, _) => i0 = idx) ∧
              K ((((s1.drop ko).new k (.orw u (xss.set (idx) ys))).upd kb (.box (pre ++ (.orp k n none :: post)))))
          | none => False)
        | _ => False)
      | none => False)
    | _ => False)
  | none => False
def frzAll (s : St) : List Nat → St
  | [] => s
  | k :: r => frzAll (s.frz k) r
/-- Slices of our own that become data for good, ahead of an operation: what is given to a call that hands slices back; what is sliced where that is told. -/
def pre (s : St) (o : Oper) : St :=
  match callee? s o.op with
  | some (g, args) => (match X.K g with
    | some c => bif (bif c.own then !(ownFl c.rs) else !(c.rs.all noSl)) then frzAll s (rowsOfArgs args) else s
    | none => s)
  | none => (match o.op, o.dst with
    | .slice _ x _ _ _, some d => bif X.wr f d then frzAll s (rowsOfArgs [ev s x]) else s
    | .move x, some d => bif X.wr f (23000000 + d) then frzAll s (rowsOfArgs [ev s x]) else s
    | _, _ => s)
def op1c (s : St) (k : Nat) (o : Oper) (K : St → Prop) : Prop :=
  match rangeM? X.E s o.op with
  | some (j, kk, ⟨t, xs⟩) => ∀ r : Nat, K ((s.upd j (.mapit kk t xs r xs none)).put o.dst (.one (.itr j r)))
  | none => (match nextM? s o.op with
    | some (j, r, kk, ⟨t, xs, r', rem⟩) => nextM s o.dst j r kk t xs r' rem K
    | none => (match entryM? s o.op with
      | some (r, r', kk, ⟨t, e⟩) => r = r' ∧ K (s.put o.dst (.tup [(false, [.d (.int kk) e.1]), (false, [.d t e.2])]))
      | none => (match o.op with
        | .load t x => orwLoad X.E t s k o.dst (ev s x) K
        | .store t x y => orwStore X.E t s k (ev s x) (ev s y) (fun s => K (s.put o.dst (.one .any)))
        | _ => False)))
def op1b (s : St) (k : Nat) (o : Oper) (K : St → Prop) : Prop :=
  match callee? s o.op with
  | some (g, args) => callK k g args s (fun v s' => K (s'.put o.dst v))
  | none => bif poolM X f o then (match allocP? X f s o with
    | some (p, ⟨u, y⟩) => allocP s o.dst p u y K
    | none => False) else (match opS X.E (X.wr f) s k o with
    | some (some p, s') => p ∧ K s'
    | some (none, s') => K s'
    | none => (match nilCmp? X.E s o.op with
      | some (neg, ⟨_, xs⟩) => ∀ b : Bool, (b = true → xs = []) → K (s.put o.dst (.one (.d .bool (bif neg then !b else b))))
      | none => (match plook? X.E s o.op with
        | some (i, es, z) => lookG (fun p => K (s.put o.dst (.one p))) i z es
        | none => op1c X s k o K)))
def op1 (s : St) (k : Nat) (o : Oper) (K : St → Prop) : Prop := op1b X callK f (pre X f s o) k o K
/-- With what is there only under conditions taken as there. -/
def op1o (s : St) (k : Nat) (o : Oper) (K : St → Prop) : Prop :=
  match openS s (needOf o.op) with
  | (s1, none) => op1 X callK f s1 k o K
  | (s1, some C) => C ∧ op1 X callK f s1 k o K
def dstAt : List Oper → Nat → Option Nat
  | [], _ => none
  | o :: _, 0 => o.dst
  | _ :: r, n + 1 => dstAt r n
/-- Under a guard, at once; but for an operation that is marked: there both cases are looked at. -/
def gop1 (s : St) (k : Nat) (o : Oper) (gb : Bool) : Res := bif wrO (X.wr f) 10000000 o.dst then none else gop X f s k o gb
def ops (all : List Oper) (nb : Nat) : Nat → List Oper → St → (St → Prop) → Prop
  | _, [], s, K => K s
  | i, o :: r, s, K => (match o.guard with
    | none => op1 X callK f s (nb + i) o (fun s => ops all nb (i + 1) r s K)
    | some (j, want) => (match dstAt all j with
      | some d => (match lget s.fr d with
        | .one (.lit b) => bif Bool.xor b want then ops all nb (i + 1) r (s.put o.dst (.tup [])) K else op1o X callK f s (nb + i) o (fun s => ops all nb (i + 1) r s K)
        | .tup [] => ops all nb (i + 1) r (s.put o.dst (.tup [])) K
        | v => (match gateV want v with
          | some gb => (match gop1 X f s (nb + i) o gb with
            | some (some p, s') => p ∧ ops all nb (i + 1) r s' K
            | some (none, s') => ops all nb (i + 1) r s' K
            | none => (match v with
              | .one (.d .bool b) => (b = want → op1o X callK f (s.put (some d) (.one (.lit want))) (nb + i) o (fun s => ops all nb (i + 1) r s K)) ∧
                (b = !want → ops all nb (i + 1) r ((s.put (some d) (.one (.lit !want))).put o.dst (.tup [])) K)
              | _ => False))
          | none => False))
      | none => False))
end

/-! ### A region that draws its order. -/
/-- What an operation of the region looked at, and what it changed. -/
abbrev Rec := Nat × List Nat × List Nat
def mget : List Nat → Nat → Nat
  | [], _ => 0
  | m :: _, 0 => m
  | _ :: r, n + 1 => mget r n
def ord (ms : List Nat) (i j : Nat) : Bool := bif Nat.blt i j then Nat.testBit (mget ms j) i else Nat.testBit (mget ms i) j
def disj : List Nat → List Nat → Bool
  | [], _ => true
  | n :: r, l => bif memN' n l then false else disj r l
where memN' (n : Nat) : List Nat → Bool
  | [] => false
  | k :: r => bif Nat.beq n k then true else memN' n r
def chk (ms : List Nat) (i : Nat) (F W : List Nat) : List Rec → Bool
  | [] => true
  | (j, F', W') :: r => bif ord ms i j || (disj W' F && (disj W F' && disj W W')) then chk ms i F W r else false
def lzO (X : Fx) (f : Nat) (o : Oper) : Bool := wrO (X.wr f) 3000000 o.dst
def dgo (X : Fx) (f nb : Nat) (ms : List Nat) (i : Nat) (o : Oper) (acc : List Rec) (s : St) (rest : List Rec → St → Prop) : Prop :=
  match stepD X f s (nb + i) o with
  | some (pp, t) => bif chk ms i (opF s (nb + i) o.op) (opW (lzO X f o) s (nb + i) o.op) acc then (match pp with
    | some p => p ∧ rest ((i, opF s (nb + i) o.op, opW (lzO X f o) s (nb + i) o.op) :: acc) t
    | none => rest ((i, opF s (nb + i) o.op, opW (lzO X f o) s (nb + i) o.op) :: acc) t) else False
  | none => False
def dskip (ms : List Nat) (i : Nat) (o : Oper) (acc : List Rec) (s : St) (rest : List Rec → St → Prop) : Prop :=
  bif chk ms i [] [] acc then rest ((i, [], []) :: acc) (s.put o.dst (.tup [])) else False
def drun (X : Fx) (f nb : Nat) (all : List Oper) (ms : List Nat) : List (Nat × Oper) → List Rec → St → (St → Prop) → Prop
  | [], _, s, K => K s
  | (i, o) :: r, acc, s, K => (match o.guard with
    | none => dgo X f nb ms i o acc s (fun acc s => drun X f nb all ms r acc s K)
    | some (j, want) => (match dstAt all j with
      | some d => (match lget s.fr d with
        | .one (.lit b) => bif Bool.xor b want then dskip ms i o acc s (fun acc s => drun X f nb all ms r acc s K) else dgo X f nb ms i o acc s (fun acc s => drun X f nb all ms r acc s K)
        | .one (.d .bool b) => (b = want → dgo X f nb ms i o acc (s.put (some d) (.one (.lit want))) (fun acc s => drun X f nb all ms r acc s K)) ∧
            (b = !want → dskip ms i o acc (s.put (some d) (.one (.lit !want))) (fun acc s => drun X f nb all ms r acc s K))
        | .tup [] => dskip ms i o acc s (fun acc s => drun X f nb all ms r acc s K)
        | _ => False)
      | none => False))

/-- Which operations come ahead of which in every order. -/
def maskOf (ms : List Nat) : List Edge → Nat
  | [] => 0
  | e :: r => bif Region.binds .any e then Nat.lor (Nat.lor (maskOf ms r) (2 ^ e.on)) (mget ms e.on) else maskOf ms r
def masks : List Oper → List Nat → List Nat
  | [], ms => ms
  | o :: r, ms => masks r (ms ++ [maskOf ms o.after.toList])
def gslot (all : List Oper) (o : Oper) : Option Nat := match o.guard with
  | some (j, _) => dstAt all j
  | none => none
def readsT (d : Nat) : List Operand → Bool
  | [] => false
  | .tmp t :: r => bif Nat.beq d t then true else readsT d r
  | _ :: r => readsT d r
def noread (d : Option Nat) (l : List Operand) : Bool := match d with
  | some d => !(readsT d l)
  | none => true
def neO (x y : Option Nat) : Bool := match x, y with
  | some a, some b => !(Nat.beq a b)
  | _, _ => true
def sapart (all : List Oper) (y x : Oper) : Bool :=
  noread y.dst (opsOf x.op) && (noread x.dst (opsOf y.op) && (noread (gslot all y) (opsOf x.op) && (noread (gslot all x) (opsOf y.op) &&
    (neO y.dst x.dst && (neO y.dst (gslot all x) && neO x.dst (gslot all y))))))
def numbered : Nat → List Oper → List (Nat × Oper)
  | _, [] => []
  | i, o :: r => (i, o) :: numbered (i + 1) r
def statJ (all : List Oper) (ms : List Nat) (j : Nat) (x : Oper) : List (Nat × Oper) → Bool
  | [] => true
  | (i, y) :: r => bif Nat.blt i j then
      (bif (bif Nat.testBit (mget ms j) i then x.after.toList.any (fun e => Region.binds .any e && (Nat.beq e.on i || (Nat.blt i e.on && Nat.testBit (mget ms e.on) i))) else sapart all y x)
        then statJ all ms j x r else false)
    else true
def statOk (all : List Oper) (ms : List Nat) (ns : List (Nat × Oper)) : List (Nat × Oper) → Bool
  | [] => true
  | (j, x) :: r => bif x.after.toList.all (fun e => bif Region.binds .any e then Nat.blt e.on j else true) && statJ all ms j x ns then statOk all ms ns r else false
def drawn (X : Fx) (f : Nat) (os : List Oper) (s : St) (K : St → Prop) : Prop :=
  match numbered 0 os, masks os [] with
  | ns, ms => bif statOk os ms ns ns then drun X f s.nx os ms ns [] { s with nx := s.nx + os.length } K else False

/-! ### A region that draws its order, in which some operations come behind all ahead of them and ahead of all behind them. -/
def splitBar (bp : Oper → Bool) : List (Nat × Oper) → List (Nat × Oper) × Option ((Nat × Oper) × List (Nat × Oper))
  | [] => ([], none)
  | e :: r => bif bp e.2 then ([], some (e, r)) else (match splitBar bp r with
    | (a, b) => (e :: a, b))
def noG (o : Oper) : Bool := match o.guard with
  | none => true
  | some _ => false
def barOk (ms : List Nat) (l m : List (Nat × Oper)) (p : Nat) : Bool := l.all (fun e => Nat.testBit (mget ms p) e.1) && m.all (fun e => Nat.testBit (mget ms e.1) p)
/-- Such an operation; under a guard that is known. -/
def barGo (X : Fx) (callK : Nat → Nat → List SV → St → (SV → St → Prop) → Prop) (f nb : Nat) (all : List Oper) (e : Nat × Oper) (s : St) (rest : St → Prop) : Prop :=
  match e.2.guard with
  | none => op1 X callK f s (nb + e.1) e.2 rest
  | some (j, want) => (match dstAt all j with
    | some d => (match lget s.fr d with
      | .one (.lit b) => bif Bool.xor b want then rest (s.put e.2.dst (.tup [])) else op1 X callK f s (nb + e.1) e.2 rest
      | .tup [] => rest (s.put e.2.dst (.tup []))
      | _ => False)
    | none => False)
/-- What is told to be such an operation: by its slot; a store by its type. -/
def barM (X : Fx) (f : Nat) (o : Oper) : Bool := wrO (X.wr f) 8000000 o.dst || (match o.op with
  | .store t _ _ => X.wr f (29000000 + t)
  | _ => false)
/-- What is not bound to come ahead of it nor behind it: each way to have some of it ahead. -/
def putF (e : Nat × Oper) : List (List (Nat × Oper) × List (Nat × Oper)) → List (List (Nat × Oper) × List (Nat × Oper))
  | [] => []
  | q :: r => (e :: q.1, q.2) :: putF e r
def putB (e : Nat × Oper) : List (List (Nat × Oper) × List (Nat × Oper)) → List (List (Nat × Oper) × List (Nat × Oper))
  | [] => []
  | q :: r => (q.1, e :: q.2) :: putB e r
def mustA (ms : List Nat) (p : Nat) (e : Nat × Oper) : Bool := Nat.blt e.1 p && Nat.testBit (mget ms p) e.1
def mustB (ms : List Nat) (p : Nat) (e : Nat × Oper) : Bool := Nat.blt p e.1 && Nat.testBit (mget ms e.1) p
def splitsU (ms : List Nat) (p : Nat) : List (Nat × Oper) → List (List (Nat × Oper) × List (Nat × Oper))
  | [] => [([], [])]
  | e :: l => (match splitsU ms p l with
    | qs => bif mustA ms p e then putF e qs else bif mustB ms p e then putB e qs else putB e qs ++ putF e qs)
def okSp (ms : List Nat) (u b : List (Nat × Oper)) : Bool := u.all (fun e => b.all (fun e' => bif Nat.blt e'.1 e.1 then !(Nat.testBit (mget ms e.1) e'.1) else true))
def okUs (ms : List Nat) : List (List (Nat × Oper) × List (Nat × Oper)) → List (List (Nat × Oper) × List (Nat × Oper))
  | [] => []
  | q :: r => bif okSp ms q.1 q.2 then q :: okUs ms r else okUs ms r
def allO {α : Type} (f : α → Prop) : List α → Prop
  | [] => True
  | x :: r => f x ∧ allO f r
/-- There is one, and all are so. -/
def allS {α : Type} (f : α → Prop) : List α → Prop
  | [] => False
  | x :: r => f x ∧ allO f r
/-- An entry of a map that is made, and then stored to: three operations, each bound to come behind the one ahead. -/
def sameTmp : Operand → Operand → Bool
  | .tmp a, .tmp b => Nat.beq a b
  | _, _ => false
def offTmp (d1 d2 : Nat) : Operand → Bool
  | .tmp a => !(Nat.beq a d1) && !(Nat.beq a d2)
  | _ => true
def fuseM (ms : List Nat) (a : List (Nat × Oper)) (e : Nat × Oper) : List (Nat × Oper) → Option (TypeId × Operand × Operand × Operand × Nat × Nat)
  | [x, y] => (match e.2.op, e.2.dst, e.2.guard, x.2.op, x.2.dst, x.2.guard, y.2.op, y.2.dst, y.2.guard with
    | .mapEntry t m k, some d1, none, .extract (.tmp d1') 1, some d2, none, .entryStore t' m' (.tmp d2') v, none, none =>
      bif (Nat.beq d1 d1' && Nat.beq d2 d2') && ((Nat.beq t t' && sameTmp m m') && ((offTmp d1 d2 m && offTmp d1 d2 v) && (!(Nat.beq d1 d2) &&
        (a.all (fun q => Nat.testBit (mget ms e.1) q.1) && (Nat.testBit (mget ms x.1) e.1 && (Nat.testBit (mget ms y.1) e.1 && Nat.testBit (mget ms y.1) x.1)))))) then some (t, m, k, v, d1, d2) else none
    | _, _, _, _, _, _, _, _, _ => none)
  | _ => none
def mapSet (E : Env) (t : TypeId) (m k v : Operand) (d1 d2 : Nat) (s : St) (K : St → Prop) : Prop := bif !(Nat.blt d1 s.fr.length && Nat.blt d2 s.fr.length) then False else match ev s m with
  | .one (.row n) => (match mapOf (s.hp n) with
    | some _ => (match insertS E s t (ev s m) (ev s k) (ev s v) with
      | some (none, s') => K ((s'.put (some d1) (.one .any)).put (some d2) (.one .any))
      | some (some p, s') => p ∧ K ((s'.put (some d1) (.one .any)).put (some d2) (.one .any))
      | none => False)
    | none => False)
  | _ => False
def drunB (X : Fx) (callK : Nat → Nat → List SV → St → (SV → St → Prop) → Prop) (f nb : Nat) (all : List Oper) (ms : List Nat) : Nat → List (Nat × Oper) → St → (St → Prop) → Prop
  | 0, l, s, K => drun X f nb all ms l [] s K
  | n + 1, l, s, K => (match splitBar (barM X f) l with
    | (a, some (e, b)) => match fuseM ms a e b with
      | some (t, m, k, v, d1, d2) => drun X f nb all ms a [] s (fun s1 => mapSet X.E t m k v d1 d2 s1 K)
      | none => bif barOk ms a b e.1 then drun X f nb all ms a [] s (fun s1 => barGo X callK f nb all e s1 (fun s2 => drunB X callK f nb all ms n b s2 K)) else
        allS (fun q => drun X f nb all ms q.1 [] s (fun s1 => barGo X callK f nb all e s1 (fun s2 => drunB X callK f nb all ms n q.2 s2 K))) (okUs ms (splitsU ms e.1 (a ++ b)))
    | (_, none) => drun X f nb all ms l [] s K)
/-! ### Moves that may be run ahead of all else. -/
/-- What an operation gives that reads no memory and writes none, and what that asks. -/
def hoistV (E : Env) (s : St) (o : Oper) : Option (Option Prop × SV) := match o.op, o.guard with
  | .move x, none => some (none, ev s x)
  | .nilCheck x, none => (match ev s x with
    | .one (.ptr k off) => some (none, .one (.ptr k off))
    | .one (.pea k off n sz i j n' sz' i' j') => some (none, .one (.pea k off n sz i j n' sz' i' j'))
    | _ => none)
  | .fieldAddr t x i, none => (match field? E t i with
    | some (fo, fi) => bif Nat.beq fi.size 0 then none else (match ev s x with
      | .one (.ptr k off) => some (none, .one (.ptr k (off + fo)))
      | _ => none)
    | none => none)
  | .binOp .add _ x y _, none => (match asInt? (ev s x), asInt? (ev s y) with
    | some (k, m), some (k', n) => if k = k' then (match arith false .add k m n with
      | some (p, r) => some (p, .one (.d (.int k) r))
      | none => none) else none
    | _, _ => none)
  | _, _ => none
def hoistOk (all : List Oper) (listed : Array Bool) (i : Nat) (o : Oper) : Bool :=
  o.after.toList.all (fun e => !(Region.binds .any e) || listed.getD e.on false) && (Region.noSelect all.toArray && Region.free .any all.toArray listed i)
def hoistGo (X : Fx) (f : Nat) (all : List Oper) : List (Nat × Oper) → List (Nat × Oper) → Array Bool → St → (List (Nat × Oper) → St → Prop) → Prop
  | pre, [], _, s, K => K pre s
  | pre, (i, o) :: l, listed, s, K => bif wrO (X.wr f) 27000000 o.dst then (match hoistV X.E s o with
      | some (p, v) => bif hoistOk all listed i o then (match p with
          | none => hoistGo X f all pre l (listed.setIfInBounds i true) (s.put o.dst v) K
          | some q => q ∧ hoistGo X f all pre l (listed.setIfInBounds i true) (s.put o.dst v) K) else False
      | none => False)
    else hoistGo X f all (pre ++ [(i, o)]) l listed s K
def drawnB (X : Fx) (callK : Nat → Nat → List SV → St → (SV → St → Prop) → Prop) (f : Nat) (os : List Oper) (s : St) (K : St → Prop) : Prop :=
  match numbered 0 os, masks os [] with
  | ns, ms => bif statOk os ms ns ns then hoistGo X f os [] ns (Array.replicate os.length false) { s with nx := s.nx + os.length } (fun rest s1 => drunB X callK f s.nx os ms os.length rest s1 K) else False

def rowNames (s : St) : Nat → List Nat
  | 0 => []
  | n + 1 => (match s.hp n with
    | some (.row _ _) => n :: rowNames s n
    | _ => rowNames s n)
/-- The first region's number: a loop's or a sequence's name. -/
def rid : Code → Nat
  | .region id _ _ => id
  | .seq a b => (match a with
    | .skip => rid b
    | .label _ => rid b
    | _ => rid a)
  | .block _ b => rid b
  | .loop b => rid b
  | .scope b => rid b
  | _ => 1000000

/-! ### The state of an invariant, and when a state is one of it. -/
def assoc : List (Nat × HE) → Nat → Option HE
  | [], _ => none
  | (k, h) :: r, n => bif Nat.beq n k then some h else assoc r n
def setSlots : List SV → List (Nat × SV) → List SV
  | fr, [] => fr
  | fr, (d, v) :: r => setSlots (lset fr d v) r
def anys : List SV → List SV
  | [] => []
  | _ :: r => .one .any :: anys r
def okPV (v : Inv) : PV → Bool
  | .row k => (assoc v.heap k).isSome
  | .ptr k _ => (assoc v.heap k).isSome
  | .clo k => (assoc v.heap k).isSome
  | .rel k _ _ _ => (assoc v.heap k).isSome
  | .pel k _ _ _ _ _ => (assoc v.heap k).isSome
  | .any => true
  | .d _ _ => true
  | .lit _ => true
  | .con _ => true
  | .itr _ _ => true
  | .opt _ _ _ => true
  | .orp k _ none => (assoc v.heap k).isSome
  | _ => false
def okPs (v : Inv) : List PV → Bool
  | [] => true
  | p :: ps => bif okPV v p then okPs v ps else false
def okSV (v : Inv) : SV → Bool
  | .one p => okPV v p
  | .agg ps => okPs v ps
  | .tup [] => true
  | _ => false
/-- What is kept of the callers' slots. -/
def filt (v : Inv) : List SV → List SV
  | [] => []
  | x :: r => (bif okSV v x then x else .one .any) :: filt v r
def Inv.st (s : St) (v : Inv) : St :=
  { fr := setSlots (anys s.fr) v.slots, hp := assoc v.heap, us := fun n => (assoc v.heap n).isSome, nx := v.nx, bk := filt v s.bk }

/-- Which name of the state stands for which name of the invariant. -/
abbrev Ren := List (Nat × Nat)
def Ren.at (σ : Ren) (n : Nat) : Nat := match σ with
  | [] => n
  | (k, j) :: r => bif Nat.beq n k then j else Ren.at r n
def Ren.has (σ : Ren) (n : Nat) : Bool := match σ with
  | [] => false
  | (k, _) :: r => bif Nat.beq n k then true else Ren.has r n
def Ren.add (σ : Ren) (k j : Nat) : Ren := bif Ren.has σ k then σ else (k, j) :: σ
def mPV (σ : Ren) : PV → PV → Ren
  | .row j, .row k => σ.add k j
  | .ptr j _, .ptr k _ => σ.add k j
  | .clo j, .clo k => σ.add k j
  | .pel j _ _ _ _ _, .pel k _ _ _ _ _ => σ.add k j
  | .rel j _ _ _, .rel k _ _ _ => σ.add k j
  | .orp j _ _, .orp k _ _ => σ.add k j
  | _, _ => σ
def mPs : Ren → List PV → List PV → Ren
  | σ, p :: ps, q :: qs => mPs (mPV σ p q) ps qs
  | σ, _, _ => σ
def mSV (σ : Ren) : SV → SV → Ren
  | .one p, .one q => mPV σ p q
  | .agg ps, .agg qs => mPs σ ps qs
  | _, _ => σ
def mSlots (s : St) : Ren → List (Nat × SV) → Ren
  | σ, [] => σ
  | σ, (d, v) :: r => mSlots s (mSV σ (lget s.fr d) v) r
def mHeap (s : St) : Ren → List (Nat × HE) → Ren
  | σ, [] => σ
  | σ, (k, .box qs) :: r => (match s.hp (σ.at k) with
    | some (.box ps) => mHeap s (mPs σ ps qs) r
    | _ => mHeap s σ r)
  | σ, (k, .clo _ qs) :: r => (match s.hp (σ.at k) with
    | some (.clo _ ps) => mHeap s (mPs σ ps qs) r
    | _ => mHeap s σ r)
  | σ, _ :: r => mHeap s σ r
/-- A nil slice that the invariant calls a slice of our own gets a name. -/
def nilSlots (s : St) (v : Inv) : Nat → List (Nat × SV) → St
  | _, [] => s
  | j, (d, .one (.row k)) :: r => (match lget s.fr d, assoc v.heap k with
    | .one (.con (.slice none 0 0)), some (.row t _) => bif s.us j then nilSlots s v (j + 1) r else nilSlots ((s.new j (.row t [])).put (some d) (.one (.row j))) v (j + 1) r
    | _, _ => nilSlots s v j r)
  | j, _ :: r => nilSlots s v j r
/-- The same for the parts of a box. -/
def nilPs (s : St) (v : Inv) (k : Nat) (pre : List PV) (j : Nat) : List PV → List PV → St
  | p :: ps, q :: qs => (match p, q with
    | .con (.slice none 0 0), .row n => (match assoc v.heap n with
      | some (.row t _) => bif s.us j then s else nilPs ((s.new j (.row t [])).upd k (.box (pre ++ (.row j :: ps)))) v k (pre ++ [.row j]) (j + 1) ps qs
      | _ => nilPs s v k (pre ++ [p]) j ps qs)
    | _, _ => nilPs s v k (pre ++ [p]) j ps qs)
  | _, _ => s
def nilHeap (s : St) (v : Inv) : Nat → List (Nat × HE) → St
  | _, [] => s
  | j, (k, .box qs) :: r => (match s.hp k with
    | some (.box ps) => nilHeap (nilPs s v k [] j ps qs) v (j + qs.length) r
    | _ => nilHeap s v j r)
  | j, _ :: r => nilHeap s v j r

def isNil : Value → Bool
  | .slice none 0 0 => true
  | _ => false
/-- A slice that was taken out of an array of slices of our own is put back. -/
def packPs (s : St) (k j : Nat) (pre : List PV) : List PV → St
  | [] => s
  | q :: post => (match q with
    | .orp ko n (some (i0, k0)) => (match s.hp ko with
      | some (.orw u xss) => bif s.us j then s else (match orwBack s u xss (some (i0, k0)) with
        | some (s1, xss1) => ((s1.drop ko).new j (.orw u xss1)).upd k (.box (pre ++ (.orp j n none :: post)))
        | none => s)
      | _ => s)
    | _ => packPs s k j (pre ++ [q]) post)
/-- Slices that are nil, one behind the other, become an array of slices of our own where that is asked. -/
def takeNil : Nat → List PV → Option (List PV)
  | 0, ps => some ps
  | n + 1, p :: ps => (match p with
    | .con v => bif isNil v then takeNil n ps else none
    | _ => none)
  | _ + 1, [] => none
def packNil (s : St) (k j : Nat) (r : List (Nat × HE)) : List PV → List PV → List PV → St
  | _, _, [] => s
  | pre, ps, q :: qs => (match q with
    | .orp j' n none => (match assoc r j', takeNil n ps with
      | some (.orw t _), some post => bif s.us j then s else (s.new j (.orw t (List.replicate n []))).upd k (.box (pre ++ (.orp j n none :: post)))
      | _, _ => s)
    | _ => (match ps with
      | p :: ps => packNil s k j r (pre ++ [p]) ps qs
      | [] => s))
def packNilAt (s : St) (k j : Nat) (r : List (Nat × HE)) (qs : List PV) : St := match s.hp k with
  | some (.box ps) => packNil s k j r [] ps qs
  | _ => s
def packHeap (s : St) : Nat → List (Nat × HE) → St
  | _, [] => s
  | j, (k, .box qs) :: r => (match s.hp k with
    | some (.box ps) => packHeap (packNilAt (packPs s k j [] ps) k (j + 300000) r qs) (j + 1) r
    | _ => packHeap s j r)
  | j, (k, .pool t _) :: r => (match s.hp k with
    | none => bif s.us k then packHeap s j r else packHeap (s.new k (.pool t [])) j r
    | _ => packHeap s j r)
  | j, _ :: r => packHeap s j r
def isNilP : Value → Bool
  | .pointer none => true
  | _ => false
def isNilI : Value → Bool
  | .nilIface => true
  | _ => false
/-- Two names are one: told by the machine. -/
def eqN (a b : Nat) : Prop := match Nat.beq a b with
  | true => True
  | false => False
def leNil (v : Value) : (t : Ty) → t.D → Prop
  | .sl _, y => (match isNil v with
    | true => y = []
    | false => False)
  | .ref _, y => (match isNilP v with
    | true => (y : Int) = -1
    | false => False)
  | .err, y => (match isNilI v with
    | true => (y : Bool) = false
    | false => False)
  | _, _ => False
def leRef (p : Nat) (a : Int) (off : Nat) : (t : Ty) → t.D → Prop
  | .ref q, y => eqN p q ∧ eqN off 0 ∧ a = y
  | _, _ => False
def leLit (b : Bool) : (t : Ty) → t.D → Prop
  | .bool, c => b = c
  | _, _ => False
def leD (t : Ty) (x : t.D) (u : Ty) (y : u.D) : Prop := match castD t u x with
  | some x' => x' = y
  | none => False
def lePV (σ : Ren) (p q : PV) : Prop :=
  match q with
  | .any => (match p.agg with
    | true => False
    | false => True)
  | .row k => (match p with
    | .row j => eqN (σ.at k) j
    | _ => False)
  | .ptr k o' => (match p with
    | .ptr j o => eqN (σ.at k) j ∧ eqN o o'
    | _ => False)
  | .clo k => (match p with
    | .clo j => eqN (σ.at k) j
    | _ => False)
  | .lit c => (match p with
    | .lit b => b = c
    | _ => False)
  | .con u => (match p with
    | .con v => v = u
    | _ => False)
  | .d u y => (match p with
    | .d t x => leD t x u y
    | .lit b => leLit b u y
    | .con v => leNil v u y
    | .opt q a off => leRef q a off u y
    | _ => False)
  | .itr k r => (match p with
    | .itr k' r' => eqN (σ.at k) k' ∧ r' = r
    | _ => False)
  | .opt q a off => (match p with
    | .opt q' a' off' => (eqN q' q ∧ eqN off' off) ∧ a' = a
    | _ => False)
  | .orp k n h => (match h with
    | some _ => False
    | none => (match p with
      | .orp k' n' none => eqN (σ.at k) k' ∧ eqN n' n
      | _ => False))
  | .rel k sz i j => (match p with
    | .rel k' sz' i' j' => (eqN (σ.at k) k' ∧ (eqN sz' sz ∧ eqN j' j)) ∧ i' = i
    | _ => False)
  | .pel k off n sz i j => (match p with
    | .pel k' off' n' sz' i' j' => (eqN (σ.at k) k' ∧ (eqN off' off ∧ (eqN n' n ∧ (eqN sz' sz ∧ eqN j' j)))) ∧ i' = i
    | _ => False)
  | _ => False
def lePs (σ : Ren) : List PV → List PV → Prop
  | [], [] => True
  | p :: ps, q :: qs => lePV σ p q ∧ lePs σ ps qs
  | _, _ => False
def leSV (σ : Ren) : SV → SV → Prop
  | _, .one .any => True
  | .one p, .one q => lePV σ p q
  | .agg ps, .agg qs => lePs σ ps qs
  | .one p, .agg qs => (match p.agg with
    | true => lePs σ p.parts qs
    | false => False)
  | .tup [], .tup [] => True
  | _, _ => False
def leHE (σ : Ren) : HE → HE → Prop
  | .box ps, .box qs => lePs σ ps qs
  | .clo f ps, .clo g qs => eqN f g ∧ lePs σ ps qs
  | .row t xs, .row u ys => (match castD (.sl t) (.sl u) xs with
    | some xs' => xs' = ys
    | none => False)
  | .map kk t xs, .map kk' u ys => (match castM kk t kk' u xs with
    | some xs' => xs' = ys
    | none => False)
  | .mapit kk t xs _ _ _, .map kk' u ys => (match castM kk t kk' u xs with
    | some xs' => xs' = ys
    | none => False)
  | .mapit kk t xs r rem _, .mapit kk' u ys r' rem' none => (match castM kk t kk' u xs, castM kk t kk' u rem with
    | some xs', some rem'' => r = r' ∧ xs' = ys ∧ rem'' = rem'
    | _, _ => False)
  | .pool t m, .pool u m' => (match castM .i64 t .i64 u m with
    | some m'' => m'' = m'
    | none => False)
  | .orw t xss, .orw u yss => (match castD (.sl (.sl t)) (.sl (.sl u)) xss with
    | some xss' => xss' = yss
    | none => False)
  | _, _ => False
def leSlots (σ : Ren) (s : St) : List (Nat × SV) → Prop
  | [] => True
  | (d, v) :: r => leSV σ (lget s.fr d) v ∧ leSlots σ s r
def leHeap (σ : Ren) (s : St) : List (Nat × HE) → Prop
  | [] => True
  | (k, h) :: r => (match s.hp (σ.at k) with
    | some h' => leHE σ h' h
    | none => False) ∧ leHeap σ s r
def memN (n : Nat) : List Nat → Bool
  | [] => false
  | k :: r => bif Nat.beq n k then true else memN n r
/-- No two names of the invariant stand for one; each slot and each name is told once; whatever is named is there. -/
def injN (σ : Ren) : List (Nat × HE) → List Nat → Bool
  | [], _ => true
  | (k, _) :: r, seen => bif memN (σ.at k) seen then false else injN σ r (σ.at k :: seen)
def okSlots (v : Inv) : List (Nat × SV) → List Nat → Bool
  | [], _ => true
  | (d, x) :: r, seen => bif memN d seen then false else bif okSV v x then okSlots v r (d :: seen) else false
def okHeap (v : Inv) : List (Nat × HE) → List Nat → Bool
  | [], _ => true
  | (k, .box ps) :: r, seen => bif memN k seen then false else bif okPs v ps then okHeap v r (k :: seen) else false
  | (k, .clo _ ps) :: r, seen => bif memN k seen then false else bif okPs v ps then okHeap v r (k :: seen) else false
  | (k, .row _ _) :: r, seen => bif memN k seen then false else okHeap v r (k :: seen)
  | (k, .map _ _ _) :: r, seen => bif memN k seen then false else okHeap v r (k :: seen)
  | (k, .mapit _ _ _ _ _ _) :: r, seen => bif memN k seen then false else okHeap v r (k :: seen)
  | (k, .pool _ _) :: r, seen => bif memN k seen then false else okHeap v r (k :: seen)
  | (k, .orw _ _) :: r, seen => bif memN k seen then false else okHeap v r (k :: seen)
  | (_, .pmap _ _) :: _, _ => false
def leBk (σ : Ren) : List SV → List SV → Prop
  | [], [] => True
  | x :: r, y :: q => leSV σ x y ∧ leBk σ r q
  | _, _ => False
def sameLen : List SV → List SV → Bool
  | [], [] => true
  | _ :: r, _ :: q => sameLen r q
  | _, _ => false
/-- The state s is one of the invariant's, whose own state is i. -/
def le (s : St) (v : Inv) (i : St) : Prop :=
  match nilHeap (nilSlots (packHeap s (s.nx + 1000000) v.heap) v s.nx v.slots) v (s.nx + v.slots.length) v.heap with
  | s' => (match mHeap s' (mHeap s' (mSlots s' [] v.slots) v.heap) v.heap with
    | σ => bif sameLen s'.fr i.fr && injN σ v.heap [] && okSlots v v.slots [] && okHeap v v.heap [] then leSlots σ s' v.slots ∧ (leHeap σ s' v.heap ∧ (match i.bk with
      | [] => True
      | y :: q => leBk σ s'.bk (y :: q))) else False)

/-- The state s is one of the annotation's, begun at s0, whose ghost meets R. -/
def into (an : Ann) (s0 s : St) (R : an.G → Prop) : Prop :=
  match an.pick s0 s with
  | some g => (an.ok s0 g ∧ R g) ∧ le s (an.inv s0 g) (Inv.st s0 (an.inv s0 g))
  | none => ∃ g, ((an.ok s0 g ∧ an.lens g) ∧ R g) ∧ le s (an.inv s0 g) (Inv.st s0 (an.inv s0 g))

/-- The state is one of some annotation's: of the only one, or of one of several. -/
def intoAny (s0 s : St) : List Ann → Prop
  | [] => False
  | an :: r => (match r with
    | [] => into an s0 s (fun _ => True)
    | _ :: _ => into an s0 s (fun _ => True) ∨ intoAny s0 s r)
def fromAll (s0 : St) (k : St → Prop) : List Ann → Prop
  | [] => True
  | an :: r => (match r with
    | [] => ∀ g, an.ok s0 g → an.lens g → k (Inv.st s0 (an.inv s0 g))
    | _ :: _ => (∀ g, an.ok s0 g → an.lens g → k (Inv.st s0 (an.inv s0 g))) ∧ fromAll s0 k r)

section
variable (X : Fx) (callK : Nat → Nat → List SV → St → (SV → St → Prop) → Prop) (f : Nat)

def code : Code → St → (AEx → St → Prop) → Prop
  | .skip, s, Q => Q .normal s
  | .label _, s, Q => Q .normal s
  | .region id os draw, s, Q => (bif draw then (bif X.wr f (9000000 + id) then drawnB X callK f os.toList s (Q .normal) else
      drawn X f os.toList (bif X.wr f (2000000 + id) then frzAll s (rowNames s s.nx) else s) (fun s => Q .normal (bif X.wr f (4000000 + id) then rootAll (fun i => X.wr f (7000000 + i)) s else s))) else
      ops X callK f os.toList s.nx 0 os.toList { s with nx := s.nx + os.toList.length } (fun s => Q .normal (bif X.wr f (4000000 + id) then rootAll (fun i => X.wr f (7000000 + i)) s else s)))
  | .seq a b, s, Q => (match X.cuts f (rid b) with
    | [] => code a s (fun e s' => match e with
      | .normal => code b s' Q
      | .exit id => Q (.exit id) s'
      | .ret => Q .ret s')
    | an :: r => code a s (fun e s' => match e with
      | .normal => intoAny s s' (an :: r)
      | .exit id => Q (.exit id) s'
      | .ret => Q .ret s') ∧ fromAll s (fun s1 => code b s1 Q) (an :: r))
  | .cond c x y, s, Q => (match ev s c with
    | .one (.lit b) => bif b then code x s Q else code y s Q
    | .one (.d .bool b) => (match c with
      | .tmp d => (b = true → code x (s.put (some d) (.one (.lit true))) Q) ∧ (b = false → code y (s.put (some d) (.one (.lit false))) Q)
      | _ => False)
    | _ => False)
  | .block id c, s, Q => code c s (fun e s' => match e with
    | .normal => Q .normal s'
    | .exit id' => bif Nat.beq id' id then Q .normal s' else Q (.exit id') s'
    | .ret => Q .ret s')
  | .loop c, s, Q => (match X.loops f (rid c) with
    | none => False
    | some an => into an s s (fun _ => True) ∧ ∀ g, an.ok s g → an.lens g → code c (Inv.st s (an.inv s g)) (fun e s' => match e with
      | .normal => into an s s' (fun g' => an.m s g' < an.m s g)
      | .exit id => Q (.exit id) s'
      | .ret => Q .ret s'))
  | .exit id, s, Q => Q (.exit id) s
  | .ret, s, Q => Q .ret s
  | _, _, _ => False
end

def resPart (E : Env) (s : St) : ResultVar → Option SV
  | .tmp t => some (lget s.fr t)
  | .cell a t => (match E.info t, locS s (lget s.fr a) with
    | some ti, some (ps, j) => (match cut3 ps j ti.size with
      | some (_, m, _) => mkSV ti.kind.agg m
      | none => none)
    | _, _ => none)
def resParts (E : Env) (s : St) : List ResultVar → Option (List SV)
  | [] => some []
  | r :: rs => (match resPart E s r with
    | some v => (match resParts E s rs with
      | some vs => some (v :: vs)
      | none => none)
    | none => none)
def tupOf : List SV → Option (List (Bool × List PV))
  | [] => some []
  | .one .any :: _ => none
  | .one p :: r => (match tupOf r with
    | some es => some ((p.agg, [p]) :: es)
    | none => none)
  | .agg ps :: r => (match tupOf r with
    | some es => some ((true, ps) :: es)
    | none => none)
  | _ => none
/-- A function's results, when it returns. -/
def resS (E : Env) (s : St) (rs : List ResultVar) : Option SV :=
  match resParts E s rs with
  | some [v] => some v
  | some vs => (match tupOf vs with
    | some es => some (.tup es)
    | none => none)
  | none => none

def pad : Nat → List SV
  | 0 => []
  | n + 1 => .one .any :: pad n
def lenLe : List SV → List SV → Bool
  | [], _ => true
  | _ :: r, _ :: q => lenLe r q
  | _, _ => false
def takeL : List SV → List SV → List SV
  | _ :: r, x :: q => x :: takeL r q
  | _, _ => []
def dropL : List SV → List SV → List SV
  | _ :: r, _ :: q => dropL r q
  | _, q => q
/-! ### Calls of functions that change memory of ours. -/
def blank (n : Nat) : St := { fr := pad n, hp := fun _ => none, us := fun _ => false, nx := 0, bk := [] }
def Prc.st (p : Prc) (x : p.G) : St := Inv.st (blank p.n) (p.inv x)
def hpOf (l : List (Nat × HE)) : St := { fr := [], hp := assoc l, us := fun n => (assoc l n).isSome, nx := 0, bk := [] }
/-- What a name's own value is kept by. -/
def trkHE (k : Nat) : HE → Option PV
  | .box _ => some (.ptr k 0)
  | .row _ _ => some (.row k)
  | .map _ _ _ => some (.row k)
  | .clo _ _ => some (.clo k)
  | _ => none
def trks : List (Nat × HE) → List (Nat × PV)
  | [] => []
  | (k, h) :: r => (match trkHE k h with
    | some p => (k, p) :: trks r
    | none => trks r)
def trkd (l : List (Nat × PV)) (k : Nat) : Bool := match l with
  | [] => false
  | (j, _) :: r => bif Nat.beq k j then true else trkd r k
def trkSVs : List (Nat × PV) → List SV
  | [] => []
  | (_, p) :: r => .one p :: trkSVs r
def enumS : Nat → List SV → List (Nat × SV)
  | _, [] => []
  | i, v :: r => (i, v) :: enumS (i + 1) r
def padTo : Nat → List SV → List SV
  | 0, _ => []
  | n + 1, [] => .one .any :: padTo n []
  | n + 1, x :: r => x :: padTo n r
/-- Parts that may be told to the caller in its own names. -/
def simpP (l : List (Nat × PV)) : PV → Bool
  | .any => true
  | .d _ _ => true
  | .lit _ => true
  | .con _ => true
  | .row k => trkd l k
  | .ptr k _ => trkd l k
  | .clo k => trkd l k
  | _ => false
def simpPs (l : List (Nat × PV)) : List PV → Bool
  | [] => true
  | p :: r => bif simpP l p then simpPs l r else false
def simpHE (l : List (Nat × PV)) : HE → Bool
  | .box ps => simpPs l ps
  | .clo _ ps => simpPs l ps
  | .row _ _ => true
  | .map _ _ _ => true
  | .pool _ _ => true
  | _ => false
def simpH (l : List (Nat × PV)) : List (Nat × HE) → Bool
  | [] => true
  | (_, h) :: r => bif simpHE l h then simpH l r else false
/-- Each name is told once. -/
def distN : List (Nat × HE) → Bool
  | [] => true
  | (k, _) :: r => (match assoc r k with
    | none => distN r
    | some _ => false)
/-- The same names, of the same kinds. -/
def sameNms : List (Nat × HE) → List (Nat × HE) → Bool
  | [], [] => true
  | (k, h) :: r, (j, h') :: q => bif Nat.beq k j then (match trkHE k h, trkHE j h' with
    | some _, some _ => sameNms r q
    | none, none => sameNms r q
    | _, _ => false) else false
  | _, _ => false
def PV.ren (σ : Ren) : PV → PV
  | .row k => .row (σ.at k)
  | .ptr k o => .ptr (σ.at k) o
  | .clo k => .clo (σ.at k)
  | p => p
def HE.ren (σ : Ren) : HE → HE
  | .box ps => .box (ps.map (PV.ren σ))
  | .clo f ps => .clo f (ps.map (PV.ren σ))
  | h => h
/-- The memory that was given, as it is behind the call. -/
def over (σ : Ren) (hp : Nat → Option HE) : List (Nat × HE) → Nat → Option HE
  | [] => hp
  | (k, h) :: r => fun n => bif Nat.beq n (σ.at k) then some (h.ren σ) else over σ hp r n
def prcS (p : Prc) (args : List SV) (s : St) (K : SV → St → Prop) : Prop :=
  match p.pick { s with fr := args, bk := s.fr ++ s.bk } with
  | some g => bif p.rs.all noSl then Holds (p.pre g) ∧
    (match p.inv g, p.inv (p.f g).1 with
    | v, v' => (match nilHeap (nilSlots (packHeap { s with fr := args, bk := s.fr ++ s.bk } (s.nx + 1000000) v.heap) v s.nx v.slots) v (s.nx + v.slots.length) v.heap with
      | s' => (match mHeap s' (mHeap s' (mSlots s' [] v.slots) v.heap) v.heap with
        | σ => bif sameLen s'.fr (anys (pad p.n)) && (injN σ v.heap [] && (okSlots v v.slots [] && (okHeap v v.heap [] && (simpH (trks v.heap) v'.heap && (sameNms v.heap v'.heap && lenLe s.fr s'.bk))))) then
            (leSlots σ s' v.slots ∧ leHeap σ s' v.heap) ∧ K (resR p.rs (p.f g).2) { s' with fr := takeL s.fr s'.bk, bk := dropL s.fr s'.bk, hp := over σ s'.hp v'.heap } else False))) else False
  | none => False
/-- A name's block is of a slice of our own. -/
def isRow : Option HE → Bool
  | some (.row _ _) => true
  | _ => false
def dropN (hp : Nat → Option HE) (k : Nat) : Nat → Option HE := fun n => bif Nat.beq n k then none else hp n
/-- A call that may put a slice of ours elsewhere, and hands it back: it gets a new name, k. -/
def prcO (p : Prc) (n0 k : Nat) (args : List SV) (s : St) (K : SV → St → Prop) : Prop :=
  match p.pick { s with fr := args, bk := s.fr ++ s.bk } with
  | some g => Holds (p.pre g) ∧
    (match p.inv g, p.inv (p.f g).1 with
    | v, v' => (match nilHeap (nilSlots (packHeap { s with fr := args, bk := s.fr ++ s.bk } (s.nx + 1000000) v.heap) v s.nx v.slots) v (s.nx + v.slots.length) v.heap with
      | s' => (match mHeap s' (mHeap s' (mSlots s' [] v.slots) v.heap) v.heap with
        | σ => bif (isRow (assoc v'.heap n0) && !(s'.us k)) && (sameLen s'.fr (anys (pad p.n)) && (injN σ v.heap [] && (okSlots v v.slots [] && (okHeap v v.heap [] && (simpH (trks v.heap) v'.heap && (sameNms v.heap v'.heap && lenLe s.fr s'.bk)))))) then
            (leSlots σ s' v.slots ∧ leHeap σ s' v.heap) ∧ K (.one (.row k)) { s' with fr := takeL s.fr s'.bk, bk := dropL s.fr s'.bk, us := uset s'.us k, hp := over ((n0, k) :: σ) (dropN s'.hp (σ.at n0)) v'.heap } else False)))
  | none => False
/-- Constant functions of the program. -/
def constFs : List SV → Option (List Nat)
  | [] => some []
  | .one (.con (.func (.func h) fs cs)) :: r => bif fs.isEmpty && cs.isEmpty then (match constFs r with
    | some l => some (h :: l)
    | none => none) else none
  | _ => none
/-- A call that is given nil, or a closure that has caught a box of data: the contract that speaks of just that, and the data. -/
def splitX (X : Fx) (s : St) (g : Nat) (args : List SV) : Option (Ctr × List SV) := match args with
  | .one (.con (.slice none 0 0)) :: r => (match X.KN g with
    | some c => some (c, r)
    | none => none)
  | .one (.clo k) :: r => (match s.hp k with
    | some (.clo h [.ptr b 0]) => (match s.hp b with
      | some (.box [p]) => bif p.agg then none else (match constFs r with
        | some fs => (match X.KC g h fs with
          | some c => some (c, [.one p])
          | none => none)
        | none => none)
      | _ => none)
    | _ => none)
  | _ => none
/-- A call: by its contract, else by its text, 'n' deep at most. -/
def call (X : Fx) : Nat → Nat → Nat → List SV → St → (SV → St → Prop) → Prop
  | n, k, g, args, s, K => (match X.K g with
    | some c => ctrS c k s args K
    | none => (match splitF X g args with
    | some (c, l) => ctrS c k s l K
    | none => (match splitX X s g args with
    | some (c, l) => ctrS c k s l K
    | none => (match X.PR g with
    | some p => prcS p args s K
    | none => (match X.PO g with
    | some q => prcO q.1 q.2 k args s K
    | none => (match n with
      | 0 => False
      | n + 1 => (match X.fn g with
        | some fn => (match fn.body with
          | some c => bif Nat.ble args.length fn.ntmps then
              code X (call X n) g c { s with fr := args ++ pad (fn.ntmps - args.length), bk := s.fr ++ s.bk } (fun e s' => match e with
                | .exit _ => False
                | _ => (match resS X.E s' fn.results.toList with
                  | some v => bif lenLe s.fr s'.bk then K v { s' with fr := takeL s.fr s'.bk, bk := dropL s.fr s'.bk } else False
                  | none => False)) else False
          | none => False)
        | none => False)))))))

/-- A function against a contract: run from its arguments' data. -/
def argsV : (as : List Ty) → HL as → List SV
  | [], _ => []
  | t :: ts, x => .one (.d t x.1) :: argsV ts x.2
def start (n : Nat) (args : List SV) : St := { fr := args ++ pad (n - args.length), hp := fun _ => none, us := fun _ => false, nx := 0, bk := [] }
def rdRes (s : St) : (rs : List Ty) → SV → Option (HL rs)
  | [t], v => (match rdArg s true t v with
    | some x => some (x, ())
    | none => none)
  | rs, .tup es => go rs es
  | _, _ => none
where
  go : (rs : List Ty) → List (Bool × List PV) → Option (HL rs)
    | [], [] => some ()
    | t :: ts, e :: es => bif Bool.xor e.1 t.agg then none else (match rdAll t ((psParts e.2).map (PV.res s)) with
      | some x => (match go ts es with
        | some y => some (x, y)
        | none => none)
      | none => none)
    | _, _ => none
/-- A slice of our own, read. -/
def rowOf (s : St) (t : Ty) : PV → Option (List t.D)
  | .row k => (match s.hp k with
    | some (.row u xs) => castD (.sl u) (.sl t) xs
    | _ => none)
  | .con (.slice none 0 0) => some []
  | _ => none
/-- What is handed back beside a slice of our own is not that slice. -/
def restOk (p : PV) : PV → Bool
  | .row j => (match p with
    | .row k => !(Nat.beq j k)
    | _ => true)
  | .sub _ _ _ _ _ => false
  | .bsl _ _ _ _ => false
  | _ => true
def restOkE (p : PV) : List (Bool × List PV) → Bool
  | [] => true
  | e :: r => (psParts e.2).all (restOk p) && restOkE p r
def rdOwn (s : St) : (rs : List Ty) → SV → Option (HL rs)
  | [.sl t], .one p => (match rowOf s t p with
    | some x => some (x, ())
    | none => none)
  | .sl t :: u :: r, .tup ((false, [p]) :: es) => bif restOkE p es then (match rowOf s t p, rdRes.go s (u :: r) es with
    | some x, some y => some (x, y)
    | _, _ => none) else none
  | _, _ => none
def eqHL : (rs : List Ty) → HL rs → HL rs → Prop
  | [], _, _ => True
  | [_], x, y => x.1 = y.1
  | _ :: ts, x, y => x.1 = y.1 ∧ eqHL ts x.2 y.2
/-- The same where the function's last argument is the program's function h. -/
def vcF (X : Fx) (n g h : Nat) (fn : Func) (c : Ctr) (x : HL c.as) : Prop :=
  match fn.body with
  | some b => code X (call X n) g b (start fn.ntmps (argsV c.as x ++ [.one (.con (.func (.func h) #[] #[]))])) (fun e s' => match e with
      | .exit _ => False
      | _ => (match resS X.E s' fn.results.toList with
        | some v => (match (bif c.own then (bif ownOk c.rs then rdOwn s' c.rs v else none) else rdRes s' c.rs v) with
          | some y => eqHL c.rs y (c.f x)
          | none => False)
        | none => False))
  | none => False
/-- The condition under which function g keeps contract c at the arguments x. -/
def vc (X : Fx) (n g : Nat) (fn : Func) (c : Ctr) (x : HL c.as) : Prop :=
  match fn.body with
  | some b => code X (call X n) g b (start fn.ntmps (argsV c.as x)) (fun e s' => match e with
      | .exit _ => False
      | _ => (match resS X.E s' fn.results.toList with
        | some v => (match (bif c.own then (bif ownOk c.rs then rdOwn s' c.rs v else none) else rdRes s' c.rs v) with
          | some y => eqHL c.rs y (c.f x)
          | none => False)
        | none => False))
  | none => False
/-- The condition under which function g keeps a contract that changes memory of ours. -/
def leX (s : St) (v : Inv) : Prop :=
  match trkSVs (trks v.heap) with
  | ts => (match ({ s with fr := padTo ts.length s.bk, bk := [] } : St), ({ v with slots := enumS 0 ts } : Inv) with
    | s1, v1 => le s1 v1 (Inv.st s1 v1))
def vcPr (X : Fx) (n g : Nat) (fn : Func) (p : Prc) (x : p.G) : Prop :=
  match fn.body with
  | some b => bif p.rs.all noSl && (Nat.ble p.n fn.ntmps && (distN (p.inv x).heap && sameNms (p.inv x).heap (p.inv (p.f x).1).heap)) then
      code X (call X n) g b { p.st x with fr := (p.st x).fr ++ pad (fn.ntmps - p.n), bk := trkSVs (trks (p.inv x).heap) } (fun e s' => match e with
      | .exit _ => False
      | _ => (match resS X.E s' fn.results.toList with
        | some v => (match rdRes s' p.rs v with
          | some y => eqHL p.rs y (p.f x).2 ∧ leX s' (p.inv (p.f x).1)
          | none => False)
        | none => False)) else False
  | none => False
end Go.Sx
