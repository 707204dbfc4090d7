/-
  Sx, part W: a loop's invariant told by its variables: which slots stay, which hold data, which hold memory of our own.
-/
import Derived.Test.YtpnmfoojmodnlaaSxRA
namespace Go.Sx

@[reducible] def I64 : Ty := .int .i64
@[reducible] def U64 : Ty := .int .u64
@[reducible] def I32 : Ty := .int .i32
@[reducible] def U32 : Ty := .int .u32
@[reducible] def I16 : Ty := .int .i16
@[reducible] def U16 : Ty := .int .u16
@[reducible] def I8 : Ty := .int .i8
@[reducible] def U8 : Ty := .int .u8
@[reducible] def Bo : Ty := .bool
@[reducible] def Str : Ty := .str
theorem holds_iff {p : Prop} : Holds p ↔ p := ⟨fun h => h.out, fun h => ⟨h⟩⟩

/-- What a variable's part holds: data, a slice of our own, or what it held. -/
inductive PS where
  | d (t : Ty)
  | row (t : Ty)
  | keep
  | lit (n : Int)
  | map (kk : IntKind) (t : Ty)
  | orp (n : Nat) (t : Ty)
  | rown (t : Ty)
@[reducible] def PS.G : PS → Type
  | .d t => t.D
  | .row t => List t.D
  | .keep => Unit
  | .lit _ => Unit
  | .map _ t => List (Int × t.D)
  | .orp _ t => List (List t.D)
  | .rown t => List t.D
@[reducible] def psG : List PS → Type
  | [] => Unit
  | p :: ps => match ps with
    | [] => p.G
    | _ :: _ => p.G × psG ps
/-- A slot that stays; a slot of data or of a slice of our own; a slot of an aggregate; a slot that points to a box of our own. -/
inductive LV where
  | keep (d : Nat)
  | one (d : Nat) (p : PS)
  | agg (d : Nat) (ps : List PS)
  | box (d : Nat) (ps : List PS)
  | own (d : Nat) (t : Ty)
  | ownm (d : Nat) (kk : IntKind) (t : Ty)
  | bk
  | itm (d : Nat) (kk : IntKind) (t : Ty)
  | pl (p : Nat) (t : Ty)
  | cb (d i : Nat) (ps : List PS)
@[reducible] def lvG : List LV → Type
  | [] => Unit
  | .keep _ :: r => lvG r
  | .bk :: r => lvG r
  | .one _ p :: r => p.G × lvG r
  | .agg _ ps :: r => psG ps × lvG r
  | .box _ ps :: r => psG ps × lvG r
  | .own _ t :: r => List t.D × lvG r
  | .ownm _ _ t :: r => List (Int × t.D) × lvG r
  | .itm _ _ t :: r => List (Int × t.D) × lvG r
  | .pl _ t :: r => List (Int × t.D) × lvG r
  | .cb _ _ ps :: r => psG ps × lvG r

def expLen : Ty → Nat
  | .pair a b => expLen a + expLen b
  | _ => 1
def hdPV : List PV → PV
  | [] => .any
  | p :: _ => p
def PS.mk (e : List PV) (n : Nat) : (p : PS) → p.G → List PV × List (Nat × HE) × Nat
  | .d t, x => (explode t x, [], n)
  | .row t, xs => ([.row n], [(n, .row t xs)], n + 1)
  | .keep, _ => ([hdPV e], [], n)
  | .lit i, _ => ([.d (.int .i64) i], [], n)
  | .map kk t, xs => ([.row n], [(n, .map kk t xs)], n + 1)
  | .orp m t, xss => ([.orp n m none], [(n, .orw t xss)], n + 1)
  | .rown t, xs => (match hdPV e with
    | .row k => ([.row k], [(k, .row t xs)], n)
    | q => ([q], [], n))
def PS.len : PS → Nat
  | .d t => expLen t
  | _ => 1
def psMk : (ps : List PS) → List PV → Nat → psG ps → List PV × List (Nat × HE) × Nat
  | [], _, n, _ => ([], [], n)
  | [p], e, n, x => p.mk e n x
  | p :: q :: r, e, n, x => (match p.mk e n x.1 with
    | (a, h, n1) => (match psMk (q :: r) (e.drop p.len) n1 x.2 with
      | (b, h', n2) => (a ++ b, h ++ h', n2)))
def PV.nms : PV → List Nat
  | .row k => [k]
  | .ptr k _ => [k]
  | .clo k => [k]
  | .rel k _ _ _ => [k]
  | .rea k _ _ _ _ _ _ _ => [k]
  | .pea k _ _ _ _ _ _ _ _ _ => [k]
  | .pel k _ _ _ _ _ => [k]
  | .sub k k' _ _ _ => [k, k']
  | .bsl k _ _ _ => [k]
  | .itr k _ => [k]
  | .orp k _ h => (match h with
    | none => [k]
    | some (_, k') => [k, k'])
  | _ => []
def psNms : List PV → List Nat
  | [] => []
  | p :: ps => p.nms ++ psNms ps
def SV.nms : SV → List Nat
  | .one p => p.nms
  | .agg ps => psNms ps
  | _ => []
def HE.nms : HE → List Nat
  | .box ps => psNms ps
  | .clo _ ps => psNms ps
  | _ => []
/-- What the names name, and what that names. -/
def addN (s : St) : Nat → List Nat → List (Nat × HE) → List (Nat × HE)
  | 0, _, acc => acc
  | _ + 1, [], acc => acc
  | f + 1, k :: r, acc => (match assoc acc k with
    | some _ => addN s f r acc
    | none => (match s.hp k with
      | some he => addN s f (he.nms ++ r) (acc ++ [(k, he)])
      | none => addN s f r acc))
def boxAt (s : St) (d : Nat) : List PV := match lget s.fr d with
  | .one (.ptr k _) => (match s.hp k with
    | some (.box ps) => ps
    | _ => [])
  | _ => []
def ptrAt (s : St) (d : Nat) : Nat := match lget s.fr d with
  | .one (.ptr k _) => k
  | _ => 0
def rowAt (s : St) (d : Nat) : Nat := match lget s.fr d with
  | .one (.row k) => k
  | _ => 0
/-- The box that a closure has caught at a place. -/
def nthP : List PV → Nat → PV
  | [], _ => .any
  | p :: _, 0 => p
  | _ :: r, n + 1 => nthP r n
def cbPtr (s : St) (d i : Nat) : Nat := match lget s.fr d with
  | .one (.clo c) => (match s.hp c with
    | some (.clo _ caps) => (match nthP caps i with
      | .ptr k _ => k
      | _ => 0)
    | _ => 0)
  | _ => 0
def cbBox (s : St) (d i : Nat) : List PV := match s.hp (cbPtr s d i) with
  | some (.box ps) => ps
  | _ => []
def agAt (s : St) (d : Nat) : List PV := match (lget s.fr d).parts with
  | some ps => ps
  | none => []
def slotOf (p : PS) (ps : List PV) : SV := match p with
  | .d t => (bif t.agg then .agg ps else .one (hdPV ps))
  | _ => .one (hdPV ps)
/-- What an iterator's slot goes over. -/
def itAt (s : St) (kk : IntKind) (t : Ty) (d : Nat) : Option (Nat × Nat × List (Int × t.D) × List (Int × t.D)) := match lget s.fr d with
  | .one (.itr k _) => (match s.hp k with
    | some (.mapit kk' u xs r rem _) => (match castM kk' u kk t xs, castM kk' u kk t rem with
      | some xs, some rem => some (k, r, xs, rem)
      | _, _ => none)
    | _ => none)
  | _ => none
/-- All the entries that an iteration goes over; and those that are left. -/
def St.its (s : St) (t : Ty) (d : Nat) : List (Int × t.D) := match itAt s .i64 t d with
  | some (_, _, xs, _) => xs
  | none => []
def plAt (s : St) (p : Nat) (t : Ty) : Option (List (Int × t.D)) := match s.hp (poolN p) with
  | some (.pool u m) => castM .i64 u .i64 t m
  | none => bif s.us (poolN p) then none else some []
  | _ => none
structure Mk where
  slots : List (Nat × SV)
  heap : List (Nat × HE)
  todo : List Nat
  nx : Nat
def bkNms : List SV → List Nat
  | [] => []
  | v :: r => v.nms ++ bkNms r
def lvMk (s : St) : (vs : List LV) → Nat → lvG vs → Mk
  | [], n, _ => ⟨[], [], [], n⟩
  | .keep d :: r, n, g => (match lvMk s r n g with
    | ⟨sl, h, td, n'⟩ => ⟨(d, lget s.fr d) :: sl, h, (lget s.fr d).nms ++ td, n'⟩)
  | .bk :: r, n, g => (match lvMk s r n g with
    | ⟨sl, h, td, n'⟩ => ⟨sl, h, bkNms s.bk ++ td, n'⟩)
  | .one d p :: r, n, g => (match p.mk [] n g.1 with
    | (ps, h1, n1) => (match lvMk s r n1 g.2 with
      | ⟨sl, h, td, n'⟩ => ⟨(d, slotOf p ps) :: sl, h1 ++ h, td, n'⟩))
  | .agg d ps :: r, n, g => (match psMk ps (agAt s d) n g.1 with
    | (qs, h1, n1) => (match lvMk s r n1 g.2 with
      | ⟨sl, h, td, n'⟩ => ⟨(d, .agg qs) :: sl, h1 ++ h, psNms qs ++ td, n'⟩))
  | .box d ps :: r, n, g => (match psMk ps (boxAt s d) n g.1 with
    | (qs, h1, n1) => (match lvMk s r n1 g.2 with
      | ⟨sl, h, td, n'⟩ => ⟨(d, lget s.fr d) :: sl, (ptrAt s d, .box qs) :: (h1 ++ h), psNms qs ++ td, n'⟩))
  | .own d t :: r, n, g => (match lvMk s r n g.2 with
    | ⟨sl, h, td, n'⟩ => ⟨(d, lget s.fr d) :: sl, (rowAt s d, .row t g.1) :: h, td, n'⟩)
  | .ownm d kk t :: r, n, g => (match lvMk s r n g.2 with
    | ⟨sl, h, td, n'⟩ => ⟨(d, lget s.fr d) :: sl, (rowAt s d, .map kk t g.1) :: h, td, n'⟩)
  | .itm d kk t :: r, n, g => (match lvMk s r n g.2 with
    | ⟨sl, h, td, n'⟩ => (match itAt s kk t d with
      | some (k, b, xs, _) => ⟨(d, lget s.fr d) :: sl, (k, .mapit kk t xs b g.1 none) :: h, td, n'⟩
      | none => ⟨(d, lget s.fr d) :: sl, h, td, n'⟩))
  | .cb d i ps :: r, n, g => (match psMk ps (cbBox s d i) n g.1 with
    | (qs, h1, n1) => (match lvMk s r n1 g.2 with
      | ⟨sl, h, td, n'⟩ => ⟨sl, (cbPtr s d i, .box qs) :: (h1 ++ h), psNms qs ++ td, n'⟩))
  | .pl p t :: r, n, g => (match lvMk s r n g.2 with
    | ⟨sl, h, td, n'⟩ => ⟨sl, (poolN p, .pool t g.1) :: h, td, n'⟩)
def PS.rd (s : St) : (p : PS) → List PV → Option (p.G × List PV)
  | .d t, ps => rdP t ps
  | .row t, ps => (match ps with
    | .row k :: r => (match s.hp k with
      | some (.row u xs) => (match castD (.sl u) (.sl t) xs with
        | some ys => some (ys, r)
        | none => none)
      | _ => none)
    | .con (.slice none 0 0) :: r => some ([], r)
    | _ => none)
  | .keep, ps => (match ps with
    | _ :: r => some ((), r)
    | [] => none)
  | .lit _, ps => (match ps with
    | _ :: r => some ((), r)
    | [] => none)
  | .map kk t, ps => (match ps with
    | .row k :: r => (match mapOf (s.hp k) with
      | some (kk', ⟨u, xs⟩) => (match castM kk' u kk t xs with
        | some ys => some (ys, r)
        | none => none)
      | none => none)
    | _ => none)
  | .orp m t, ps => (match ps with
    | .orp ko n h :: r => (match s.hp ko with
      | some (.orw u xss) => bif !(Nat.beq n m) then none else (match orwBack s u xss h with
        | some (_, xss1) => (match castD (.sl (.sl u)) (.sl (.sl t)) xss1 with
          | some yss => some (yss, r)
          | none => none)
        | none => none)
      | _ => none)
    | _ => none)
  | .rown t, ps => (match ps with
    | .row k :: r => (match s.hp k with
      | some (.row u xs) => (match castD (.sl u) (.sl t) xs with
        | some ys => some (ys, r)
        | none => none)
      | _ => none)
    | _ => none)
def psRd (s : St) : (ps : List PS) → List PV → Option (psG ps)
  | [], l => (match l with
    | [] => some ()
    | _ => none)
  | [p], l => (match p.rd s l with
    | some (x, []) => some x
    | _ => none)
  | p :: q :: r, l => (match p.rd s l with
    | some (x, l') => (match psRd s (q :: r) l' with
      | some y => some (x, y)
      | none => none)
    | none => none)
def lvRd (s : St) : (vs : List LV) → Option (lvG vs)
  | [] => some ()
  | .keep _ :: r => lvRd s r
  | .bk :: r => lvRd s r
  | .one d p :: r => (match psRd s [p] (agAt s d), lvRd s r with
    | some x, some y => some (x, y)
    | _, _ => none)
  | .agg d ps :: r => (match psRd s ps (agAt s d), lvRd s r with
    | some x, some y => some (x, y)
    | _, _ => none)
  | .box d ps :: r => (match psRd s ps (boxAt s d), lvRd s r with
    | some x, some y => some (x, y)
    | _, _ => none)
  | .own d t :: r => (match psRd s [.row t] (agAt s d), lvRd s r with
    | some x, some y => some (x, y)
    | _, _ => none)
  | .ownm d kk t :: r => (match psRd s [.map kk t] (agAt s d), lvRd s r with
    | some x, some y => some (x, y)
    | _, _ => none)
  | .itm d kk t :: r => (match itAt s kk t d, lvRd s r with
    | some (_, _, _, x), some y => some (x, y)
    | _, _ => none)
  | .cb d i ps :: r => (match psRd s ps (cbBox s d i), lvRd s r with
    | some x, some y => some (x, y)
    | _, _ => none)
  | .pl p t :: r => (match plAt s p t, lvRd s r with
    | some x, some y => some (x, y)
    | _, _ => none)
/-! ### What is told of the variables: their numbers fit their kinds, their lengths are lengths. -/
def PS.lens : (p : PS) → p.G → Prop
  | .d t, x => Lens t x
  | .row t, xs => Lens (.sl t) xs
  | .keep, _ => True
  | .lit _, _ => True
  | .map kk t, xs => ∀ e ∈ xs, IR kk e.1 ∧ Lens t e.2
  | .rown t, xs => Lens (.sl t) xs
  | .orp n t, xss => xss.length = n ∧ ∀ xs ∈ xss, xs.length ≤ 9223372036854775807 ∧ ∀ x ∈ xs, Lens t x
def psLens : (ps : List PS) → psG ps → Prop
  | [], _ => True
  | [p], x => p.lens x
  | p :: q :: r, x => p.lens x.1 ∧ psLens (q :: r) x.2
def lvLens : (vs : List LV) → lvG vs → Prop
  | [], _ => True
  | .keep _ :: r, g => lvLens r g
  | .bk :: r, g => lvLens r g
  | .one _ p :: r, g => p.lens g.1 ∧ lvLens r g.2
  | .agg _ ps :: r, g => psLens ps g.1 ∧ lvLens r g.2
  | .box _ ps :: r, g => psLens ps g.1 ∧ lvLens r g.2
  | .own _ t :: r, g => (PS.row t).lens g.1 ∧ lvLens r g.2
  | .ownm _ kk t :: r, g => (PS.map kk t).lens g.1 ∧ lvLens r g.2
  | .itm _ kk t :: r, g => (PS.map kk t).lens g.1 ∧ lvLens r g.2
  | .cb _ _ ps :: r, g => psLens ps g.1 ∧ lvLens r g.2
  | .pl _ t :: r, g => ((g.1.map (·.1)).Nodup ∧ ∀ e ∈ g.1, 0 ≤ e.1 ∧ Lens t e.2) ∧ lvLens r g.2
theorem MapC.lens {c : Cx} {kk : IntKind} {t : Ty} : ∀ {es : List MapEntry} {xs : List (Int × t.D)}, MapC c kk t es xs → ∀ e ∈ xs, IR kk e.1 ∧ Lens t e.2
  | [], [], _ => fun e he => by cases he
  | _ :: _, x :: xs, ⟨⟨_, h1, h2⟩, h3⟩ => fun e he => by
    rcases List.mem_cons.1 he with rfl | he
    · exact ⟨h1, h2.lens⟩
    · exact MapC.lens h3 e he
  | [], _ :: _, h => h.elim
  | _ :: _, [], h => h.elim
section
variable {w0 : Base} {ρ : Nat → Value} {s : St} {a : Act} {w : World}
theorem PS.rd_c (h : Ok w0 ρ s a w) {p : PS} {ps r : List PV} {x : p.G} {l : List Value} (hr : p.rd s ps = some (x, r)) (hl : PsC (cx w0 ρ s w) ps l) : p.lens x ∧ ∃ l', PsC (cx w0 ρ s w) r l' := by
  cases p with
  | d t =>
    obtain ⟨h1, h2⟩ := rdP_c (t := t) hr hl
    exact ⟨h1.lens, _, h2⟩
  | row t =>
    simp only [PS.rd] at hr
    split at hr
    · rename_i k r'
      split at hr
      · rename_i u xs hk
        split at hr
        · rename_i ys hc
          simp only [Option.some.injEq, Prod.mk.injEq] at hr
          obtain ⟨rfl, rfl⟩ := hr
          obtain ⟨e2, he2⟩ := castD_eq hc
          injection e2 with e2
          subst e2
          have he2 : xs = ys := he2
          subst he2
          obtain ⟨l1, l2, _, _, h2⟩ := hl
          refine ⟨?_, l2, h2⟩
          rcases h.heap k _ hk with ⟨_, rfl⟩ | ⟨b, q, cp, cur, e', _, _, h3, h4, _, h6⟩
          · exact ⟨by simp, fun x hx => by cases hx⟩
          · refine ⟨by simp only [maxLen] at h4; omega, fun x hx => ?_⟩
            obtain ⟨i, hi⟩ := List.mem_iff_getElem?.1 hx
            exact (h6 i x hi).lens
        · cases hr
      · cases hr
    · simp only [Option.some.injEq, Prod.mk.injEq] at hr
      obtain ⟨rfl, rfl⟩ := hr
      obtain ⟨l1, l2, _, _, h2⟩ := hl
      exact ⟨⟨by simp, fun x hx => by cases hx⟩, l2, h2⟩
    · cases hr
  | rown t =>
    simp only [PS.rd] at hr
    split at hr
    · rename_i k r'
      split at hr
      · rename_i u xs hk
        split at hr
        · rename_i ys hc
          simp only [Option.some.injEq, Prod.mk.injEq] at hr
          obtain ⟨rfl, rfl⟩ := hr
          obtain ⟨e2, he2⟩ := castD_eq hc
          injection e2 with e2
          subst e2
          have he2 : xs = ys := he2
          subst he2
          obtain ⟨l1, l2, _, _, h2⟩ := hl
          refine ⟨?_, l2, h2⟩
          rcases h.heap k _ hk with ⟨_, rfl⟩ | ⟨b, q, cp, cur, e', _, _, h3, h4, _, h6⟩
          · exact ⟨by simp, fun x hx => by cases hx⟩
          · refine ⟨by simp only [maxLen] at h4; omega, fun x hx => ?_⟩
            obtain ⟨i, hi⟩ := List.mem_iff_getElem?.1 hx
            exact (h6 i x hi).lens
        · cases hr
      · cases hr
    · cases hr
  | keep =>
    simp only [PS.rd] at hr
    split at hr
    · simp only [Option.some.injEq, Prod.mk.injEq] at hr
      obtain ⟨_, rfl⟩ := hr
      obtain ⟨l1, l2, _, _, h2⟩ := hl
      exact ⟨trivial, l2, h2⟩
    · cases hr
  | lit i =>
    simp only [PS.rd] at hr
    split at hr
    · simp only [Option.some.injEq, Prod.mk.injEq] at hr
      obtain ⟨_, rfl⟩ := hr
      obtain ⟨l1, l2, _, _, h2⟩ := hl
      exact ⟨trivial, l2, h2⟩
    · cases hr
  | map kk t =>
    simp only [PS.rd] at hr
    split at hr
    · rename_i k r'
      split at hr
      · rename_i kk' u xs hk
        split at hr
        · rename_i ys hc
          simp only [Option.some.injEq, Prod.mk.injEq] at hr
          obtain ⟨rfl, rfl⟩ := hr
          obtain ⟨l1, l2, _, _, h2⟩ := hl
          refine ⟨?_, l2, h2⟩
          unfold castM at hc
          split at hc
          · rename_i he
            obtain ⟨rfl, rfl⟩ := he
            cases hc
            obtain ⟨_, _, _, b, es, cl, _, _, h3, _⟩ := mapOf_c h hk
            exact MapC.lens h3
          · cases hc
        · cases hr
      · cases hr
    · cases hr
  | orp m t =>
    simp only [PS.rd] at hr
    split at hr
    · rename_i ko n g r'
      split at hr
      · rename_i u xss hk
        cases hb : Nat.beq n m with
        | false => rw [hb] at hr; cases hr
        | true =>
          rw [hb] at hr
          simp only [Bool.not_true, cond_false] at hr
          have hn := Nat.eq_of_beq_eq_true hb
          subst hn
          split at hr
          · rename_i s1 xss1 hbk
            split at hr
            · rename_i yss hc
              simp only [Option.some.injEq, Prod.mk.injEq] at hr
              obtain ⟨rfl, rfl⟩ := hr
              obtain ⟨e2, e3⟩ := castD_eq hc
              injection e2 with e2
              injection e2 with e2
              subst e2
              have e3 : xss1 = yss := e3
              subst e3
              obtain ⟨q, l2, _, hq, h2⟩ := hl
              obtain ⟨hH, hql, _⟩ := orw_open h hk hq hbk
              refine ⟨⟨by rw [← hH.1]; exact hql, fun xs hx => ?_⟩, l2, h2⟩
              obtain ⟨i, hi⟩ := List.mem_iff_getElem?.1 hx
              have hil : i < q.length := by rw [hH.1]; exact (List.getElem?_eq_some_iff.1 hi).1
              rcases hH.2.1 i _ xs (List.getElem?_eq_getElem hil) hi with ⟨_, rfl⟩ | ⟨b, o, cp, cur, e, _, _, g3, g4, _, g6⟩
              · exact ⟨by simp, fun x hx => by cases hx⟩
              · refine ⟨by simp only [maxLen] at g4; omega, fun x hx => ?_⟩
                obtain ⟨j, hj⟩ := List.mem_iff_getElem?.1 hx
                exact (g6 j x hj).lens
            · cases hr
          · cases hr
      · cases hr
    · cases hr
theorem psRd_c (h : Ok w0 ρ s a w) : ∀ {ps : List PS} {l : List PV} {g : psG ps} {cs : List Value}, psRd s ps l = some g → PsC (cx w0 ρ s w) l cs → psLens ps g
  | [], _, _, _, _, _ => trivial
  | [p], l, g, cs, hr, hl => by
    unfold psRd at hr
    split at hr
    · rename_i x hx
      simp only [Option.some.injEq] at hr
      subst hr
      exact (PS.rd_c h hx hl).1
    · cases hr
  | p :: q :: r, l, g, cs, hr, hl => by
    unfold psRd at hr
    split at hr
    · rename_i x l' hx
      split at hr
      · rename_i y hy
        simp only [Option.some.injEq] at hr
        subst hr
        obtain ⟨h1, l2, h2⟩ := PS.rd_c h hx hl
        exact ⟨h1, psRd_c h hy h2⟩
      · cases hr
    · cases hr
theorem agAt_c (h : Ok w0 ρ s a w) (d : Nat) : ∃ cs, PsC (cx w0 ρ s w) (agAt s d) cs := by
  unfold agAt
  split
  · rename_i ps hps
    exact ⟨_, SVparts_c (h.frame d) hps⟩
  · exact ⟨[], rfl⟩
theorem boxAt_c (h : Ok w0 ρ s a w) (d : Nat) : ∃ cs, PsC (cx w0 ρ s w) (boxAt s d) cs := by
  unfold boxAt
  split
  · split
    · rename_i k off _ ps hps
      obtain ⟨_, _, cs, _, _, h3⟩ := h.heap _ _ hps
      exact ⟨_, h3⟩
    · exact ⟨[], rfl⟩
  · exact ⟨[], rfl⟩
theorem cbBox_c (h : Ok w0 ρ s a w) (d i : Nat) : ∃ cs, PsC (cx w0 ρ s w) (cbBox s d i) cs := by
  unfold cbBox
  split
  · rename_i ps hps
    obtain ⟨_, _, cs, _, _, h3⟩ := h.heap _ _ hps
    exact ⟨_, h3⟩
  · exact ⟨[], rfl⟩
theorem lvRd_c (h : Ok w0 ρ s a w) : ∀ {vs : List LV} {g : lvG vs}, lvRd s vs = some g → lvLens vs g
  | [], _, _ => trivial
  | .keep _ :: r, g, hr => lvRd_c (vs := r) h hr
  | .bk :: r, g, hr => lvRd_c (vs := r) h hr
  | .one d p :: r, g, hr => by
    unfold lvRd at hr
    split at hr
    · rename_i x y hx hy
      simp only [Option.some.injEq] at hr
      subst hr
      obtain ⟨cs, hc⟩ := agAt_c h d
      exact ⟨psRd_c (ps := [p]) h hx hc, lvRd_c h hy⟩
    · cases hr
  | .agg d ps :: r, g, hr => by
    unfold lvRd at hr
    split at hr
    · rename_i x y hx hy
      simp only [Option.some.injEq] at hr
      subst hr
      obtain ⟨cs, hc⟩ := agAt_c h d
      exact ⟨psRd_c h hx hc, lvRd_c h hy⟩
    · cases hr
  | .box d ps :: r, g, hr => by
    unfold lvRd at hr
    split at hr
    · rename_i x y hx hy
      simp only [Option.some.injEq] at hr
      subst hr
      obtain ⟨cs, hc⟩ := boxAt_c h d
      exact ⟨psRd_c h hx hc, lvRd_c h hy⟩
    · cases hr
  | .own d t :: r, g, hr => by
    unfold lvRd at hr
    split at hr
    · rename_i x y hx hy
      simp only [Option.some.injEq] at hr
      subst hr
      obtain ⟨cs, hc⟩ := agAt_c h d
      exact ⟨psRd_c (ps := [.row t]) h hx hc, lvRd_c h hy⟩
    · cases hr
  | .ownm d kk t :: r, g, hr => by
    unfold lvRd at hr
    split at hr
    · rename_i x y hx hy
      simp only [Option.some.injEq] at hr
      subst hr
      obtain ⟨cs, hc⟩ := agAt_c h d
      exact ⟨psRd_c (ps := [.map kk t]) h hx hc, lvRd_c h hy⟩
    · cases hr
  | .itm d kk t :: r, g, hr => by
    unfold lvRd at hr
    split at hr
    · rename_i k b xs x y hx hy
      simp only [Option.some.injEq] at hr
      subst hr
      refine ⟨?_, lvRd_c h hy⟩
      unfold itAt at hx
      split at hx
      · split at hx
        · rename_i kk' u xs' r' rem' cur hk
          split at hx
          · rename_i xs2 rem2 hc hc2
            simp only [Option.some.injEq, Prod.mk.injEq] at hx
            obtain ⟨rfl, rfl, rfl, rfl⟩ := hx
            obtain ⟨rfl, rfl, hc2⟩ := castM_eq hc2
            have hc2 : rem' = rem2 := hc2
            subst hc2
            obtain ⟨_, _, _, _, _, _, _, _, h5, _⟩ := h.heap _ _ hk
            exact MapC.lens h5
          · cases hx
        · cases hx
      · cases hx
    · cases hr
  | .cb d i ps :: r, g, hr => by
    unfold lvRd at hr
    split at hr
    · rename_i x y hx hy
      simp only [Option.some.injEq] at hr
      subst hr
      obtain ⟨cs, hc⟩ := cbBox_c h d i
      exact ⟨psRd_c h hx hc, lvRd_c h hy⟩
    · cases hr
  | .pl p t :: r, g, hr => by
    unfold lvRd at hr
    split at hr
    · rename_i x y hx hy
      simp only [Option.some.injEq] at hr
      subst hr
      refine ⟨?_, lvRd_c h hy⟩
      unfold plAt at hx
      split at hx
      · rename_i u m hk
        obtain ⟨_, rfl, hc⟩ := castM_eq hx
        have hc : m = x := hc
        subst hc
        have hp := h.heap _ _ hk
        refine ⟨hp.1, fun e he => ?_⟩
        obtain ⟨g0, _, _, _, g2⟩ := hp.2 e he
        exact ⟨g0, g2.lens⟩
      · cases hus : s.us (poolN p) with
        | true => rw [hus] at hx; cases hx
        | false =>
          rw [hus] at hx
          simp only [cond_false, Option.some.injEq] at hx
          subst hx
          exact ⟨List.nodup_nil, fun e he => by cases he⟩
      · cases hx
    · cases hr
end
/-- The entries of a slot's map of our own. -/
def St.mp (s : St) (t : Ty) (d : Nat) : List (Int × t.D) := match lget s.fr d with
  | .one (.row k) => (match mapOf (s.hp k) with
    | some (kk, ⟨u, xs⟩) => (match castM kk u kk t xs with
      | some ys => ys
      | none => [])
    | none => [])
  | _ => []
/-- The entries of a map of our own that a box's part names. -/
def mpOf (s : St) (t : Ty) : List PV → List (Int × t.D)
  | .row n :: _ => (match mapOf (s.hp n) with
    | some (kk, ⟨u, xs⟩) => (match castM kk u .i64 t xs with
      | some ys => ys
      | none => [])
    | none => [])
  | _ => []
def St.bxm (s : St) (t : Ty) (d i : Nat) : List (Int × t.D) := mpOf s t ((boxAt s d).drop i)
/-- The box that the first pointer points to which a slot's closure has caught. -/
def boxOf (s : St) : List PV → List PV
  | .ptr b _ :: _ => (match s.hp b with
    | some (.box ps) => ps
    | _ => [])
  | _ => []
def capB (s : St) (d : Nat) : List PV := match lget s.fr d with
  | .one (.clo k) => (match s.hp k with
    | some (.clo _ ps) => boxOf s ps
    | _ => [])
  | _ => []
/-- What a closure caught: a number; or a pointer to a box whose part i is a map. -/
def capI : List PV → Option Int
  | [.d (.int .i64) t] => some t
  | _ => none
def St.capI (s : St) (d : Nat) : Option Int := Sx.capI (capB s d)
def St.capM (s : St) (d i : Nat) : List (Int × Bool) := mpOf s .bool ((boxOf s (capB s d)).drop i)
/-- An annotation by variables. -/
def Ann.by (vs : List LV) (ok : St → lvG vs → Prop) (m : St → lvG vs → Nat) : Ann where
  G := lvG vs
  ok := ok
  m := m
  inv := fun s g => match lvMk s vs s.nx g with
    | ⟨sl, h, td, n⟩ => { slots := sl, heap := addN s 1000 td h, nx := n }
  pick := fun _ s => lvRd s vs
  lens := lvLens vs
  told := fun _ _ _ _ _ _ _ h hr => lvRd_c h hr
/-- A pool's things. -/
def St.pool (s : St) (t : Ty) (p : Nat) : List (Int × t.D) := match plAt s p t with
  | some m => m
  | none => []
/-- The data of a part of a box, read. -/
def St.bxd (s : St) (t : Ty) (d i : Nat) : t.D := match rdP t (((boxAt s d).drop i).map (PV.res s)) with
  | some (x, _) => x
  | none => t.zero
/-- The slices of an array of slices of our own that a box's part names. -/
def orwOf (s : St) (t : Ty) : List PV → List (List t.D)
  | .orp ko _ _ :: _ => (match s.hp ko with
    | some (.orw u xss) => (match castD (.sl (.sl u)) (.sl (.sl t)) xss with
      | some yss => yss
      | none => [])
    | _ => [])
  | _ => []
def St.bxo (s : St) (t : Ty) (d i : Nat) : List (List t.D) := orwOf s t ((boxAt s d).drop i)
/-- The data of a slot, read. -/
def St.dat (s : St) (t : Ty) (d : Nat) : t.D := match rdP t ((agAt s d).map (PV.res s)) with
  | some (x, []) => x
  | _ => t.zero
end Go.Sx
